/-
  DERIVED. GIVEN WITH THE SEED: THE CARDS: each row of YtcpmicinibfepaaGreatDoorRows.lean that lists a variable, with what it lists TIED to the program's text (the seventh form; the later family's looks); each row that meets fmt, with fmt's text TOLD by the authors' own Lean function (tested against real Go, not proved from fmt's source: count such statements apart). THE CARD IS WHAT COUNTS. Prove the row's statement (the work); the ties are given (YtcpmicinibfepaaGreatDoorTie.lean); close each card by the builder's one call (the guide's Derived/Test/ToyasCard.lean, 'card_holds'). Laid BY PROGRAM, IN A SANDBOX (cutbox-door.mjs). By AI agents, Wed Nov 11 2026. No macro, syntax, notation, axiom, sorry.
-/
import Derived.Test.YtcpmicinibfepaaGreatDoorRows
import GoSem.ClaimSeven
namespace Go.Proofs.YtcpmicinibfepaaGreatDoor
namespace Rows

/-- THE TIED CARD OF 'gossamerlaw32.WalTrims'. -/
def walTrimsCard : Claim7 := { stood := { row := walTrimsRow, standIns := [], harness := (true, "8ec8b5540d8edc3d085a45933018a731ca91c39c6f418c267f5c21b6cd8779f2"), looks := false }, kinds := [], alts := [], laidByText := true, laidKinds := [.data, .data, .data], laidTests := true, laidLooks := .later }
def WalTrimsCardSaid : Prop := Claim7.holds Tryz.pinned (.plain (OpenSpec.ofChange walTrimsSpec)) walTrimsCard

/-- THE TIED CARD OF 'gossamerlaw32.WalCrash'. -/
def walCrashCard : Claim7 := { stood := { row := walCrashRow, standIns := [], harness := (true, "8ec8b5540d8edc3d085a45933018a731ca91c39c6f418c267f5c21b6cd8779f2"), looks := false }, kinds := [], alts := [], laidByText := true, laidKinds := [.data, .data, .data], laidTests := true, laidLooks := .later }
def WalCrashCardSaid : Prop := Claim7.holds Tryz.pinned (.plain (OpenSpec.ofChange walCrashSpec)) walCrashCard

/-- THE TIED CARD OF 'gossamerlaw33.ReplayRepairs'. -/
def replayRepairsCard : Claim7 := { stood := { row := replayRepairsRow, standIns := [], harness := (true, "8ec8b5540d8edc3d085a45933018a731ca91c39c6f418c267f5c21b6cd8779f2"), looks := false }, kinds := [], alts := [], laidByText := true, laidKinds := [.data, .data, .data], laidTests := true, laidLooks := .later }
def ReplayRepairsCardSaid : Prop := Claim7.holds Tryz.pinned (.plain (OpenSpec.ofChange replayRepairsSpec)) replayRepairsCard

/-- THE TIED CARD OF 'gossamerlaw33.ReplayGoesOn'. -/
def replayGoesOnCard : Claim7 := { stood := { row := replayGoesOnRow, standIns := [], harness := (true, "8ec8b5540d8edc3d085a45933018a731ca91c39c6f418c267f5c21b6cd8779f2"), looks := false }, kinds := [], alts := [], laidByText := true, laidKinds := [.data, .data, .data], laidTests := true, laidLooks := .later }
def ReplayGoesOnCardSaid : Prop := Claim7.holds Tryz.pinned (.plain (OpenSpec.ofChange replayGoesOnSpec)) replayGoesOnCard

/-- THE SECOND FORM's CARD OF 'gossamerlaw32.WalTrims'. -/
def walTrimsUptoCard : Claim7 := { stood := { row := walTrimsUptoRow, standIns := [], harness := (true, "8ec8b5540d8edc3d085a45933018a731ca91c39c6f418c267f5c21b6cd8779f2"), looks := false }, kinds := [], alts := [], laidByText := true, laidKinds := [.data, .data, .data], laidTests := true, laidLooks := .later }
def WalTrimsUptoCardSaid : Prop := Claim7.holds Tryz.pinned (.plain (OpenSpec.upto walTrimsSpec)) walTrimsUptoCard

/-- THE SECOND FORM's CARD OF 'gossamerlaw32.WalCrash'. -/
def walCrashUptoCard : Claim7 := { stood := { row := walCrashUptoRow, standIns := [], harness := (true, "8ec8b5540d8edc3d085a45933018a731ca91c39c6f418c267f5c21b6cd8779f2"), looks := false }, kinds := [], alts := [], laidByText := true, laidKinds := [.data, .data, .data], laidTests := true, laidLooks := .later }
def WalCrashUptoCardSaid : Prop := Claim7.holds Tryz.pinned (.plain (OpenSpec.upto walCrashSpec)) walCrashUptoCard

/-- THE SECOND FORM's CARD OF 'gossamerlaw33.ReplayRepairs'. -/
def replayRepairsUptoCard : Claim7 := { stood := { row := replayRepairsUptoRow, standIns := [], harness := (true, "8ec8b5540d8edc3d085a45933018a731ca91c39c6f418c267f5c21b6cd8779f2"), looks := false }, kinds := [], alts := [], laidByText := true, laidKinds := [.data, .data, .data], laidTests := true, laidLooks := .later }
def ReplayRepairsUptoCardSaid : Prop := Claim7.holds Tryz.pinned (.plain (OpenSpec.upto replayRepairsSpec)) replayRepairsUptoCard

/-- THE SECOND FORM's CARD OF 'gossamerlaw33.ReplayGoesOn'. -/
def replayGoesOnUptoCard : Claim7 := { stood := { row := replayGoesOnUptoRow, standIns := [], harness := (true, "8ec8b5540d8edc3d085a45933018a731ca91c39c6f418c267f5c21b6cd8779f2"), looks := false }, kinds := [], alts := [], laidByText := true, laidKinds := [.data, .data, .data], laidTests := true, laidLooks := .later }
def ReplayGoesOnUptoCardSaid : Prop := Claim7.holds Tryz.pinned (.plain (OpenSpec.upto replayGoesOnSpec)) replayGoesOnUptoCard
end Rows
end Go.Proofs.YtcpmicinibfepaaGreatDoor
