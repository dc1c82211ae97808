/-
  DERIVED. GIVEN WITH THE SEED: THE CARDS: each row of YtabccphcoojbjaaGreatDoorRows.lean that lists a variable, with what it lists TIED to the program's text (the seventh form; the later family's looks); each row that meets fmt, with fmt's text TOLD by the authors' own Lean function (tested against real Go, not proved from fmt's source: count such statements apart). THE CARD IS WHAT COUNTS. Prove the row's statement (the work); the ties are given (YtabccphcoojbjaaGreatDoorTie.lean); close each card by the builder's one call (the guide's Derived/Test/ToyasCard.lean, 'card_holds'). Laid BY PROGRAM, IN A SANDBOX (cutbox-door.mjs). By AI agents, Wed Nov 11 2026. No macro, syntax, notation, axiom, sorry.
-/
import Derived.Test.YtabccphcoojbjaaGreatDoorRows
import GoSem.ClaimSeven
namespace Go.Proofs.YtabccphcoojbjaaGreatDoor
namespace Rows

/-- THE TIED CARD OF 'gossamerlaw34.ManifestIs'. -/
def manifestIsCard : Claim7 := { stood := { row := manifestIsRow, standIns := [], harness := (true, "d071f0b99d8ec9edcc83f298b7647410db6f80fa21ed9d2248f6c7b1998644ed"), looks := false }, kinds := [], alts := [], laidByText := true, laidKinds := [.data, .data, .data], laidTests := true, laidLooks := .later }
def ManifestIsCardSaid : Prop := Claim7.holds Tryz.pinned (.plain (OpenSpec.ofChange manifestIsSpec)) manifestIsCard

/-- THE TIED CARD OF 'gossamerlaw34.ManifestPlays'. -/
def manifestPlaysCard : Claim7 := { stood := { row := manifestPlaysRow, standIns := [], harness := (true, "d071f0b99d8ec9edcc83f298b7647410db6f80fa21ed9d2248f6c7b1998644ed"), looks := false }, kinds := [], alts := [], laidByText := true, laidKinds := [.data, .data, .data], laidTests := true, laidLooks := .later }
def ManifestPlaysCardSaid : Prop := Claim7.holds Tryz.pinned (.plain (OpenSpec.ofChange manifestPlaysSpec)) manifestPlaysCard

/-- THE SECOND FORM's CARD OF 'gossamerlaw34.ManifestIs'. -/
def manifestIsUptoCard : Claim7 := { stood := { row := manifestIsUptoRow, standIns := [], harness := (true, "d071f0b99d8ec9edcc83f298b7647410db6f80fa21ed9d2248f6c7b1998644ed"), looks := false }, kinds := [], alts := [], laidByText := true, laidKinds := [.data, .data, .data], laidTests := true, laidLooks := .later }
def ManifestIsUptoCardSaid : Prop := Claim7.holds Tryz.pinned (.plain (OpenSpec.upto manifestIsSpec)) manifestIsUptoCard

/-- THE SECOND FORM's CARD OF 'gossamerlaw34.ManifestPlays'. -/
def manifestPlaysUptoCard : Claim7 := { stood := { row := manifestPlaysUptoRow, standIns := [], harness := (true, "d071f0b99d8ec9edcc83f298b7647410db6f80fa21ed9d2248f6c7b1998644ed"), looks := false }, kinds := [], alts := [], laidByText := true, laidKinds := [.data, .data, .data], laidTests := true, laidLooks := .later }
def ManifestPlaysUptoCardSaid : Prop := Claim7.holds Tryz.pinned (.plain (OpenSpec.upto manifestPlaysSpec)) manifestPlaysUptoCard
end Rows
end Go.Proofs.YtabccphcoojbjaaGreatDoor
