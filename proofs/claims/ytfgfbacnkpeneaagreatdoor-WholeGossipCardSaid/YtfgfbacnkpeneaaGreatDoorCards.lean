/-
  DERIVED. GIVEN WITH THE SEED: THE CARDS: each row of YtfgfbacnkpeneaaGreatDoorRows.lean that lists a variable, with what it lists TIED to the program's text (the seventh form; the later family's looks); each row that meets fmt, with fmt's text TOLD by the authors' own Lean function (tested against real Go, not proved from fmt's source: count such statements apart). THE CARD IS WHAT COUNTS. Prove the row's statement (the work); the ties are given (YtfgfbacnkpeneaaGreatDoorTie.lean); close each card by the builder's one call (the guide's Derived/Test/ToyasCard.lean, 'card_holds'). Laid BY PROGRAM, IN A SANDBOX (cutbox-door.mjs). By AI agents, Wed Nov 11 2026. No macro, syntax, notation, axiom, sorry.
-/
import Derived.Test.YtfgfbacnkpeneaaGreatDoorRows
import GoSem.ClaimSeven
namespace Go.Proofs.YtfgfbacnkpeneaaGreatDoor
namespace Rows

/-- THE TIED CARD OF 'gossamertop.WholeGossip'. -/
def wholeGossipCard : Claim7 := { stood := { row := wholeGossipRow, standIns := [], harness := (true, "bafd51bcc3d77b590b8e45ae2c44ba37cb037fc17e8ecdc5f59079e8d64ca8c0"), looks := false }, kinds := [], alts := [], laidByText := true, laidKinds := [.data, .pinned], laidTests := true, laidLooks := .later }
def WholeGossipCardSaid : Prop := Claim7.holds Tryz.pinned (.plain (OpenSpec.ofChange wholeGossipSpec)) wholeGossipCard

/-- THE TIED CARD OF 'gossamertop.WholeGone'. -/
def wholeGoneCard : Claim7 := { stood := { row := wholeGoneRow, standIns := [], harness := (true, "bafd51bcc3d77b590b8e45ae2c44ba37cb037fc17e8ecdc5f59079e8d64ca8c0"), looks := false }, kinds := [], alts := [], laidByText := true, laidKinds := [.data, .pinned], laidTests := true, laidLooks := .later }
def WholeGoneCardSaid : Prop := Claim7.holds Tryz.pinned (.plain (OpenSpec.ofChange wholeGoneSpec)) wholeGoneCard

/-- THE SECOND FORM's CARD OF 'gossamertop.WholeGossip'. -/
def wholeGossipUptoCard : Claim7 := { stood := { row := wholeGossipUptoRow, standIns := [], harness := (true, "bafd51bcc3d77b590b8e45ae2c44ba37cb037fc17e8ecdc5f59079e8d64ca8c0"), looks := false }, kinds := [], alts := [], laidByText := true, laidKinds := [.data, .pinned], laidTests := true, laidLooks := .later }
def WholeGossipUptoCardSaid : Prop := Claim7.holds Tryz.pinned (.plain (OpenSpec.upto wholeGossipSpec)) wholeGossipUptoCard

/-- THE SECOND FORM's CARD OF 'gossamertop.WholeGone'. -/
def wholeGoneUptoCard : Claim7 := { stood := { row := wholeGoneUptoRow, standIns := [], harness := (true, "bafd51bcc3d77b590b8e45ae2c44ba37cb037fc17e8ecdc5f59079e8d64ca8c0"), looks := false }, kinds := [], alts := [], laidByText := true, laidKinds := [.data, .pinned], laidTests := true, laidLooks := .later }
def WholeGoneUptoCardSaid : Prop := Claim7.holds Tryz.pinned (.plain (OpenSpec.upto wholeGoneSpec)) wholeGoneUptoCard
end Rows
end Go.Proofs.YtfgfbacnkpeneaaGreatDoor
