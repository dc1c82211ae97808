/-
  DERIVED. GIVEN WITH THE SEED: THE CARDS: each row of YtabccphcoojbjaaDoorRows.lean that lists a variable, with what it lists TIED to the program's text (the seventh form; the later family's looks); each row that meets fmt, with fmt's text TOLD by the authors' own Lean function (tested against real Go, not proved from fmt's source: count such statements apart). THE CARD IS WHAT COUNTS. Prove the row's statement (the work); the ties are given (YtabccphcoojbjaaDoorTie.lean); close each card by the builder's one call (the guide's Derived/Test/ToyasCard.lean, 'card_holds'). Laid BY PROGRAM, IN A SANDBOX (cutbox-door.mjs). By AI agents, Wed Nov 11 2026. No macro, syntax, notation, axiom, sorry.
-/
import Derived.Test.YtabccphcoojbjaaDoorRows
import GoSem.ClaimSeven
namespace Go.Proofs.YtabccphcoojbjaaDoor
namespace Rows

/-- THE TIED CARD OF 'gossamerlaw34.ManifestSwap'. -/
def manifestSwapCard : Claim7 := { stood := { row := manifestSwapRow, standIns := [], harness := (true, "2c543f68fb8c3ffcb205d054aa5e2a747f1d8ce7397eada093c97ddaa052b0ca"), looks := false }, kinds := [], alts := [], laidByText := true, laidKinds := [.data, .data, .data], laidTests := true, laidLooks := .later }
def ManifestSwapCardSaid : Prop := Claim7.holds Tryd.pinned (.plain (OpenSpec.ofChange manifestSwapSpec)) manifestSwapCard

/-- THE SECOND FORM's CARD OF 'gossamerlaw34.ManifestSwap'. -/
def manifestSwapUptoCard : Claim7 := { stood := { row := manifestSwapUptoRow, standIns := [], harness := (true, "2c543f68fb8c3ffcb205d054aa5e2a747f1d8ce7397eada093c97ddaa052b0ca"), looks := false }, kinds := [], alts := [], laidByText := true, laidKinds := [.data, .data, .data], laidTests := true, laidLooks := .later }
def ManifestSwapUptoCardSaid : Prop := Claim7.holds Tryd.pinned (.plain (OpenSpec.upto manifestSwapSpec)) manifestSwapUptoCard
end Rows
end Go.Proofs.YtabccphcoojbjaaDoor
