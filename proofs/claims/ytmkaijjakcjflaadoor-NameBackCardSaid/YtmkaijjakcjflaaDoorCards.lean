/-
  DERIVED. GIVEN WITH THE SEED: THE CARDS: each row of YtmkaijjakcjflaaDoorRows.lean that lists a variable, with what it lists TIED to the program's text (the seventh form; the later family's looks); each row that meets fmt, with fmt's text TOLD by the authors' own Lean function (tested against real Go, not proved from fmt's source: count such statements apart). THE CARD IS WHAT COUNTS. Prove the row's statement (the work); the ties are given (YtmkaijjakcjflaaDoorTie.lean); close each card by the builder's one call (the guide's Derived/Test/ToyasCard.lean, 'card_holds'). Laid BY PROGRAM, IN A SANDBOX (cutbox-door.mjs). By AI agents, Wed Nov 11 2026. No macro, syntax, notation, axiom, sorry.
-/
import Derived.Test.YtmkaijjakcjflaaDoorRows
import GoSem.ClaimSeven
namespace Go.Proofs.YtmkaijjakcjflaaDoor
namespace Rows

/-- THE TIED CARD OF 'gossamerlaw08.NameIs'. -/
def nameIsCard : Claim7 := { stood := { row := nameIsRow, standIns := [], harness := (true, "3295b12e6b93ecafd7b0ee15e079766a7f382243f192781ef3dee35ee9d91856"), looks := false }, kinds := [], alts := [], laidByText := true, laidKinds := [.data, .data, .data], laidTests := true, laidLooks := .later }
def NameIsCardSaid : Prop := Claim7.holds Tryd.pinned (.plain (OpenSpec.ofChange nameIsSpec)) nameIsCard

/-- THE TIED CARD OF 'gossamerlaw08.NameBack'. -/
def nameBackCard : Claim7 := { stood := { row := nameBackRow, standIns := [], harness := (true, "3295b12e6b93ecafd7b0ee15e079766a7f382243f192781ef3dee35ee9d91856"), looks := false }, kinds := [], alts := [], laidByText := true, laidKinds := [.data, .data, .data], laidTests := true, laidLooks := .later }
def NameBackCardSaid : Prop := Claim7.holds Tryd.pinned (.plain (OpenSpec.ofChange nameBackSpec)) nameBackCard

/-- THE SECOND FORM's CARD OF 'gossamerlaw08.NameIs'. -/
def nameIsUptoCard : Claim7 := { stood := { row := nameIsUptoRow, standIns := [], harness := (true, "3295b12e6b93ecafd7b0ee15e079766a7f382243f192781ef3dee35ee9d91856"), looks := false }, kinds := [], alts := [], laidByText := true, laidKinds := [.data, .data, .data], laidTests := true, laidLooks := .later }
def NameIsUptoCardSaid : Prop := Claim7.holds Tryd.pinned (.plain (OpenSpec.upto nameIsSpec)) nameIsUptoCard

/-- THE SECOND FORM's CARD OF 'gossamerlaw08.NameBack'. -/
def nameBackUptoCard : Claim7 := { stood := { row := nameBackUptoRow, standIns := [], harness := (true, "3295b12e6b93ecafd7b0ee15e079766a7f382243f192781ef3dee35ee9d91856"), looks := false }, kinds := [], alts := [], laidByText := true, laidKinds := [.data, .data, .data], laidTests := true, laidLooks := .later }
def NameBackUptoCardSaid : Prop := Claim7.holds Tryd.pinned (.plain (OpenSpec.upto nameBackSpec)) nameBackUptoCard
end Rows
end Go.Proofs.YtmkaijjakcjflaaDoor
