/-
  No cell of these rows narrows 'for every input' (looked for: loops, veiled, ifaces, maps, wideKeys, modest, calm, conditions, laid).
  DERIVED. THE GIVEN ROWS OF THIS SEAT. 9 by the template 'for every input the law returns true; each argument reads behind the call as it read before'; 0 by the template 'total and deterministic' (their statements: YtjiepgajjfnnkaaTotals.lean).
  GIVEN WITH THE SEED: the statements are not yours to turn. If you find one false, say at which input.
  Laid BY PROGRAM, IN A SANDBOX (cutbox-rows.mjs): the forced cells as the released guide's own fill.sh prints them over the translation b3c71cb7a89870fe… (all of the seat's roots in one cut). By AI agents, Wed Nov 11 2026. No macro, syntax, notation, axiom, sorry.
-/
import Derived.Test.YtjiepgajjfnnkaaChecked
import GoSem.Claim
import GoSem.ClaimJoined
import GoSem.ClaimMapViews
import Derived.JoinedTies
import Derived.KernelRfl
namespace Go.Proofs.Ytjiepgajjfnnkaa
/- THE CELL 'sum', in the pinned program and in every row, IS THE sha256 OF THE DUMP (.gsa) THAT YtjiepgajjfnnkaaProg.lean LOADS. Nothing in Lean hashes anything: it is a label: what it is worth is what the hold of that sum in a sandbox is worth. -/
noncomputable def Try.pinned : Pinned := { name := "ytjiepgajjfnnkaa", sum := "b3c71cb7a89870fe752c034888c739dc7ee2ddefc1b8d7282db876bbc7ef1f9a", checked := Try.checked }
namespace Rows
def none {H : Type} : Left H := { results := [], args := [] }

/-- 'gossamerlaw24.BucketIs': WHATEVER THE INPUT: true; the input reads as it did. -/
def bucketIsSpec : ChangeSpec := { name := "bucketIs", fn := fun _ => fun
  | [d1, d2, d3] => { results := [.lit (.bool true)], args := [d1, d2, d3] }
  | _ => none }
def bucketIsRow : OpenClaim := { program := "ytjiepgajjfnnkaa", sum := "b3c71cb7a89870fe752c034888c739dc7ee2ddefc1b8d7282db876bbc7ef1f9a", func := "gossamer/gossamerlaw24.BucketIs", spec := "bucketIs", apart := false }
def BucketIsSaid : Prop := bucketIsRow.holds Try.pinned (OpenSpec.ofChange bucketIsSpec)

/-- ITS FALSE NEIGHBOUR: 'it returns false'. Refute it at one input. -/
def bucketIsWrong : ChangeSpec := { name := "bucketIs", fn := fun _ => fun
  | [d1, d2, d3] => { results := [.lit (.bool false)], args := [d1, d2, d3] }
  | _ => none }
def BucketIsWrongFalsely : Prop := bucketIsRow.holds Try.pinned (OpenSpec.ofChange bucketIsWrong)

/-- 'gossamerlaw24.BucketOnce': WHATEVER THE INPUT: true; the input reads as it did. -/
def bucketOnceSpec : ChangeSpec := { name := "bucketOnce", fn := fun _ => fun
  | [d1, d2] => { results := [.lit (.bool true)], args := [d1, d2] }
  | _ => none }
def bucketOnceRow : OpenClaim := { program := "ytjiepgajjfnnkaa", sum := "b3c71cb7a89870fe752c034888c739dc7ee2ddefc1b8d7282db876bbc7ef1f9a", func := "gossamer/gossamerlaw24.BucketOnce", spec := "bucketOnce", apart := false }
def BucketOnceSaid : Prop := bucketOnceRow.holds Try.pinned (OpenSpec.ofChange bucketOnceSpec)

/-- ITS FALSE NEIGHBOUR: 'it returns false'. Refute it at one input. -/
def bucketOnceWrong : ChangeSpec := { name := "bucketOnce", fn := fun _ => fun
  | [d1, d2] => { results := [.lit (.bool false)], args := [d1, d2] }
  | _ => none }
def BucketOnceWrongFalsely : Prop := bucketOnceRow.holds Try.pinned (OpenSpec.ofChange bucketOnceWrong)

/-- 'gossamerlaw03.SatIs': WHATEVER THE INPUT: true; the input reads as it did. -/
def satIsSpec : ChangeSpec := { name := "satIs", fn := fun _ => fun
  | [d1, d2, d3] => { results := [.lit (.bool true)], args := [d1, d2, d3] }
  | _ => none }
def satIsRow : OpenClaim := { program := "ytjiepgajjfnnkaa", sum := "b3c71cb7a89870fe752c034888c739dc7ee2ddefc1b8d7282db876bbc7ef1f9a", func := "gossamer/gossamerlaw03.SatIs", spec := "satIs", apart := false }
def SatIsSaid : Prop := satIsRow.holds Try.pinned (OpenSpec.ofChange satIsSpec)

/-- ITS FALSE NEIGHBOUR: 'it returns false'. Refute it at one input. -/
def satIsWrong : ChangeSpec := { name := "satIs", fn := fun _ => fun
  | [d1, d2, d3] => { results := [.lit (.bool false)], args := [d1, d2, d3] }
  | _ => none }
def SatIsWrongFalsely : Prop := satIsRow.holds Try.pinned (OpenSpec.ofChange satIsWrong)

/-- 'gossamerlaw03.SatExact': WHATEVER THE INPUT: true; the input reads as it did. -/
def satExactSpec : ChangeSpec := { name := "satExact", fn := fun _ => fun
  | [d1, d2] => { results := [.lit (.bool true)], args := [d1, d2] }
  | _ => none }
def satExactRow : OpenClaim := { program := "ytjiepgajjfnnkaa", sum := "b3c71cb7a89870fe752c034888c739dc7ee2ddefc1b8d7282db876bbc7ef1f9a", func := "gossamer/gossamerlaw03.SatExact", spec := "satExact", apart := false }
def SatExactSaid : Prop := satExactRow.holds Try.pinned (OpenSpec.ofChange satExactSpec)

/-- ITS FALSE NEIGHBOUR: 'it returns false'. Refute it at one input. -/
def satExactWrong : ChangeSpec := { name := "satExact", fn := fun _ => fun
  | [d1, d2] => { results := [.lit (.bool false)], args := [d1, d2] }
  | _ => none }
def SatExactWrongFalsely : Prop := satExactRow.holds Try.pinned (OpenSpec.ofChange satExactWrong)

/-- 'gossamerlaw03.SatOrder': WHATEVER THE INPUT: true; the input reads as it did. -/
def satOrderSpec : ChangeSpec := { name := "satOrder", fn := fun _ => fun
  | [d1, d2, d3] => { results := [.lit (.bool true)], args := [d1, d2, d3] }
  | _ => none }
def satOrderRow : OpenClaim := { program := "ytjiepgajjfnnkaa", sum := "b3c71cb7a89870fe752c034888c739dc7ee2ddefc1b8d7282db876bbc7ef1f9a", func := "gossamer/gossamerlaw03.SatOrder", spec := "satOrder", apart := false }
def SatOrderSaid : Prop := satOrderRow.holds Try.pinned (OpenSpec.ofChange satOrderSpec)

/-- ITS FALSE NEIGHBOUR: 'it returns false'. Refute it at one input. -/
def satOrderWrong : ChangeSpec := { name := "satOrder", fn := fun _ => fun
  | [d1, d2, d3] => { results := [.lit (.bool false)], args := [d1, d2, d3] }
  | _ => none }
def SatOrderWrongFalsely : Prop := satOrderRow.holds Try.pinned (OpenSpec.ofChange satOrderWrong)

/-- 'gossamerlaw03.SatEnds': WHATEVER THE INPUT: true; the input reads as it did. -/
def satEndsSpec : ChangeSpec := { name := "satEnds", fn := fun _ => fun
  | [d] => { results := [.lit (.bool true)], args := [d] }
  | _ => none }
def satEndsRow : OpenClaim := { program := "ytjiepgajjfnnkaa", sum := "b3c71cb7a89870fe752c034888c739dc7ee2ddefc1b8d7282db876bbc7ef1f9a", func := "gossamer/gossamerlaw03.SatEnds", spec := "satEnds", apart := false }
def SatEndsSaid : Prop := satEndsRow.holds Try.pinned (OpenSpec.ofChange satEndsSpec)

/-- ITS FALSE NEIGHBOUR: 'it returns false'. Refute it at one input. -/
def satEndsWrong : ChangeSpec := { name := "satEnds", fn := fun _ => fun
  | [d] => { results := [.lit (.bool false)], args := [d] }
  | _ => none }
def SatEndsWrongFalsely : Prop := satEndsRow.holds Try.pinned (OpenSpec.ofChange satEndsWrong)

/-- 'gossamerlaw14.KeyedIs': WHATEVER THE INPUT: true; the input reads as it did. -/
def keyedIsSpec : ChangeSpec := { name := "keyedIs", fn := fun _ => fun
  | [d1, d2] => { results := [.lit (.bool true)], args := [d1, d2] }
  | _ => none }
def keyedIsRow : OpenClaim := { program := "ytjiepgajjfnnkaa", sum := "b3c71cb7a89870fe752c034888c739dc7ee2ddefc1b8d7282db876bbc7ef1f9a", func := "gossamer/gossamerlaw14.KeyedIs", spec := "keyedIs", apart := false }
def KeyedIsSaid : Prop := keyedIsRow.holds Try.pinned (OpenSpec.ofChange keyedIsSpec)

/-- ITS FALSE NEIGHBOUR: 'it returns false'. Refute it at one input. -/
def keyedIsWrong : ChangeSpec := { name := "keyedIs", fn := fun _ => fun
  | [d1, d2] => { results := [.lit (.bool false)], args := [d1, d2] }
  | _ => none }
def KeyedIsWrongFalsely : Prop := keyedIsRow.holds Try.pinned (OpenSpec.ofChange keyedIsWrong)

/-- 'gossamerlaw14.KeyedOrder': WHATEVER THE INPUT: true; the input reads as it did. -/
def keyedOrderSpec : ChangeSpec := { name := "keyedOrder", fn := fun _ => fun
  | [d1, d2, d3] => { results := [.lit (.bool true)], args := [d1, d2, d3] }
  | _ => none }
def keyedOrderRow : OpenClaim := { program := "ytjiepgajjfnnkaa", sum := "b3c71cb7a89870fe752c034888c739dc7ee2ddefc1b8d7282db876bbc7ef1f9a", func := "gossamer/gossamerlaw14.KeyedOrder", spec := "keyedOrder", apart := false }
def KeyedOrderSaid : Prop := keyedOrderRow.holds Try.pinned (OpenSpec.ofChange keyedOrderSpec)

/-- ITS FALSE NEIGHBOUR: 'it returns false'. Refute it at one input. -/
def keyedOrderWrong : ChangeSpec := { name := "keyedOrder", fn := fun _ => fun
  | [d1, d2, d3] => { results := [.lit (.bool false)], args := [d1, d2, d3] }
  | _ => none }
def KeyedOrderWrongFalsely : Prop := keyedOrderRow.holds Try.pinned (OpenSpec.ofChange keyedOrderWrong)

/-- 'gossamerlaw14.KeyedBack': WHATEVER THE INPUT: true; the input reads as it did. -/
def keyedBackSpec : ChangeSpec := { name := "keyedBack", fn := fun _ => fun
  | [d1, d2] => { results := [.lit (.bool true)], args := [d1, d2] }
  | _ => none }
def keyedBackRow : OpenClaim := { program := "ytjiepgajjfnnkaa", sum := "b3c71cb7a89870fe752c034888c739dc7ee2ddefc1b8d7282db876bbc7ef1f9a", func := "gossamer/gossamerlaw14.KeyedBack", spec := "keyedBack", apart := false }
def KeyedBackSaid : Prop := keyedBackRow.holds Try.pinned (OpenSpec.ofChange keyedBackSpec)

/-- ITS FALSE NEIGHBOUR: 'it returns false'. Refute it at one input. -/
def keyedBackWrong : ChangeSpec := { name := "keyedBack", fn := fun _ => fun
  | [d1, d2] => { results := [.lit (.bool false)], args := [d1, d2] }
  | _ => none }
def KeyedBackWrongFalsely : Prop := keyedBackRow.holds Try.pinned (OpenSpec.ofChange keyedBackWrong)

/- THE SECOND FORM. 'bulk': how many values and letters a reading holds, each counted each time it is reached (what is shared counts as often as it is met; a slice's spare places count too). A statement '..UptoSaid' is the law's where the arguments, and the package variables that the reading takes, are together of bulk at most 1048576: NARROWER than '..Said'. Prove '..Said' where nothing that the law and all that it calls make is longer than what came in: it says more and counts as full. Else prove '..UptoSaid'. A law counts once. -/
mutual
def uptoBulk {H : Type} : DataW H → Nat
  | .lit (.string bytes) => bytes.length + 1
  | .lit _ => 1
  | .nil => 1
  | .ptr d => uptoBulk d + 1
  | .slice elems spare => uptoBulkAll elems + uptoBulkAll spare + 1
  | .agg parts => uptoBulkAll parts + 1
  | .iface _ d => uptoBulk d + 1
  | .map entries => uptoBulkEntries entries + 1
  | .held _ => 1
def uptoBulkAll {H : Type} : List (DataW H) → Nat
  | [] => 0
  | d :: r => uptoBulk d + uptoBulkAll r
def uptoBulkEntries {H : Type} : List (Lit × DataW H) → Nat
  | [] => 0
  | x :: r => uptoBulkEntry x + uptoBulkEntries r
def uptoBulkEntry {H : Type} : Lit × DataW H → Nat
  | (.string bytes, d) => bytes.length + uptoBulk d + 1
  | (_, d) => uptoBulk d + 1
 end
def uptoSmall : (H : Type) → List (DataW H) → Bool := fun _ ds => decide (uptoBulkAll ds ≤ 1048576)
def OpenSpec.upto (s : _root_.Go.ChangeSpec) : _root_.Go.OpenSpec := { _root_.Go.OpenSpec.ofChange s with cond := some uptoSmall }

/-- 'gossamerlaw24.BucketIs', WHERE WHAT IT READS IS OF BULK AT MOST 1048576: true; the input reads as it did. -/
def bucketIsUptoRow : OpenClaim := { program := "ytjiepgajjfnnkaa", sum := "b3c71cb7a89870fe752c034888c739dc7ee2ddefc1b8d7282db876bbc7ef1f9a", func := "gossamer/gossamerlaw24.BucketIs", spec := "bucketIs", apart := false, narrowed := true }
def BucketIsUptoSaid : Prop := bucketIsUptoRow.holds Try.pinned (OpenSpec.upto bucketIsSpec)

/-- 'gossamerlaw24.BucketOnce', WHERE WHAT IT READS IS OF BULK AT MOST 1048576: true; the input reads as it did. -/
def bucketOnceUptoRow : OpenClaim := { program := "ytjiepgajjfnnkaa", sum := "b3c71cb7a89870fe752c034888c739dc7ee2ddefc1b8d7282db876bbc7ef1f9a", func := "gossamer/gossamerlaw24.BucketOnce", spec := "bucketOnce", apart := false, narrowed := true }
def BucketOnceUptoSaid : Prop := bucketOnceUptoRow.holds Try.pinned (OpenSpec.upto bucketOnceSpec)

/-- 'gossamerlaw03.SatIs', WHERE WHAT IT READS IS OF BULK AT MOST 1048576: true; the input reads as it did. -/
def satIsUptoRow : OpenClaim := { program := "ytjiepgajjfnnkaa", sum := "b3c71cb7a89870fe752c034888c739dc7ee2ddefc1b8d7282db876bbc7ef1f9a", func := "gossamer/gossamerlaw03.SatIs", spec := "satIs", apart := false, narrowed := true }
def SatIsUptoSaid : Prop := satIsUptoRow.holds Try.pinned (OpenSpec.upto satIsSpec)

/-- 'gossamerlaw03.SatExact', WHERE WHAT IT READS IS OF BULK AT MOST 1048576: true; the input reads as it did. -/
def satExactUptoRow : OpenClaim := { program := "ytjiepgajjfnnkaa", sum := "b3c71cb7a89870fe752c034888c739dc7ee2ddefc1b8d7282db876bbc7ef1f9a", func := "gossamer/gossamerlaw03.SatExact", spec := "satExact", apart := false, narrowed := true }
def SatExactUptoSaid : Prop := satExactUptoRow.holds Try.pinned (OpenSpec.upto satExactSpec)

/-- 'gossamerlaw03.SatOrder', WHERE WHAT IT READS IS OF BULK AT MOST 1048576: true; the input reads as it did. -/
def satOrderUptoRow : OpenClaim := { program := "ytjiepgajjfnnkaa", sum := "b3c71cb7a89870fe752c034888c739dc7ee2ddefc1b8d7282db876bbc7ef1f9a", func := "gossamer/gossamerlaw03.SatOrder", spec := "satOrder", apart := false, narrowed := true }
def SatOrderUptoSaid : Prop := satOrderUptoRow.holds Try.pinned (OpenSpec.upto satOrderSpec)

/-- 'gossamerlaw03.SatEnds', WHERE WHAT IT READS IS OF BULK AT MOST 1048576: true; the input reads as it did. -/
def satEndsUptoRow : OpenClaim := { program := "ytjiepgajjfnnkaa", sum := "b3c71cb7a89870fe752c034888c739dc7ee2ddefc1b8d7282db876bbc7ef1f9a", func := "gossamer/gossamerlaw03.SatEnds", spec := "satEnds", apart := false, narrowed := true }
def SatEndsUptoSaid : Prop := satEndsUptoRow.holds Try.pinned (OpenSpec.upto satEndsSpec)

/-- 'gossamerlaw14.KeyedIs', WHERE WHAT IT READS IS OF BULK AT MOST 1048576: true; the input reads as it did. -/
def keyedIsUptoRow : OpenClaim := { program := "ytjiepgajjfnnkaa", sum := "b3c71cb7a89870fe752c034888c739dc7ee2ddefc1b8d7282db876bbc7ef1f9a", func := "gossamer/gossamerlaw14.KeyedIs", spec := "keyedIs", apart := false, narrowed := true }
def KeyedIsUptoSaid : Prop := keyedIsUptoRow.holds Try.pinned (OpenSpec.upto keyedIsSpec)

/-- 'gossamerlaw14.KeyedOrder', WHERE WHAT IT READS IS OF BULK AT MOST 1048576: true; the input reads as it did. -/
def keyedOrderUptoRow : OpenClaim := { program := "ytjiepgajjfnnkaa", sum := "b3c71cb7a89870fe752c034888c739dc7ee2ddefc1b8d7282db876bbc7ef1f9a", func := "gossamer/gossamerlaw14.KeyedOrder", spec := "keyedOrder", apart := false, narrowed := true }
def KeyedOrderUptoSaid : Prop := keyedOrderUptoRow.holds Try.pinned (OpenSpec.upto keyedOrderSpec)

/-- 'gossamerlaw14.KeyedBack', WHERE WHAT IT READS IS OF BULK AT MOST 1048576: true; the input reads as it did. -/
def keyedBackUptoRow : OpenClaim := { program := "ytjiepgajjfnnkaa", sum := "b3c71cb7a89870fe752c034888c739dc7ee2ddefc1b8d7282db876bbc7ef1f9a", func := "gossamer/gossamerlaw14.KeyedBack", spec := "keyedBack", apart := false, narrowed := true }
def KeyedBackUptoSaid : Prop := keyedBackUptoRow.holds Try.pinned (OpenSpec.upto keyedBackSpec)

end Rows
end Go.Proofs.Ytjiepgajjfnnkaa
