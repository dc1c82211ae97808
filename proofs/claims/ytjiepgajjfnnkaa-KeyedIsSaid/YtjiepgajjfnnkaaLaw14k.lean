/- The statements of layer 14 (keyed): the walk of KeyedIs, its two cases joined. -/
import Derived.Test.YtjiepgajjfnnkaaLaw14
namespace Go.Proofs.Ytjiepgajjfnnkaa
open Go.ChangeShapes Go.WideShapes Go.ChangeAt Go.RowKit Go.Deep BigP

theorem law14_KeyedIs (n : Int × Int × Int) (s : ByteArray) (h1 : I64 n.1) (h2 : I64 n.2.1) (h3 : I64 n.2.2) (w : World) :
    Calls Try.prog 9 #[.agg #[.int .i64 n.1, .int .i64 n.2.1, .int .i64 n.2.2], .string s] w fun e w' => e = .returned (.bool true) ∧ Below w.heap.size w w' := by
  rcases Nat.lt_or_ge 40 s.size with h | h
  · exact KeyedIs_long n s h w
  · exact KeyedIs_short n s h1 h2 h3 h w
end Go.Proofs.Ytjiepgajjfnnkaa
