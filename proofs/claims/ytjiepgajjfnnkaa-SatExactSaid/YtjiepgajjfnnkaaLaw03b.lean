/- The statements of layer 3 (sat): the walk of SatExact. -/
import Derived.Test.YtjiepgajjfnnkaaLaw03
namespace Go.Proofs.Ytjiepgajjfnnkaa
open Go.ChangeShapes Go.WideShapes Go.ChangeAt Go.RowKit Go.Deep

theorem law03_SatExact (a b : Int) (ha : I64 a) (hb : I64 b) (w : World) :
    Calls Try.prog 6 #[.int .i64 a, .int .i64 b] w fun e w' => e = .returned (.bool true) ∧ Below w.heap.size w w' := by
  unfold I64 at ha hb
  have f1 : addS (a / 4) (b / 4) = a / 4 + b / 4 := by unfold addS clampS; omega
  have f2 : subS (a / 4) (b / 4) = a / 4 - b / 4 := by unfold subS clampS; omega
  have f3 : subS (a / 4 + b / 4) (b / 4) = a / 4 := by unfold subS clampS; omega
  have f4 : addS a 0 = a := by unfold addS clampS; omega
  have f5 : subS a 0 = a := by unfold subS clampS; omega
  have f6 : (addS a b == addS b a) = true := by rw [beq_iff_eq]; unfold addS; rw [Int.add_comm]
  go_enter Try.func6, Try.ntmps6
  go_wp2_with (first
    | (go_at_call 18; refine (sat_Add _ _ (I64_mk (by omega)) (I64_mk (by omega)) _).mono ?_; rintro e w1 ⟨rfl, rfl⟩)
    | (go_at_call 20; refine (sat_Sub _ _ (I64_mk (by omega)) (I64_mk (by omega)) _).mono ?_; rintro e w1 ⟨rfl, rfl⟩)
    | (go_at_call 28; refine (law03_awake _).mono ?_; rintro e w1 ⟨rfl, hb1⟩))
  go_ret
  exact ⟨rfl, by (repeat (first | assumption | exact Below.refl _ _ | refine below_step (by assumption) ?_ | refine below_alloc' _ ?_ | refine below_drewN ?_ _ | refine Below.drew ?_))⟩
end Go.Proofs.Ytjiepgajjfnnkaa
