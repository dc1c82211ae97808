/- The statements of layer 3 (sat): the walks of the laws. -/
import Derived.Test.YtjiepgajjfnnkaaSat
namespace Go.Proofs.Ytjiepgajjfnnkaa
open Go.ChangeShapes Go.WideShapes Go.ChangeAt Go.RowKit Go.Deep


theorem law03_awake (w : World) : Calls Try.prog 28 #[] w fun e w' => e = .returned (.bool true) ∧ Below w.heap.size w w' := by
  have a1 : addS 9223372036854775807 1 = 9223372036854775807 := by decide
  have a2 : subS (-9223372036854775808) 1 = -9223372036854775808 := by decide
  have a3 : addS 2 3 = 5 := by decide
  have a4 : clampS 9 0 4 = 4 := by decide
  have a5 : endS ⟨0, 0, 0, 0, ⟨#[]⟩, ⟨#[]⟩, 3, 4, false⟩ = 7 := by decide
  have a6 : clampS (-1) 0 4611686018427387904 = 0 := by decide
  have k5 := Lib.hid (sat_End ⟨0, 0, 0, 0, ⟨#[]⟩, ⟨#[]⟩, 3, 4, false⟩ (by refine ⟨?_, ?_, ?_, ?_, ?_, ?_, ?_, ?_⟩ <;> first | (simp only [I64]; omega) | decide))
  go_enter Try.func28, Try.ntmps28
  go_wp2_with (first
    | (go_at_call 18; refine (sat_Add _ _ (by unfold I64; omega) (by unfold I64; omega) _).mono ?_; rintro e w1 ⟨rfl, rfl⟩)
    | (go_at_call 20; refine (sat_Sub _ _ (by unfold I64; omega) (by unfold I64; omega) _).mono ?_; rintro e w1 ⟨rfl, rfl⟩)
    | (go_at_call 22; refine (sat_Clamp _ _ _ _).mono ?_; rintro e w1 ⟨rfl, rfl⟩)
    | (go_at_call 26; refine (k5.out _).mono ?_; rintro e w1 ⟨rfl, hb1⟩)
    | (go_at_call 24; refine (sat_Kept ⟨0, 0, 0, 2, ⟨#[]⟩, ⟨#[]⟩, 0, -1, false⟩ _).mono ?_; rintro e w1 ⟨rfl, hb1⟩))
  go_ret
  exact ⟨rfl, by (repeat (first | assumption | exact Below.refl _ _ | refine below_step (by assumption) ?_ | refine below_alloc' _ ?_ | refine below_drewN ?_ _ | refine Below.drew ?_))⟩

theorem law03_SatIs (a b : Int) (x : Sp) (ha : I64 a) (hb : I64 b) (hx : x.Ok) (w : World) :
    Calls Try.prog 5 #[.int .i64 a, .int .i64 b, .agg #[.int .i64 x.tr, .int .i64 x.id, .int .i64 x.pa, .int .i64 x.rv, .string x.sv, .string x.op, .int .i64 x.st, .int .i64 x.du, .bool x.gn]] w fun e w' => e = .returned (.bool true) ∧ Below w.heap.size w w' := by
  have h1 := Lib.hid (sat_Add a b ha hb)
  have h2 := Lib.hid (ref_Add a b ha hb)
  have h3 := Lib.hid (sat_Sub a b ha hb)
  have h4 := Lib.hid (ref_Sub a b ha hb)
  have h5 := Lib.hid (sat_End x hx)
  have h6 := Lib.hid (ref_End x hx)
  clear ha hb hx
  go_enter Try.func5, Try.ntmps5
  go_wp2
  have hcell := fun (u : Later (w.heap.size + 1) (w.alloc (.cells x.cells 29))) j => later_row u j
  unfold Sp.cells at hcell
  refine wp_region_later (w.heap.size + 1) (by kernel_rfl) (by kernel_rfl) ?_
  repeat (go_big_quiet_step ((first
    | (go_at_call 18; exact later_of_same _ (h1.out _))
    | (go_at_call 19; exact later_of_same _ (h2.out _))
    | (go_at_call 20; exact later_of_same _ (h3.out _))
    | (go_at_call 21; exact later_of_same _ (h4.out _))
    | (go_at_call 22; exact later_of_same _ (sat_Clamp _ _ _ _))
    | (go_at_call 23; exact later_of_same _ (ref_Clamp _ _ _ _))
    | (go_at_call 24; exact later_of _ (by simp) (sat_Kept x _))
    | (go_at_call 25; exact later_of _ (by simp) (ref_Kept x _))
    | (go_at_call 26; exact later_of _ (by simp) (h5.out _))
    | (go_at_call 27; exact later_of _ (by simp) (h6.out _))
    | (go_at_call 28; exact later_of _ (by simp) (law03_awake _)))))
  refine wpQuiet_nil ?_
  intro _ hw'
  obtain ⟨u, hw''⟩ := hw'
  subst hw''
  go_wp2
  go_ret
  exact ⟨rfl, ((Below.refl _ _).alloc (Nat.le_refl _) _).trans (u.h.mono (by omega))⟩

theorem I64_mk {n : Int} (h : -9223372036854775808 ≤ n ∧ n ≤ 9223372036854775807) : I64 n := h
end Go.Proofs.Ytjiepgajjfnnkaa
