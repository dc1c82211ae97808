/- Walks of layer 3 (sat) and of its reference. -/
import Derived.Test.YtjiepgajjfnnkaaKit
import Derived.Test.YtjiepgajjfnnkaaOpen
import Derived.Test.YtjiepgajjfnnkaaRegion
namespace Go.Proofs.Ytjiepgajjfnnkaa
open Go.ChangeShapes Go.WideShapes Go.ChangeAt Go.RowKit Go.Deep

def clampS (n a b : Int) : Int := max a (min n b)
def addS (a b : Int) : Int := clampS (a + b) (-9223372036854775808) 9223372036854775807
def subS (a b : Int) : Int := clampS (a - b) (-9223372036854775808) 9223372036854775807
theorem wrap64_or (n : Int) (h : -18446744073709551616 ≤ n ∧ n < 18446744073709551616) : (wrap64 n = n ∧ -9223372036854775808 ≤ n ∧ n ≤ 9223372036854775807) ∨ (9223372036854775807 < n ∧ wrap64 n = n - 18446744073709551616) ∨ (n < -9223372036854775808 ∧ wrap64 n = n + 18446744073709551616) := by
  unfold wrap64; omega

@[go_sem] theorem span_field0 (a b c d e f g h i : Value) (w : World) : (Instr.field 29 (.agg #[a, b, c, d, e, f, g, h, i]) 0).run Try.prog w = .ok a w := by kernel_rfl
@[go_sem] theorem span_field1 (a b c d e f g h i : Value) (w : World) : (Instr.field 29 (.agg #[a, b, c, d, e, f, g, h, i]) 1).run Try.prog w = .ok b w := by kernel_rfl
@[go_sem] theorem span_field2 (a b c d e f g h i : Value) (w : World) : (Instr.field 29 (.agg #[a, b, c, d, e, f, g, h, i]) 2).run Try.prog w = .ok c w := by kernel_rfl
@[go_sem] theorem span_field3 (a b c d e f g h i : Value) (w : World) : (Instr.field 29 (.agg #[a, b, c, d, e, f, g, h, i]) 3).run Try.prog w = .ok d w := by kernel_rfl
@[go_sem] theorem span_field4 (a b c d e f g h i : Value) (w : World) : (Instr.field 29 (.agg #[a, b, c, d, e, f, g, h, i]) 4).run Try.prog w = .ok e w := by kernel_rfl
@[go_sem] theorem span_field5 (a b c d e f g h i : Value) (w : World) : (Instr.field 29 (.agg #[a, b, c, d, e, f, g, h, i]) 5).run Try.prog w = .ok f w := by kernel_rfl
@[go_sem] theorem span_field6 (a b c d e f g h i : Value) (w : World) : (Instr.field 29 (.agg #[a, b, c, d, e, f, g, h, i]) 6).run Try.prog w = .ok g w := by kernel_rfl
@[go_sem] theorem span_field7 (a b c d e f g h i : Value) (w : World) : (Instr.field 29 (.agg #[a, b, c, d, e, f, g, h, i]) 7).run Try.prog w = .ok h w := by kernel_rfl
@[go_sem] theorem span_field8 (a b c d e f g h i : Value) (w : World) : (Instr.field 29 (.agg #[a, b, c, d, e, f, g, h, i]) 8).run Try.prog w = .ok i w := by kernel_rfl

def Sp.kept (x : Sp) : Sp := { x with du := clampS x.du 0 4611686018427387904 }


theorem sat_Clamp (n a b : Int) (w : World) :
    Calls Try.prog 22 #[.int .i64 n, .int .i64 a, .int .i64 b] w fun e w' => e = .returned (.int .i64 (clampS n a b)) ∧ w = w' := by
  go_enter Try.func22, Try.ntmps22
  go_wp2
  all_goals
    go_ret
    exact ⟨ret_int (by simp only [clampS]; omega), rfl⟩

theorem ref_Clamp (n a b : Int) (w : World) :
    Calls Try.prog 23 #[.int .i64 n, .int .i64 a, .int .i64 b] w fun e w' => e = .returned (.int .i64 (clampS n a b)) ∧ w = w' := by
  go_enter Try.func23, Try.ntmps23
  go_wp2
  all_goals
    go_ret
    exact ⟨ret_int (by simp only [clampS]; omega), rfl⟩

theorem sat_Add (a b : Int) (ha : I64 a) (hb : I64 b) (w : World) :
    Calls Try.prog 18 #[.int .i64 a, .int .i64 b] w fun e w' => e = .returned (.int .i64 (addS a b)) ∧ w = w' := by
  have hw := Lib.hid (wrap64_or (a + b) (by unfold I64 at ha hb; omega))
  have hi := Lib.hid (And.intro ha hb)
  clear ha hb
  go_enter Try.func18, Try.ntmps18
  go_wp2
  all_goals
    go_ret
    exact ⟨ret_int (by have := hw.out; have := hi.out; unfold I64 at this; unfold addS clampS; omega), rfl⟩

theorem sat_Kept (x : Sp) (w : World) :
    Calls Try.prog 24 #[.agg #[.int .i64 x.tr, .int .i64 x.id, .int .i64 x.pa, .int .i64 x.rv, .string x.sv, .string x.op, .int .i64 x.st, .int .i64 x.du, .bool x.gn]] w
      fun e w' => e = .returned (.agg #[.int .i64 x.tr, .int .i64 x.id, .int .i64 x.pa, .int .i64 x.rv, .string x.sv, .string x.op, .int .i64 x.st, .int .i64 (clampS x.du 0 4611686018427387904), .bool x.gn]) ∧ Below w.heap.size w w' := by
  go_enter Try.func24, Try.ntmps24
  go_wp2_with (first | (go_at_call 22; refine (sat_Clamp _ _ _ _).mono ?_; rintro e w' ⟨rfl, rfl⟩))
  refine bodyPost_ret (v := .agg #[.int .i64 x.tr, .int .i64 x.id, .int .i64 x.pa, .int .i64 x.rv, .string x.sv, .string x.op, .int .i64 x.st, .int .i64 (clampS x.du 0 4611686018427387904), .bool x.gn]) (by simp [results, Try.results24, go_sem]) rfl ⟨rfl, ?_⟩
  exact ((Below.refl _ _).alloc (Nat.le_refl _) _).alloc (by simp) _

theorem ref_Add (a b : Int) (ha : I64 a) (hb : I64 b) (w : World) :
    Calls Try.prog 19 #[.int .i64 a, .int .i64 b] w fun e w' => e = .returned (.int .i64 (addS a b)) ∧ w = w' := by
  unfold I64 at ha hb
  go_enter Try.func19, Try.ntmps19
  go_wp2
  all_goals
    go_ret
    exact ⟨ret_int (by first | (unfold addS clampS; omega) | (rw [IntWalk.wrap64_in _ (by omega)]; unfold addS clampS; omega)), rfl⟩

theorem sat_Sub (a b : Int) (ha : I64 a) (hb : I64 b) (w : World) :
    Calls Try.prog 20 #[.int .i64 a, .int .i64 b] w fun e w' => e = .returned (.int .i64 (subS a b)) ∧ w = w' := by
  have hw := Lib.hid (wrap64_or (a - b) (by unfold I64 at ha hb; omega))
  have hi := Lib.hid (And.intro ha hb)
  clear ha hb
  go_enter Try.func20, Try.ntmps20
  go_wp2
  all_goals
    go_ret
    exact ⟨ret_int (by have := hw.out; have := hi.out; unfold I64 at this; unfold subS clampS; omega), rfl⟩

theorem ref_Sub (a b : Int) (ha : I64 a) (hb : I64 b) (w : World) :
    Calls Try.prog 21 #[.int .i64 a, .int .i64 b] w fun e w' => e = .returned (.int .i64 (subS a b)) ∧ w = w' := by
  unfold I64 at ha hb
  go_enter Try.func21, Try.ntmps21
  go_wp2
  all_goals
    go_ret
    exact ⟨ret_int (by first | (unfold subS clampS; omega) | (rw [IntWalk.wrap64_in _ (by omega)]; unfold subS clampS; omega)), rfl⟩

theorem ref_Kept (x : Sp) (w : World) :
    Calls Try.prog 25 #[.agg #[.int .i64 x.tr, .int .i64 x.id, .int .i64 x.pa, .int .i64 x.rv, .string x.sv, .string x.op, .int .i64 x.st, .int .i64 x.du, .bool x.gn]] w
      fun e w' => e = .returned (.agg #[.int .i64 x.tr, .int .i64 x.id, .int .i64 x.pa, .int .i64 x.rv, .string x.sv, .string x.op, .int .i64 x.st, .int .i64 (clampS x.du 0 4611686018427387904), .bool x.gn]) ∧ Below w.heap.size w w' := by
  go_enter Try.func25, Try.ntmps25
  go_wp2
  refine wp_region_quiet_tail 20 (by kernel_rfl) (by kernel_rfl) ?_
  simp only [List.take_succ_cons, List.take_zero, List.drop_succ_cons, List.drop_zero]
  repeat (go_big_quiet_step ((go_at_call 23; exact quiet_left (ref_Clamp _ _ _ _))))
  refine wpQuiet_nil ?_
  intro _ hw'
  obtain ⟨nq, hw''⟩ := hw'
  subst hw''
  go_wp2
  refine bodyPost_ret (v := .agg #[.int .i64 x.tr, .int .i64 x.id, .int .i64 x.pa, .int .i64 x.rv, .string x.sv, .string x.op, .int .i64 x.st, .int .i64 (clampS x.du 0 4611686018427387904), .bool x.gn]) (by simp [results, Try.results25, go_sem]) rfl ⟨rfl, ?_⟩
  exact below_drewN (((Below.refl _ _).alloc (Nat.le_refl _) _).alloc (by simp) _) _

def endS (x : Sp) : Int := addS x.st (clampS x.du 0 4611686018427387904)
theorem clamp_I64 (n a b : Int) (hn : I64 n) (ha : I64 a) (hb : I64 b) : I64 (clampS n a b) := by unfold I64 clampS at *; omega
theorem maxDur_I64 : I64 4611686018427387904 := by unfold I64; omega
theorem zero_I64 : I64 0 := by unfold I64; omega

theorem sat_End (x : Sp) (hx : x.Ok) (w : World) :
    Calls Try.prog 26 #[.agg #[.int .i64 x.tr, .int .i64 x.id, .int .i64 x.pa, .int .i64 x.rv, .string x.sv, .string x.op, .int .i64 x.st, .int .i64 x.du, .bool x.gn]] w
      fun e w' => e = .returned (.int .i64 (endS x)) ∧ Below w.heap.size w w' := by
  have ha := Lib.hid (sat_Add x.st (clampS x.du 0 4611686018427387904) hx.2.2.2.2.1 (clamp_I64 _ _ _ hx.2.2.2.2.2.1 zero_I64 maxDur_I64))
  clear hx
  go_enter Try.func26, Try.ntmps26
  go_wp2
  have hcell := fun (u : Later (w.heap.size + 1) (w.alloc (.cells x.cells 29))) j => later_row u j
  unfold Sp.cells at hcell
  refine wp_region_later (w.heap.size + 1) (by kernel_rfl) (by kernel_rfl) ?_
  repeat (go_big_quiet_step ((first | (go_at_call 24; exact later_of _ (by simp) (sat_Kept x _)) | (go_at_call 18; exact later_of_same _ (ha.out _)))))
  refine wpQuiet_nil ?_
  intro _ hw'
  obtain ⟨u, hw''⟩ := hw'
  subst hw''
  go_wp2
  go_ret
  exact ⟨rfl, ((Below.refl _ _).alloc (Nat.le_refl _) _).trans (u.h.mono (by omega))⟩

theorem ref_End (x : Sp) (hx : x.Ok) (w : World) :
    Calls Try.prog 27 #[.agg #[.int .i64 x.tr, .int .i64 x.id, .int .i64 x.pa, .int .i64 x.rv, .string x.sv, .string x.op, .int .i64 x.st, .int .i64 x.du, .bool x.gn]] w fun e w' => e = .returned (.int .i64 (endS x)) ∧ Below w.heap.size w w' := by
  have ha := Lib.hid (ref_Add x.st (clampS x.du 0 4611686018427387904) hx.2.2.2.2.1 (clamp_I64 _ _ _ hx.2.2.2.2.2.1 zero_I64 maxDur_I64))
  clear hx
  go_enter Try.func27, Try.ntmps27
  go_wp2
  go_quiet ((first | (go_at_call 23; exact quiet_left (ref_Clamp _ _ _ _)) | (go_at_call 19; exact quiet_left (ha.out _))))
  go_wp2
  go_ret
  exact ⟨rfl, below_drewN ((Below.refl _ _).alloc (Nat.le_refl _) _) _⟩
end Go.Proofs.Ytjiepgajjfnnkaa
