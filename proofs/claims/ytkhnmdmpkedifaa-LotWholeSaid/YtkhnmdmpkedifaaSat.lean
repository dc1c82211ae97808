/- Walks of layer 3 (sat) and of its reference. -/
import Derived.Test.YtkhnmdmpkedifaaKit
import Derived.Test.YtkhnmdmpkedifaaOpen
import Derived.Test.YtkhnmdmpkedifaaRegion
namespace Go.Proofs.Ytkhnmdmpkedifaa
open Go.ChangeShapes Go.WideShapes Go.ChangeAt Go.RowKit Go.Deep

def clampS (n a b : Int) : Int := max a (min n b)
def addS (a b : Int) : Int := clampS (a + b) (-9223372036854775808) 9223372036854775807
def subS (a b : Int) : Int := clampS (a - b) (-9223372036854775808) 9223372036854775807
theorem wrap64_or (n : Int) (h : -18446744073709551616 ≤ n ∧ n < 18446744073709551616) : (wrap64 n = n ∧ -9223372036854775808 ≤ n ∧ n ≤ 9223372036854775807) ∨ (9223372036854775807 < n ∧ wrap64 n = n - 18446744073709551616) ∨ (n < -9223372036854775808 ∧ wrap64 n = n + 18446744073709551616) := by
  unfold wrap64; omega

@[go_sem] theorem span_field0 (a b c d e f g h i : Value) (w : World) : (Instr.field 23 (.agg #[a, b, c, d, e, f, g, h, i]) 0).run Try.prog w = .ok a w := by kernel_rfl
@[go_sem] theorem span_field1 (a b c d e f g h i : Value) (w : World) : (Instr.field 23 (.agg #[a, b, c, d, e, f, g, h, i]) 1).run Try.prog w = .ok b w := by kernel_rfl
@[go_sem] theorem span_field2 (a b c d e f g h i : Value) (w : World) : (Instr.field 23 (.agg #[a, b, c, d, e, f, g, h, i]) 2).run Try.prog w = .ok c w := by kernel_rfl
@[go_sem] theorem span_field3 (a b c d e f g h i : Value) (w : World) : (Instr.field 23 (.agg #[a, b, c, d, e, f, g, h, i]) 3).run Try.prog w = .ok d w := by kernel_rfl
@[go_sem] theorem span_field4 (a b c d e f g h i : Value) (w : World) : (Instr.field 23 (.agg #[a, b, c, d, e, f, g, h, i]) 4).run Try.prog w = .ok e w := by kernel_rfl
@[go_sem] theorem span_field5 (a b c d e f g h i : Value) (w : World) : (Instr.field 23 (.agg #[a, b, c, d, e, f, g, h, i]) 5).run Try.prog w = .ok f w := by kernel_rfl
@[go_sem] theorem span_field6 (a b c d e f g h i : Value) (w : World) : (Instr.field 23 (.agg #[a, b, c, d, e, f, g, h, i]) 6).run Try.prog w = .ok g w := by kernel_rfl
@[go_sem] theorem span_field7 (a b c d e f g h i : Value) (w : World) : (Instr.field 23 (.agg #[a, b, c, d, e, f, g, h, i]) 7).run Try.prog w = .ok h w := by kernel_rfl
@[go_sem] theorem span_field8 (a b c d e f g h i : Value) (w : World) : (Instr.field 23 (.agg #[a, b, c, d, e, f, g, h, i]) 8).run Try.prog w = .ok i w := by kernel_rfl

def Sp.kept (x : Sp) : Sp := { x with du := clampS x.du 0 4611686018427387904 }


theorem sat_Clamp (n a b : Int) (w : World) :
    Calls Try.prog 89 #[.int .i64 n, .int .i64 a, .int .i64 b] w fun e w' => e = .returned (.int .i64 (clampS n a b)) ∧ w = w' := by
  go_enter Try.func89, Try.ntmps89
  go_wp2
  all_goals
    go_ret
    exact ⟨ret_int (by simp only [clampS]; omega), rfl⟩

theorem ref_Clamp (n a b : Int) (w : World) :
    Calls Try.prog 90 #[.int .i64 n, .int .i64 a, .int .i64 b] w fun e w' => e = .returned (.int .i64 (clampS n a b)) ∧ w = w' := by
  go_enter Try.func90, Try.ntmps90
  go_wp2
  all_goals
    go_ret
    exact ⟨ret_int (by simp only [clampS]; omega), rfl⟩

theorem sat_Kept (x : Sp) (w : World) :
    Calls Try.prog 58 #[.agg #[.int .i64 x.tr, .int .i64 x.id, .int .i64 x.pa, .int .i64 x.rv, .string x.sv, .string x.op, .int .i64 x.st, .int .i64 x.du, .bool x.gn]] w
      fun e w' => e = .returned (.agg #[.int .i64 x.tr, .int .i64 x.id, .int .i64 x.pa, .int .i64 x.rv, .string x.sv, .string x.op, .int .i64 x.st, .int .i64 (clampS x.du 0 4611686018427387904), .bool x.gn]) ∧ Below w.heap.size w w' := by
  go_enter Try.func58, Try.ntmps58
  go_wp2_with (first | (go_at_call 89; refine (sat_Clamp _ _ _ _).mono ?_; rintro e w' ⟨rfl, rfl⟩))
  refine bodyPost_ret (v := .agg #[.int .i64 x.tr, .int .i64 x.id, .int .i64 x.pa, .int .i64 x.rv, .string x.sv, .string x.op, .int .i64 x.st, .int .i64 (clampS x.du 0 4611686018427387904), .bool x.gn]) (by simp [results, Try.results58, go_sem]) rfl ⟨rfl, ?_⟩
  exact ((Below.refl _ _).alloc (Nat.le_refl _) _).alloc (by simp) _

theorem ref_Kept (x : Sp) (w : World) :
    Calls Try.prog 59 #[.agg #[.int .i64 x.tr, .int .i64 x.id, .int .i64 x.pa, .int .i64 x.rv, .string x.sv, .string x.op, .int .i64 x.st, .int .i64 x.du, .bool x.gn]] w
      fun e w' => e = .returned (.agg #[.int .i64 x.tr, .int .i64 x.id, .int .i64 x.pa, .int .i64 x.rv, .string x.sv, .string x.op, .int .i64 x.st, .int .i64 (clampS x.du 0 4611686018427387904), .bool x.gn]) ∧ Below w.heap.size w w' := by
  go_enter Try.func59, Try.ntmps59
  go_wp2
  refine wp_region_quiet_tail 20 (by kernel_rfl) (by kernel_rfl) ?_
  simp only [List.take_succ_cons, List.take_zero, List.drop_succ_cons, List.drop_zero]
  repeat (go_big_quiet_step ((go_at_call 90; exact quiet_left (ref_Clamp _ _ _ _))))
  refine wpQuiet_nil ?_
  intro _ hw'
  obtain ⟨nq, hw''⟩ := hw'
  subst hw''
  go_wp2
  refine bodyPost_ret (v := .agg #[.int .i64 x.tr, .int .i64 x.id, .int .i64 x.pa, .int .i64 x.rv, .string x.sv, .string x.op, .int .i64 x.st, .int .i64 (clampS x.du 0 4611686018427387904), .bool x.gn]) (by simp [results, Try.results59, go_sem]) rfl ⟨rfl, ?_⟩
  exact below_drewN (((Below.refl _ _).alloc (Nat.le_refl _) _).alloc (by simp) _) _

def endS (x : Sp) : Int := addS x.st (clampS x.du 0 4611686018427387904)
theorem clamp_I64 (n a b : Int) (hn : I64 n) (ha : I64 a) (hb : I64 b) : I64 (clampS n a b) := by unfold I64 clampS at *; omega
theorem maxDur_I64 : I64 4611686018427387904 := by unfold I64; omega
theorem zero_I64 : I64 0 := by unfold I64; omega
