/- The statements of layer 9 (code): what must come; the walk of CodeIs. -/
import Derived.Test.YtkhnmdmpkedifaaCodeH
import Derived.Test.YtkhnmdmpkedifaaSat
namespace Go.Proofs.Ytkhnmdmpkedifaa
open Go.ChangeShapes Go.WideShapes Go.ChangeAt Go.RowKit Go.Deep

theorem I64_of {n : Int} (h : -9223372036854775808 ≤ n ∧ n ≤ 9223372036854775807) : I64 n := h

theorem ref9_Short_yes (x : Sp) (h : x.sv.size ≤ 100 ∧ x.op.size ≤ 100) (w : World) :
    Calls Try.prog 15 #[.agg #[.int .i64 x.tr, .int .i64 x.id, .int .i64 x.pa, .int .i64 x.rv, .string x.sv, .string x.op, .int .i64 x.st, .int .i64 x.du, .bool x.gn]] w fun e w' => e = .returned (.bool true) ∧ Below w.heap.size w w' := by
  obtain ⟨h1, h2⟩ := h
  have hd : decide ((x.op.size : Int) ≤ 100) = true := by rw [decide_eq_true_eq]; omega
  go_enter Try.func15, Try.ntmps15
  go_wp2_with fail
  go_ret
  exact ⟨rfl, by (repeat (first | assumption | exact Below.refl _ _ | refine below_step (by assumption) ?_ | refine below_alloc' _ ?_ | refine below_drewN ?_ _ | refine Below.drew ?_))⟩
theorem ref9_Short_no (x : Sp) (hx : x.Ok) (h : ¬ (x.sv.size ≤ 100 ∧ x.op.size ≤ 100)) (w : World) :
    Calls Try.prog 15 #[.agg #[.int .i64 x.tr, .int .i64 x.id, .int .i64 x.pa, .int .i64 x.rv, .string x.sv, .string x.op, .int .i64 x.st, .int .i64 x.du, .bool x.gn]] w fun e w' => e = .returned (.bool false) ∧ Below w.heap.size w w' := by
  obtain ⟨_, _, _, _, _, _, h7, h8⟩ := hx
  unfold maxLen at h7 h8
  by_cases h1 : x.sv.size ≤ 100
  · have h2 : ¬ x.op.size ≤ 100 := fun h2 => h ⟨h1, h2⟩
    clear h
    go_enter Try.func15, Try.ntmps15
    go_wp2_with fail
    go_ret
    exact ⟨by simp; omega, by (repeat (first | assumption | exact Below.refl _ _ | refine below_step (by assumption) ?_ | refine below_alloc' _ ?_ | refine below_drewN ?_ _ | refine Below.drew ?_))⟩
  · clear h
    go_enter Try.func15, Try.ntmps15
    go_wp2_with fail
    go_ret
    exact ⟨by simp, by (repeat (first | assumption | exact Below.refl _ _ | refine below_step (by assumption) ?_ | refine below_alloc' _ ?_ | refine below_drewN ?_ _ | refine Below.drew ?_))⟩

/-- what a region leaves lies above all that lay ahead -/
theorem below_later9 {w W0 : World} {B : Nat} (hb : Below w.heap.size w W0) (u : Later (B + 1) W0) (hB : w.heap.size ≤ B + 1 := by omega) : Below w.heap.size w u.w := hb.trans (u.h.mono hB)
def small9 : CodeP.Sp := ⟨1, 2, 0, 0, [115], [111], -1, 3, false⟩
theorem law09_small (w : World) :
    Calls Try.prog 75 #[] w fun e w' => e = .returned (spV small9) ∧ Below w.heap.size w w' := by
  go_enter Try.func75, Try.ntmps75
  go_wp2_with fail
  refine bodyPost_ret (v := spV small9) (by simp [results, Try.results75, go_sem, spV, small9]) rfl ⟨rfl, by (repeat (first | assumption | exact Below.refl _ _ | refine below_step (by assumption) ?_ | refine below_alloc' _ ?_ | refine below_drewN ?_ _ | refine Below.drew ?_))⟩
theorem small9_Ok : (spB small9).Ok := by
  refine ⟨?_, ?_, ?_, ?_, ?_, ?_, ?_, ?_⟩
  all_goals first | (refine I64_of ?_; simp [spB, small9]; done) | decide
set_option maxRecDepth 100000 in
set_option maxHeartbeats 1000000 in
theorem law09_awake (w : World) : Calls Try.prog 36 #[] w fun e w' => e = .returned (.bool true) ∧ Below w.heap.size w w' := by
  have P1 := code_Put (spB small9) small9_Ok (by decide)
  have P2 := code_Put (spB CodeP.Sp.zero) zero_Ok (by decide)
  rw [spP_spB, show CodeP.putS small9 = ([1, 2, 0, 0, 1, 115, 1, 111, 1, 6, 0], 0) by decide +kernel] at P1
  rw [spP_spB, show CodeP.putS CodeP.Sp.zero = ([], 1) by decide +kernel] at P2
  have T1 := code_Take ⟨#[1, 2, 0, 0, 1, 115, 1, 111, 1, 6, 0]⟩ (by decide)
  have T2 := code_Take ⟨#[1, 2, 0, 0, 1, 115, 1, 111, 1, 6, 0, 120]⟩ (by decide)
  rw [show CodeP.takeS (⟨#[1, 2, 0, 0, 1, 115, 1, 111, 1, 6, 0]⟩ : ByteArray).data.toList = (small9, 0) by decide +kernel] at T1
  rw [show CodeP.takeS (⟨#[1, 2, 0, 0, 1, 115, 1, 111, 1, 6, 0, 120]⟩ : ByteArray).data.toList = (CodeP.Sp.zero, 2) by decide +kernel] at T2
  have M := code_May (spB small9) small9_Ok
  rw [spP_spB, show CodeP.may small9 = 0 by decide +kernel] at M
  have S := law09_small
  simp only [spB, spV, small9, CodeP.Sp.zero] at P1 P2 T1 T2 M S
  rw [show (⟨#[1, 2, 0, 0, 1, 115, 1, 111, 1, 6, 0, 120]⟩ : ByteArray) = ⟨#[1, 2, 0, 0, 1, 115, 1, 111, 1, 6, 0]⟩ ++ ⟨#[120]⟩ by decide +kernel] at T2
  have HP1 := Lib.hid P1
  have HP2 := Lib.hid P2
  have HT1 := Lib.hid T1
  have HT2 := Lib.hid T2
  have HM := Lib.hid M
  have HS := Lib.hid S
  clear P1 P2 T1 T2 M S
  go_enter Try.func36, Try.ntmps36
  go_wp2_with (first
    | (go_at_call 75; (with_reducible refine (HS.out _).mono ?_); rintro e w1 ⟨rfl, b1⟩)
    | (go_at_call 37; (with_reducible refine (HP1.out _).mono ?_); rintro e w2 ⟨rfl, b2⟩)
    | (go_at_call 39; (with_reducible refine (HT1.out _).mono ?_); rintro e w3 ⟨rfl, b3⟩)
    | (go_at_call 37; (with_reducible refine (HP2.out _).mono ?_); rintro e w4 ⟨rfl, b4⟩)
    | (go_at_call 39; (with_reducible refine (HT2.out _).mono ?_); rintro e w5 ⟨rfl, b5⟩))
  have hz1 := b1.size
  have hz2 := b2.size
  have hz3 := b3.size
  have hz4 := b4.size
  have hz5 := b5.size
  rw [World.size_alloc] at hz4
  have kB : (w5.alloc (.cells #[.int .i64 0, .int .i64 0, .int .i64 0, .int .i64 0, .string ⟨#[]⟩, .string ⟨#[]⟩, .int .i64 0, .int .i64 0, .bool false] 23)).heap[w3.heap.size]? = some (.cells #[.int .i64 1, .int .i64 2, .int .i64 0, .int .i64 0, .string ⟨#[115]⟩, .string ⟨#[111]⟩, .int .i64 (-1), .int .i64 3, .bool false] 23 (0, 0)) := by
    rw [Below.heap_alloc _ _ _ (by omega), b5.block _ (by omega), b4.block _ (by rw [World.size_alloc]; omega)]
    exact heap_alloc_new w3 _
  have hcell := fun u => later_at kB (B := w5.heap.size + 1) (by omega) u
  refine wp_region_later (w5.heap.size + 1) (by kernel_rfl) (by kernel_rfl) ?_
  repeat (go_big_quiet_step ((first
    | (go_at_call 75; exact later_of _ (by simp) (HS.out _))
    | (go_at_call 41; exact later_of _ (by simp) (HM.out _)))))
  refine wpQuiet_nil ?_; intro _ hw'; obtain ⟨u, hw''⟩ := hw'; subst hw''
  go_wp2_with fail
  go_ret
  refine ⟨rfl, below_later9 ?_ u⟩
  (repeat (first | assumption | exact Below.refl _ _ | refine below_step (by assumption) ?_ | refine below_alloc' _ ?_ | refine below_drewN ?_ _ | refine Below.drew ?_))
