/- The statements of layer 14 (keyed): the walk of what must come, and of KeyedIs. -/
import Derived.Test.YtjiepgajjfnnkaaKeyed
namespace Go.Proofs.Ytjiepgajjfnnkaa
open Go.ChangeShapes Go.WideShapes Go.ChangeAt Go.RowKit Go.Deep BigP

def kA : ByteArray := ⟨(big 8 (up 5) ++ big 8 (up (-7))).toArray⟩
def kB : ByteArray := ⟨(big 8 (up 5) ++ big 8 (up 6)).toArray⟩
def kC : ByteArray := ⟨(big 8 (up 1) ++ big 8 (up 2)).toArray⟩
def kD : ByteArray := ⟨(big 8 (up (-1)) ++ kB.data.toList).toArray⟩

theorem Of_A (w : World) : Calls Try.prog 34 #[.int .i64 5, .int .i64 (-7)] w fun e w' => e = .returned (.string kA) ∧ Below w.heap.size w w' := keyed_Of 5 (-7) (by unfold I64; omega) (by unfold I64; omega) w
theorem Of_B (w : World) : Calls Try.prog 34 #[.int .i64 5, .int .i64 6] w fun e w' => e = .returned (.string kB) ∧ Below w.heap.size w w' := keyed_Of 5 6 (by unfold I64; omega) (by unfold I64; omega) w
theorem Of_C (w : World) : Calls Try.prog 34 #[.int .i64 1, .int .i64 2] w fun e w' => e = .returned (.string kC) ∧ Below w.heap.size w w' := keyed_Of 1 2 (by unfold I64; omega) (by unfold I64; omega) w
theorem End_D (w : World) : Calls Try.prog 36 #[.int .i64 (-1), .string kB] w fun e w' => e = .returned (.string kD) ∧ Below w.heap.size w w' := keyed_End (-1) kB (by unfold I64; omega) (by decide +kernel) w
theorem Span_B (w : World) : Calls Try.prog 38 #[.agg #[.int .i64 (⟨5, 6, 0, 0, ⟨#[]⟩, ⟨#[]⟩, 0, 0, false⟩ : Sp).tr, .int .i64 (⟨5, 6, 0, 0, ⟨#[]⟩, ⟨#[]⟩, 0, 0, false⟩ : Sp).id, .int .i64 (⟨5, 6, 0, 0, ⟨#[]⟩, ⟨#[]⟩, 0, 0, false⟩ : Sp).pa, .int .i64 (⟨5, 6, 0, 0, ⟨#[]⟩, ⟨#[]⟩, 0, 0, false⟩ : Sp).rv, .string (⟨5, 6, 0, 0, ⟨#[]⟩, ⟨#[]⟩, 0, 0, false⟩ : Sp).sv, .string (⟨5, 6, 0, 0, ⟨#[]⟩, ⟨#[]⟩, 0, 0, false⟩ : Sp).op, .int .i64 (⟨5, 6, 0, 0, ⟨#[]⟩, ⟨#[]⟩, 0, 0, false⟩ : Sp).st, .int .i64 (⟨5, 6, 0, 0, ⟨#[]⟩, ⟨#[]⟩, 0, 0, false⟩ : Sp).du, .bool (⟨5, 6, 0, 0, ⟨#[]⟩, ⟨#[]⟩, 0, 0, false⟩ : Sp).gn]] w fun e w' => e = .returned (.string kB) ∧ Below w.heap.size w w' :=
  keyed_Span ⟨5, 6, 0, 0, ⟨#[]⟩, ⟨#[]⟩, 0, 0, false⟩ (by refine ⟨?_, ?_, ?_, ?_, ?_, ?_, ?_, ?_⟩ <;> first | (simp only [I64]; omega) | decide) w
theorem law14_awake (w : World) : Calls Try.prog 29 #[] w fun e w' => e = .returned (.bool true) ∧ Below w.heap.size w w' := by
  have a1 : spA kA = 5 := by decide +kernel
  have a2 : spB kA = -7 := by decide +kernel
  have a3 : kA.size = 16 := by decide +kernel
  have a4 : seA kD = -1 := by decide +kernel
  have a5 : seB kD = kB := by decide +kernel
  have a6 : kD.size = 24 := by decide +kernel
  have a7 : kC.size = 16 := by decide +kernel
  go_enter Try.func29, Try.ntmps29
  go_wp2_with (first
    | (go_at_call 34; with_reducible refine (Of_A _).mono ?_; rintro e w1 ⟨rfl, hb1⟩)
    | (go_at_call 34; with_reducible refine (Of_B _).mono ?_; rintro e w1 ⟨rfl, hb1⟩)
    | (go_at_call 34; with_reducible refine (Of_C _).mono ?_; rintro e w1 ⟨rfl, hb1⟩)
    | (go_at_call 30; with_reducible refine (keyed_Split _ _).mono ?_; rintro e w1 ⟨rfl, hb1⟩)
    | (go_at_call 36; with_reducible refine (End_D _).mono ?_; rintro e w1 ⟨rfl, hb1⟩)
    | (go_at_call 32; with_reducible refine (keyed_SplitEnd _ _).mono ?_; rintro e w1 ⟨rfl, hb1⟩)
    | (go_at_call 38; with_reducible refine (Span_B _).mono ?_; rintro e w1 ⟨rfl, hb1⟩))
  go_ret
  exact ⟨rfl, by (repeat (first | assumption | exact Below.refl _ _ | refine below_step (by assumption) ?_ | refine below_alloc' _ ?_ | refine below_drewN ?_ _ | refine Below.drew ?_))⟩

theorem KeyedIs_long (n : Int × Int × Int) (s : ByteArray) (hs : 40 < s.size) (w : World) :
    Calls Try.prog 9 #[.agg #[.int .i64 n.1, .int .i64 n.2.1, .int .i64 n.2.2], .string s] w fun e w' => e = .returned (.bool true) ∧ Below w.heap.size w w' := by
  go_enter Try.func9, Try.ntmps9
  go_wp2_with (go_at_call 29; refine (law14_awake _).mono ?_; rintro e w1 ⟨rfl, hb1⟩)
  go_ret
  exact ⟨rfl, by (repeat (first | assumption | exact Below.refl _ _ | refine below_step (by assumption) ?_ | refine below_alloc' _ ?_ | refine below_drewN ?_ _ | refine Below.drew ?_))⟩
theorem size0_le : (⟨#[]⟩ : ByteArray).size ≤ maxLen := by decide
theorem I64_lit (n : Int) (h : -9223372036854775808 ≤ n ∧ n ≤ 9223372036854775807) : I64 n := h

set_option maxHeartbeats 1000000 in
theorem KeyedIs_short (n : Int × Int × Int) (s : ByteArray) (h1 : I64 n.1) (h2 : I64 n.2.1) (h3 : I64 n.2.2) (hs : s.size ≤ 40) (w : World) :
    Calls Try.prog 9 #[.agg #[.int .i64 n.1, .int .i64 n.2.1, .int .i64 n.2.2], .string s] w fun e w' => e = .returned (.bool true) ∧ Below w.heap.size w w' := by
  have k1 := Lib.hid (keyed_Of n.1 n.2.1 h1 h2)
  have k2 := Lib.hid (ref_KOf n.1 n.2.1 h1 h2)
  have k3 := Lib.hid (keyed_End n.2.2 s h3 (by omega))
  have k4 := Lib.hid (ref_KEnd n.2.2 s h3 (by omega))
  have k5 := Lib.hid (show ∀ w : World, Calls Try.prog 38 #[.agg #[.int .i64 (⟨n.1, n.2.1, 0, 0, ⟨#[]⟩, ⟨#[]⟩, 0, 0, false⟩ : Sp).tr, .int .i64 (⟨n.1, n.2.1, 0, 0, ⟨#[]⟩, ⟨#[]⟩, 0, 0, false⟩ : Sp).id, .int .i64 (⟨n.1, n.2.1, 0, 0, ⟨#[]⟩, ⟨#[]⟩, 0, 0, false⟩ : Sp).pa, .int .i64 (⟨n.1, n.2.1, 0, 0, ⟨#[]⟩, ⟨#[]⟩, 0, 0, false⟩ : Sp).rv, .string (⟨n.1, n.2.1, 0, 0, ⟨#[]⟩, ⟨#[]⟩, 0, 0, false⟩ : Sp).sv, .string (⟨n.1, n.2.1, 0, 0, ⟨#[]⟩, ⟨#[]⟩, 0, 0, false⟩ : Sp).op, .int .i64 (⟨n.1, n.2.1, 0, 0, ⟨#[]⟩, ⟨#[]⟩, 0, 0, false⟩ : Sp).st, .int .i64 (⟨n.1, n.2.1, 0, 0, ⟨#[]⟩, ⟨#[]⟩, 0, 0, false⟩ : Sp).du, .bool (⟨n.1, n.2.1, 0, 0, ⟨#[]⟩, ⟨#[]⟩, 0, 0, false⟩ : Sp).gn]] w fun e w' => e = .returned (.string ⟨(big 8 (up n.1) ++ big 8 (up n.2.1)).toArray⟩) ∧ Below w.heap.size w w' from
    keyed_Span ⟨n.1, n.2.1, 0, 0, ⟨#[]⟩, ⟨#[]⟩, 0, 0, false⟩ ⟨h1, h2, I64_lit 0 (by omega), I64_lit 0 (by omega), I64_lit 0 (by omega), I64_lit 0 (by omega), size0_le, size0_le⟩)
  clear h1 h2 h3
  go_enter Try.func9, Try.ntmps9
  go_wp2_with (first
    | (go_at_call 30; with_reducible refine (keyed_Split _ _).mono ?_; rintro e w1 ⟨rfl, hb1⟩)
    | (go_at_call 31; with_reducible refine (ref_Split _ _).mono ?_; rintro e w2 ⟨rfl, hb2⟩)
    | (go_at_call 32; with_reducible refine (keyed_SplitEnd _ _).mono ?_; rintro e w3 ⟨rfl, hb3⟩)
    | (go_at_call 33; with_reducible refine (ref_SplitEnd _ _).mono ?_; rintro e w4 ⟨rfl, hb4⟩))
  have hbb : Below (w.alloc (.cells #[.int .i64 n.1, .int .i64 n.2.1, .int .i64 n.2.2] 37)).heap.size (w.alloc (.cells #[.int .i64 n.1, .int .i64 n.2.1, .int .i64 n.2.2] 37)) w4 := by (repeat (first | assumption | exact Below.refl _ _ | refine below_step (by assumption) ?_ | refine below_alloc' _ ?_ | refine below_drewN ?_ _ | refine Below.drew ?_))
  have hbw : Below w.heap.size w w4 := by (repeat (first | assumption | exact Below.refl _ _ | refine below_step (by assumption) ?_ | refine below_alloc' _ ?_ | refine below_drewN ?_ _ | refine Below.drew ?_))
  have hcell := fun (u : Later w4.heap.size w4) j => later_box hbb u j
  clear hbb hb1 hb2 hb3 hb4
  simp only [List.append_eq, List.cons_append, List.nil_append]
  refine wp_region_later w4.heap.size (by kernel_rfl) (by kernel_rfl) ?_
  repeat (go_big_quiet_step ((first
    | (go_at_call 34; with_reducible exact later_of _ (Nat.le_refl _) (k1.out _))
    | (go_at_call 35; with_reducible exact later_of _ (Nat.le_refl _) (k2.out _))
    | (go_at_call 36; with_reducible exact later_of _ (Nat.le_refl _) (k3.out _))
    | (go_at_call 37; with_reducible exact later_of _ (Nat.le_refl _) (k4.out _))
    | (go_at_call 38; with_reducible exact later_of _ (Nat.le_refl _) (k5.out _))
    | (go_at_call 29; exact later_of _ (Nat.le_refl _) (law14_awake _)))))
  refine wpQuiet_nil ?_
  intro _ hw'
  obtain ⟨u, hw''⟩ := hw'
  subst hw''
  go_wp2
  go_ret
  exact ⟨rfl, below_later hbw u⟩
end Go.Proofs.Ytjiepgajjfnnkaa
