/- The statements of layer 3 (sat): the walk of SatOrder. -/
import Derived.Test.YtjiepgajjfnnkaaLaw03
namespace Go.Proofs.Ytjiepgajjfnnkaa
open Go.ChangeShapes Go.WideShapes Go.ChangeAt Go.RowKit Go.Deep

theorem order_key (c lo hi : Int) (h : lo ≤ hi) : addS lo c ≤ addS hi c ∧ subS lo c ≤ subS hi c ∧ subS c hi ≤ subS c lo ∧ lo ≤ clampS c lo hi ∧ clampS c lo hi ≤ hi ∧ (clampS (clampS c lo hi) lo hi == clampS c lo hi) = true := by
  refine ⟨?_, ?_, ?_, ?_, ?_, ?_⟩
  · unfold addS clampS; omega
  · unfold subS clampS; omega
  · unfold subS clampS; omega
  · unfold clampS; omega
  · unfold clampS; omega
  · rw [beq_iff_eq]; unfold clampS; omega
theorem order_key2 (c lo hi : Int) (h1 : lo ≤ c) (h2 : c ≤ hi) : (clampS c lo hi == c) = true := by
  rw [beq_iff_eq]; unfold clampS; omega
set_option maxHeartbeats 1000000 in
theorem order_gt1 (a b c : Int) (ha : I64 a) (hb : I64 b) (hc : I64 c) (hab : b < a) (h1 : c < b) (w : World) :
    Calls Try.prog 7 #[.int .i64 a, .int .i64 b, .int .i64 c] w fun e w' => e = .returned (.bool true) ∧ Below w.heap.size w w' := by
  unfold I64 at ha hb hc
  obtain ⟨k1, k2, k3, k4, k5, k6⟩ := order_key c b a (by omega)
  go_enter Try.func7, Try.ntmps7
  go_wp2_with (first
    | (go_at_call 18; refine (sat_Add _ _ (I64_mk (by omega)) (I64_mk (by omega)) _).mono ?_; rintro e w1 ⟨rfl, rfl⟩)
    | (go_at_call 20; refine (sat_Sub _ _ (I64_mk (by omega)) (I64_mk (by omega)) _).mono ?_; rintro e w1 ⟨rfl, rfl⟩)
    | (go_at_call 22; refine (sat_Clamp _ _ _ _).mono ?_; rintro e w1 ⟨rfl, rfl⟩)
    | (go_at_call 28; refine (law03_awake _).mono ?_; rintro e w1 ⟨rfl, hb1⟩))
  all_goals
    go_ret
    exact ⟨rfl, by (repeat (first | assumption | exact Below.refl _ _ | refine below_step (by assumption) ?_ | refine below_alloc' _ ?_ | refine below_drewN ?_ _ | refine Below.drew ?_))⟩
set_option maxHeartbeats 1000000 in
theorem order_gt2 (a b c : Int) (ha : I64 a) (hb : I64 b) (hc : I64 c) (hab : b < a) (h1 : a < c) (h2 : b ≤ c) (w : World) :
    Calls Try.prog 7 #[.int .i64 a, .int .i64 b, .int .i64 c] w fun e w' => e = .returned (.bool true) ∧ Below w.heap.size w w' := by
  unfold I64 at ha hb hc
  obtain ⟨k1, k2, k3, k4, k5, k6⟩ := order_key c b a (by omega)
  go_enter Try.func7, Try.ntmps7
  go_wp2_with (first
    | (go_at_call 18; refine (sat_Add _ _ (I64_mk (by omega)) (I64_mk (by omega)) _).mono ?_; rintro e w1 ⟨rfl, rfl⟩)
    | (go_at_call 20; refine (sat_Sub _ _ (I64_mk (by omega)) (I64_mk (by omega)) _).mono ?_; rintro e w1 ⟨rfl, rfl⟩)
    | (go_at_call 22; refine (sat_Clamp _ _ _ _).mono ?_; rintro e w1 ⟨rfl, rfl⟩)
    | (go_at_call 28; refine (law03_awake _).mono ?_; rintro e w1 ⟨rfl, hb1⟩))
  all_goals
    go_ret
    exact ⟨rfl, by (repeat (first | assumption | exact Below.refl _ _ | refine below_step (by assumption) ?_ | refine below_alloc' _ ?_ | refine below_drewN ?_ _ | refine Below.drew ?_))⟩
set_option maxHeartbeats 1000000 in
theorem order_gt3 (a b c : Int) (ha : I64 a) (hb : I64 b) (hc : I64 c) (hab : b < a) (h2 : b ≤ c) (h3 : c ≤ a) (w : World) :
    Calls Try.prog 7 #[.int .i64 a, .int .i64 b, .int .i64 c] w fun e w' => e = .returned (.bool true) ∧ Below w.heap.size w w' := by
  unfold I64 at ha hb hc
  obtain ⟨k1, k2, k3, k4, k5, k6⟩ := order_key c b a (by omega)
  have k7 := order_key2 c b a h2 h3
  go_enter Try.func7, Try.ntmps7
  go_wp2_with (first
    | (go_at_call 18; refine (sat_Add _ _ (I64_mk (by omega)) (I64_mk (by omega)) _).mono ?_; rintro e w1 ⟨rfl, rfl⟩)
    | (go_at_call 20; refine (sat_Sub _ _ (I64_mk (by omega)) (I64_mk (by omega)) _).mono ?_; rintro e w1 ⟨rfl, rfl⟩)
    | (go_at_call 22; refine (sat_Clamp _ _ _ _).mono ?_; rintro e w1 ⟨rfl, rfl⟩)
    | (go_at_call 28; refine (law03_awake _).mono ?_; rintro e w1 ⟨rfl, hb1⟩))
  all_goals
    go_ret
    exact ⟨rfl, by (repeat (first | assumption | exact Below.refl _ _ | refine below_step (by assumption) ?_ | refine below_alloc' _ ?_ | refine below_drewN ?_ _ | refine Below.drew ?_))⟩
set_option maxHeartbeats 1000000 in
theorem order_lt1 (a b c : Int) (ha : I64 a) (hb : I64 b) (hc : I64 c) (hab : a < b) (h1 : c < a) (w : World) :
    Calls Try.prog 7 #[.int .i64 a, .int .i64 b, .int .i64 c] w fun e w' => e = .returned (.bool true) ∧ Below w.heap.size w w' := by
  unfold I64 at ha hb hc
  obtain ⟨k1, k2, k3, k4, k5, k6⟩ := order_key c a b (by omega)
  go_enter Try.func7, Try.ntmps7
  go_wp2_with (first
    | (go_at_call 18; refine (sat_Add _ _ (I64_mk (by omega)) (I64_mk (by omega)) _).mono ?_; rintro e w1 ⟨rfl, rfl⟩)
    | (go_at_call 20; refine (sat_Sub _ _ (I64_mk (by omega)) (I64_mk (by omega)) _).mono ?_; rintro e w1 ⟨rfl, rfl⟩)
    | (go_at_call 22; refine (sat_Clamp _ _ _ _).mono ?_; rintro e w1 ⟨rfl, rfl⟩)
    | (go_at_call 28; refine (law03_awake _).mono ?_; rintro e w1 ⟨rfl, hb1⟩))
  all_goals
    go_ret
    exact ⟨rfl, by (repeat (first | assumption | exact Below.refl _ _ | refine below_step (by assumption) ?_ | refine below_alloc' _ ?_ | refine below_drewN ?_ _ | refine Below.drew ?_))⟩
set_option maxHeartbeats 1000000 in
theorem order_lt2 (a b c : Int) (ha : I64 a) (hb : I64 b) (hc : I64 c) (hab : a < b) (h1 : b < c) (h2 : a ≤ c) (w : World) :
    Calls Try.prog 7 #[.int .i64 a, .int .i64 b, .int .i64 c] w fun e w' => e = .returned (.bool true) ∧ Below w.heap.size w w' := by
  unfold I64 at ha hb hc
  obtain ⟨k1, k2, k3, k4, k5, k6⟩ := order_key c a b (by omega)
  go_enter Try.func7, Try.ntmps7
  go_wp2_with (first
    | (go_at_call 18; refine (sat_Add _ _ (I64_mk (by omega)) (I64_mk (by omega)) _).mono ?_; rintro e w1 ⟨rfl, rfl⟩)
    | (go_at_call 20; refine (sat_Sub _ _ (I64_mk (by omega)) (I64_mk (by omega)) _).mono ?_; rintro e w1 ⟨rfl, rfl⟩)
    | (go_at_call 22; refine (sat_Clamp _ _ _ _).mono ?_; rintro e w1 ⟨rfl, rfl⟩)
    | (go_at_call 28; refine (law03_awake _).mono ?_; rintro e w1 ⟨rfl, hb1⟩))
  all_goals
    go_ret
    exact ⟨rfl, by (repeat (first | assumption | exact Below.refl _ _ | refine below_step (by assumption) ?_ | refine below_alloc' _ ?_ | refine below_drewN ?_ _ | refine Below.drew ?_))⟩
set_option maxHeartbeats 1000000 in
theorem order_lt3 (a b c : Int) (ha : I64 a) (hb : I64 b) (hc : I64 c) (hab : a < b) (h2 : a ≤ c) (h3 : c ≤ b) (w : World) :
    Calls Try.prog 7 #[.int .i64 a, .int .i64 b, .int .i64 c] w fun e w' => e = .returned (.bool true) ∧ Below w.heap.size w w' := by
  unfold I64 at ha hb hc
  obtain ⟨k1, k2, k3, k4, k5, k6⟩ := order_key c a b (by omega)
  have k7 := order_key2 c a b h2 h3
  go_enter Try.func7, Try.ntmps7
  go_wp2_with (first
    | (go_at_call 18; refine (sat_Add _ _ (I64_mk (by omega)) (I64_mk (by omega)) _).mono ?_; rintro e w1 ⟨rfl, rfl⟩)
    | (go_at_call 20; refine (sat_Sub _ _ (I64_mk (by omega)) (I64_mk (by omega)) _).mono ?_; rintro e w1 ⟨rfl, rfl⟩)
    | (go_at_call 22; refine (sat_Clamp _ _ _ _).mono ?_; rintro e w1 ⟨rfl, rfl⟩)
    | (go_at_call 28; refine (law03_awake _).mono ?_; rintro e w1 ⟨rfl, hb1⟩))
  all_goals
    go_ret
    exact ⟨rfl, by (repeat (first | assumption | exact Below.refl _ _ | refine below_step (by assumption) ?_ | refine below_alloc' _ ?_ | refine below_drewN ?_ _ | refine Below.drew ?_))⟩
set_option maxHeartbeats 1000000 in
theorem order_eq1 (a c : Int) (ha : I64 a) (hc : I64 c) (h1 : c < a) (w : World) :
    Calls Try.prog 7 #[.int .i64 a, .int .i64 a, .int .i64 c] w fun e w' => e = .returned (.bool true) ∧ Below w.heap.size w w' := by
  unfold I64 at ha hc
  obtain ⟨k1, k2, k3, k4, k5, k6⟩ := order_key c a a (by omega)
  go_enter Try.func7, Try.ntmps7
  go_wp2_with (first
    | (go_at_call 18; refine (sat_Add _ _ (I64_mk (by omega)) (I64_mk (by omega)) _).mono ?_; rintro e w1 ⟨rfl, rfl⟩)
    | (go_at_call 20; refine (sat_Sub _ _ (I64_mk (by omega)) (I64_mk (by omega)) _).mono ?_; rintro e w1 ⟨rfl, rfl⟩)
    | (go_at_call 22; refine (sat_Clamp _ _ _ _).mono ?_; rintro e w1 ⟨rfl, rfl⟩)
    | (go_at_call 28; refine (law03_awake _).mono ?_; rintro e w1 ⟨rfl, hb1⟩))
  all_goals
    go_ret
    exact ⟨rfl, by (repeat (first | assumption | exact Below.refl _ _ | refine below_step (by assumption) ?_ | refine below_alloc' _ ?_ | refine below_drewN ?_ _ | refine Below.drew ?_))⟩
set_option maxHeartbeats 1000000 in
theorem order_eq2 (a c : Int) (ha : I64 a) (hc : I64 c) (h1 : a < c) (w : World) :
    Calls Try.prog 7 #[.int .i64 a, .int .i64 a, .int .i64 c] w fun e w' => e = .returned (.bool true) ∧ Below w.heap.size w w' := by
  unfold I64 at ha hc
  obtain ⟨k1, k2, k3, k4, k5, k6⟩ := order_key c a a (by omega)
  go_enter Try.func7, Try.ntmps7
  go_wp2_with (first
    | (go_at_call 18; refine (sat_Add _ _ (I64_mk (by omega)) (I64_mk (by omega)) _).mono ?_; rintro e w1 ⟨rfl, rfl⟩)
    | (go_at_call 20; refine (sat_Sub _ _ (I64_mk (by omega)) (I64_mk (by omega)) _).mono ?_; rintro e w1 ⟨rfl, rfl⟩)
    | (go_at_call 22; refine (sat_Clamp _ _ _ _).mono ?_; rintro e w1 ⟨rfl, rfl⟩)
    | (go_at_call 28; refine (law03_awake _).mono ?_; rintro e w1 ⟨rfl, hb1⟩))
  all_goals
    go_ret
    exact ⟨rfl, by (repeat (first | assumption | exact Below.refl _ _ | refine below_step (by assumption) ?_ | refine below_alloc' _ ?_ | refine below_drewN ?_ _ | refine Below.drew ?_))⟩
set_option maxHeartbeats 1000000 in
theorem order_eq3 (a c : Int) (ha : I64 a) (hc : I64 c) (h2 : a ≤ c) (h3 : c ≤ a) (w : World) :
    Calls Try.prog 7 #[.int .i64 a, .int .i64 a, .int .i64 c] w fun e w' => e = .returned (.bool true) ∧ Below w.heap.size w w' := by
  unfold I64 at ha hc
  obtain ⟨k1, k2, k3, k4, k5, k6⟩ := order_key c a a (by omega)
  have k7 := order_key2 c a a h2 h3
  go_enter Try.func7, Try.ntmps7
  go_wp2_with (first
    | (go_at_call 18; refine (sat_Add _ _ (I64_mk (by omega)) (I64_mk (by omega)) _).mono ?_; rintro e w1 ⟨rfl, rfl⟩)
    | (go_at_call 20; refine (sat_Sub _ _ (I64_mk (by omega)) (I64_mk (by omega)) _).mono ?_; rintro e w1 ⟨rfl, rfl⟩)
    | (go_at_call 22; refine (sat_Clamp _ _ _ _).mono ?_; rintro e w1 ⟨rfl, rfl⟩)
    | (go_at_call 28; refine (law03_awake _).mono ?_; rintro e w1 ⟨rfl, hb1⟩))
  all_goals
    go_ret
    exact ⟨rfl, by (repeat (first | assumption | exact Below.refl _ _ | refine below_step (by assumption) ?_ | refine below_alloc' _ ?_ | refine below_drewN ?_ _ | refine Below.drew ?_))⟩
theorem law03_SatOrder (a b c : Int) (ha : I64 a) (hb : I64 b) (hc : I64 c) (w : World) :
    Calls Try.prog 7 #[.int .i64 a, .int .i64 b, .int .i64 c] w fun e w' => e = .returned (.bool true) ∧ Below w.heap.size w w' := by
  rcases Int.lt_trichotomy a b with hab | hab | hab
  · rcases Int.lt_or_le c a with h1 | h2
    · exact order_lt1 a b c ha hb hc hab h1 w
    · rcases Int.lt_or_le b c with h1 | h3
      · exact order_lt2 a b c ha hb hc hab h1 h2 w
      · exact order_lt3 a b c ha hb hc hab h2 h3 w
  · subst hab
    rcases Int.lt_or_le c a with h1 | h2
    · exact order_eq1 a c ha hc h1 w
    · rcases Int.lt_or_le a c with h1 | h3
      · exact order_eq2 a c ha hc h1 w
      · exact order_eq3 a c ha hc h2 h3 w
  · rcases Int.lt_or_le c b with h1 | h2
    · exact order_gt1 a b c ha hb hc hab h1 w
    · rcases Int.lt_or_le a c with h1 | h3
      · exact order_gt2 a b c ha hb hc hab h1 h2 w
      · exact order_gt3 a b c ha hb hc hab h2 h3 w
end Go.Proofs.Ytjiepgajjfnnkaa
