/- The statements of layer 14 (keyed): the walk of KeyedBack. -/
import Derived.Test.YtjiepgajjfnnkaaLaw14e
namespace Go.Proofs.Ytjiepgajjfnnkaa
open Go.ChangeShapes Go.WideShapes Go.ChangeAt Go.RowKit Go.Deep BigP

theorem KeyedBack_long (n : Int × Int × Int) (s : ByteArray) (hs : 40 < s.size) (w : World) :
    Calls Try.prog 11 #[.agg #[.int .i64 n.1, .int .i64 n.2.1, .int .i64 n.2.2], .string s] w fun e w' => e = .returned (.bool true) ∧ Below w.heap.size w w' := by
  go_enter Try.func11, Try.ntmps11
  go_wp2_with (go_at_call 29; refine (law14_awake _).mono ?_; rintro e w1 ⟨rfl, hb1⟩)
  go_ret
  exact ⟨rfl, by (repeat (first | assumption | exact Below.refl _ _ | refine below_step (by assumption) ?_ | refine below_alloc' _ ?_ | refine below_drewN ?_ _ | refine Below.drew ?_))⟩

set_option maxHeartbeats 1000000 in
theorem KeyedBack_16 (n : Int × Int × Int) (s : ByteArray) (h1 : I64 n.1) (h2 : I64 n.2.1) (h3 : I64 n.2.2) (hs : s.size = 16) (w : World) :
    Calls Try.prog 11 #[.agg #[.int .i64 n.1, .int .i64 n.2.1, .int .i64 n.2.2], .string s] w fun e w' => e = .returned (.bool true) ∧ Below w.heap.size w w' := by
  have k1 := Lib.hid (show ∀ w : World, Calls Try.prog 34 #[.int .i64 n.1, .int .i64 n.2.1] w fun e w' => e = .returned (.string (kk n.1 n.2.1)) ∧ Below w.heap.size w w' from keyed_Of n.1 n.2.1 h1 h2)
  have k2 := Lib.hid (show ∀ w : World, Calls Try.prog 30 #[.string (kk n.1 n.2.1)] w fun e w' => e = .returned (.tuple #[.int .i64 n.1, .int .i64 n.2.1, .bool true]) ∧ Below w.heap.size w w' from fun w => by
    have := keyed_Split (kk n.1 n.2.1) w
    rwa [spA_kk _ _ h1, spB_kk _ _ h2, kk_size] at this)
  have k3 := Lib.hid (show ∀ w : World, Calls Try.prog 36 #[.int .i64 n.2.2, .string (kk n.1 n.2.1)] w fun e w' => e = .returned (.string (ee n.2.2 (kk n.1 n.2.1))) ∧ Below w.heap.size w w' from keyed_End n.2.2 (kk n.1 n.2.1) h3 (by rw [kk_size]; omega))
  have k4 := Lib.hid (show ∀ w : World, Calls Try.prog 32 #[.string (ee n.2.2 (kk n.1 n.2.1))] w fun e w' => e = .returned (.tuple #[.int .i64 n.2.2, .string (kk n.1 n.2.1), .bool true]) ∧ Below w.heap.size w w' from fun w => by
    have := keyed_SplitEnd (ee n.2.2 (kk n.1 n.2.1)) w
    rwa [seA_ee _ _ h3 (kk_size _ _), seB_ee _ _ (kk_size _ _), ee_size, kk_size] at this)
  have k5 := Lib.hid (show ∀ w : World, Calls Try.prog 30 #[.string s] w fun e w' => e = .returned (.tuple #[.int .i64 (spA s), .int .i64 (spB s), .bool true]) ∧ Below w.heap.size w w' from fun w => by
    have := keyed_Split s w
    rwa [hs] at this)
  have k6 := Lib.hid (show ∀ w : World, Calls Try.prog 32 #[.string s] w fun e w' => e = .returned (.tuple #[.int .i64 (seA s), .string (seB s), .bool false]) ∧ Below w.heap.size w w' from fun w => by
    have := keyed_SplitEnd s w
    rwa [hs] at this)
  have k7 := Lib.hid (show ∀ w : World, Calls Try.prog 34 #[.int .i64 (spA s), .int .i64 (spB s)] w fun e w' => e = .returned (.string s) ∧ Below w.heap.size w w' from fun w => by
    have := keyed_Of (spA s) (spB s) (spA_I64 s) (spB_I64 s) w
    rwa [show (⟨(big 8 (up (spA s)) ++ big 8 (up (spB s))).toArray⟩ : ByteArray) = s from kk_split s hs] at this)
  clear h1 h2 h3
  go_enter Try.func11, Try.ntmps11
  have hz := fun u : Later (w.heap.size + 1) _ => later_at (alloc1_0 w (.cells #[.int .i64 n.1, .int .i64 n.2.1, .int .i64 n.2.2] 37)) (by omega) u
  have HB := Lib.hid (show w.heap.size + 1 ≤ (w.alloc (.cells #[.int .i64 n.1, .int .i64 n.2.1, .int .i64 n.2.2] 37)).heap.size by simp)
  have hbw : Below w.heap.size w (w.alloc (.cells #[.int .i64 n.1, .int .i64 n.2.1, .int .i64 n.2.2] 37)) := by (repeat (first | assumption | exact Below.refl _ _ | refine below_step (by assumption) ?_ | refine below_alloc' _ ?_ | refine below_drewN ?_ _ | refine Below.drew ?_))
  go_wp2_with (first
    | (go_at_call 34; with_reducible refine (later_of (Later.mk _ (Below.refl _ _)) HB.out (k1.out _)).mono ?_; rintro e w1 ⟨rfl, u, rfl⟩)
    | (go_at_call 30; with_reducible refine (later_of _ HB.out (k2.out _)).mono ?_; rintro e w1 ⟨rfl, u, rfl⟩)
    | (go_at_call 36; with_reducible refine (later_of _ HB.out (k3.out _)).mono ?_; rintro e w1 ⟨rfl, u, rfl⟩)
    | (go_at_call 32; with_reducible refine (later_of _ HB.out (k4.out _)).mono ?_; rintro e w1 ⟨rfl, u, rfl⟩)
    | (go_at_call 30; with_reducible refine (later_of _ HB.out (k5.out _)).mono ?_; rintro e w1 ⟨rfl, u, rfl⟩)
    | (go_at_call 32; with_reducible refine (later_of _ HB.out (k6.out _)).mono ?_; rintro e w1 ⟨rfl, u, rfl⟩)
    | (go_at_call 34; with_reducible refine (later_of _ HB.out (k7.out _)).mono ?_; rintro e w1 ⟨rfl, u, rfl⟩)
    | (go_at_call 29; with_reducible refine (later_of _ HB.out (law14_awake _)).mono ?_; rintro e w8 ⟨rfl, u, rfl⟩))
  go_ret
  exact ⟨rfl, below_of_later hbw (by omega) u⟩

set_option maxHeartbeats 1000000 in
theorem KeyedBack_24 (n : Int × Int × Int) (s : ByteArray) (h1 : I64 n.1) (h2 : I64 n.2.1) (h3 : I64 n.2.2) (hs : s.size = 24) (w : World) :
    Calls Try.prog 11 #[.agg #[.int .i64 n.1, .int .i64 n.2.1, .int .i64 n.2.2], .string s] w fun e w' => e = .returned (.bool true) ∧ Below w.heap.size w w' := by
  have k1 := Lib.hid (show ∀ w : World, Calls Try.prog 34 #[.int .i64 n.1, .int .i64 n.2.1] w fun e w' => e = .returned (.string (kk n.1 n.2.1)) ∧ Below w.heap.size w w' from keyed_Of n.1 n.2.1 h1 h2)
  have k2 := Lib.hid (show ∀ w : World, Calls Try.prog 30 #[.string (kk n.1 n.2.1)] w fun e w' => e = .returned (.tuple #[.int .i64 n.1, .int .i64 n.2.1, .bool true]) ∧ Below w.heap.size w w' from fun w => by
    have := keyed_Split (kk n.1 n.2.1) w
    rwa [spA_kk _ _ h1, spB_kk _ _ h2, kk_size] at this)
  have k3 := Lib.hid (show ∀ w : World, Calls Try.prog 36 #[.int .i64 n.2.2, .string (kk n.1 n.2.1)] w fun e w' => e = .returned (.string (ee n.2.2 (kk n.1 n.2.1))) ∧ Below w.heap.size w w' from keyed_End n.2.2 (kk n.1 n.2.1) h3 (by rw [kk_size]; omega))
  have k4 := Lib.hid (show ∀ w : World, Calls Try.prog 32 #[.string (ee n.2.2 (kk n.1 n.2.1))] w fun e w' => e = .returned (.tuple #[.int .i64 n.2.2, .string (kk n.1 n.2.1), .bool true]) ∧ Below w.heap.size w w' from fun w => by
    have := keyed_SplitEnd (ee n.2.2 (kk n.1 n.2.1)) w
    rwa [seA_ee _ _ h3 (kk_size _ _), seB_ee _ _ (kk_size _ _), ee_size, kk_size] at this)
  have k5 := Lib.hid (show ∀ w : World, Calls Try.prog 30 #[.string s] w fun e w' => e = .returned (.tuple #[.int .i64 (spA s), .int .i64 (spB s), .bool false]) ∧ Below w.heap.size w w' from fun w => by
    have := keyed_Split s w
    rwa [hs] at this)
  have k6 := Lib.hid (show ∀ w : World, Calls Try.prog 32 #[.string s] w fun e w' => e = .returned (.tuple #[.int .i64 (seA s), .string (seB s), .bool true]) ∧ Below w.heap.size w w' from fun w => by
    have := keyed_SplitEnd s w
    rwa [hs] at this)
  have k7 := Lib.hid (show ∀ w : World, Calls Try.prog 36 #[.int .i64 (seA s), .string (seB s)] w fun e w' => e = .returned (.string s) ∧ Below w.heap.size w w' from fun w => by
    have := keyed_End (seA s) (seB s) (seA_I64 s) (by have := seB_size s; omega) w
    rwa [show (⟨(big 8 (up (seA s)) ++ (seB s).data.toList).toArray⟩ : ByteArray) = s from ee_split s hs] at this)
  clear h1 h2 h3
  go_enter Try.func11, Try.ntmps11
  have hz := fun u : Later (w.heap.size + 1) _ => later_at (alloc1_0 w (.cells #[.int .i64 n.1, .int .i64 n.2.1, .int .i64 n.2.2] 37)) (by omega) u
  have HB := Lib.hid (show w.heap.size + 1 ≤ (w.alloc (.cells #[.int .i64 n.1, .int .i64 n.2.1, .int .i64 n.2.2] 37)).heap.size by simp)
  have hbw : Below w.heap.size w (w.alloc (.cells #[.int .i64 n.1, .int .i64 n.2.1, .int .i64 n.2.2] 37)) := by (repeat (first | assumption | exact Below.refl _ _ | refine below_step (by assumption) ?_ | refine below_alloc' _ ?_ | refine below_drewN ?_ _ | refine Below.drew ?_))
  go_wp2_with (first
    | (go_at_call 34; with_reducible refine (later_of (Later.mk _ (Below.refl _ _)) HB.out (k1.out _)).mono ?_; rintro e w1 ⟨rfl, u, rfl⟩)
    | (go_at_call 30; with_reducible refine (later_of _ HB.out (k2.out _)).mono ?_; rintro e w1 ⟨rfl, u, rfl⟩)
    | (go_at_call 36; with_reducible refine (later_of _ HB.out (k3.out _)).mono ?_; rintro e w1 ⟨rfl, u, rfl⟩)
    | (go_at_call 32; with_reducible refine (later_of _ HB.out (k4.out _)).mono ?_; rintro e w1 ⟨rfl, u, rfl⟩)
    | (go_at_call 30; with_reducible refine (later_of _ HB.out (k5.out _)).mono ?_; rintro e w1 ⟨rfl, u, rfl⟩)
    | (go_at_call 32; with_reducible refine (later_of _ HB.out (k6.out _)).mono ?_; rintro e w1 ⟨rfl, u, rfl⟩)
    | (go_at_call 36; with_reducible refine (later_of _ HB.out (k7.out _)).mono ?_; rintro e w1 ⟨rfl, u, rfl⟩)
    | (go_at_call 29; with_reducible refine (later_of _ HB.out (law14_awake _)).mono ?_; rintro e w8 ⟨rfl, u, rfl⟩))
  go_ret
  exact ⟨rfl, below_of_later hbw (by omega) u⟩

set_option maxHeartbeats 1000000 in
theorem KeyedBack_other (n : Int × Int × Int) (s : ByteArray) (h1 : I64 n.1) (h2 : I64 n.2.1) (h3 : I64 n.2.2) (hs : s.size ≤ 40) (h16 : s.size ≠ 16) (h24 : s.size ≠ 24) (w : World) :
    Calls Try.prog 11 #[.agg #[.int .i64 n.1, .int .i64 n.2.1, .int .i64 n.2.2], .string s] w fun e w' => e = .returned (.bool true) ∧ Below w.heap.size w w' := by
  have k1 := Lib.hid (show ∀ w : World, Calls Try.prog 34 #[.int .i64 n.1, .int .i64 n.2.1] w fun e w' => e = .returned (.string (kk n.1 n.2.1)) ∧ Below w.heap.size w w' from keyed_Of n.1 n.2.1 h1 h2)
  have k2 := Lib.hid (show ∀ w : World, Calls Try.prog 30 #[.string (kk n.1 n.2.1)] w fun e w' => e = .returned (.tuple #[.int .i64 n.1, .int .i64 n.2.1, .bool true]) ∧ Below w.heap.size w w' from fun w => by
    have := keyed_Split (kk n.1 n.2.1) w
    rwa [spA_kk _ _ h1, spB_kk _ _ h2, kk_size] at this)
  have k3 := Lib.hid (show ∀ w : World, Calls Try.prog 36 #[.int .i64 n.2.2, .string (kk n.1 n.2.1)] w fun e w' => e = .returned (.string (ee n.2.2 (kk n.1 n.2.1))) ∧ Below w.heap.size w w' from keyed_End n.2.2 (kk n.1 n.2.1) h3 (by rw [kk_size]; omega))
  have k4 := Lib.hid (show ∀ w : World, Calls Try.prog 32 #[.string (ee n.2.2 (kk n.1 n.2.1))] w fun e w' => e = .returned (.tuple #[.int .i64 n.2.2, .string (kk n.1 n.2.1), .bool true]) ∧ Below w.heap.size w w' from fun w => by
    have := keyed_SplitEnd (ee n.2.2 (kk n.1 n.2.1)) w
    rwa [seA_ee _ _ h3 (kk_size _ _), seB_ee _ _ (kk_size _ _), ee_size, kk_size] at this)
  have k5 := Lib.hid (show ∀ w : World, Calls Try.prog 30 #[.string s] w fun e w' => e = .returned (.tuple #[.int .i64 (spA s), .int .i64 (spB s), .bool false]) ∧ Below w.heap.size w w' from fun w => by
    have := keyed_Split s w
    rwa [decide_eq_false h16] at this)
  have k6 := Lib.hid (show ∀ w : World, Calls Try.prog 32 #[.string s] w fun e w' => e = .returned (.tuple #[.int .i64 (seA s), .string (seB s), .bool false]) ∧ Below w.heap.size w w' from fun w => by
    have := keyed_SplitEnd s w
    rwa [decide_eq_false h24] at this)
  have g1 : ((s.size : Int) == 16) = false := by simp; omega
  have g2 : ((s.size : Int) == 24) = false := by simp; omega
  clear h1 h2 h3
  go_enter Try.func11, Try.ntmps11
  have hz := fun u : Later (w.heap.size + 1) _ => later_at (alloc1_0 w (.cells #[.int .i64 n.1, .int .i64 n.2.1, .int .i64 n.2.2] 37)) (by omega) u
  have HB := Lib.hid (show w.heap.size + 1 ≤ (w.alloc (.cells #[.int .i64 n.1, .int .i64 n.2.1, .int .i64 n.2.2] 37)).heap.size by simp)
  have hbw : Below w.heap.size w (w.alloc (.cells #[.int .i64 n.1, .int .i64 n.2.1, .int .i64 n.2.2] 37)) := by (repeat (first | assumption | exact Below.refl _ _ | refine below_step (by assumption) ?_ | refine below_alloc' _ ?_ | refine below_drewN ?_ _ | refine Below.drew ?_))
  go_wp2_with (first
    | (go_at_call 34; with_reducible refine (later_of (Later.mk _ (Below.refl _ _)) HB.out (k1.out _)).mono ?_; rintro e w1 ⟨rfl, u, rfl⟩)
    | (go_at_call 30; with_reducible refine (later_of _ HB.out (k2.out _)).mono ?_; rintro e w1 ⟨rfl, u, rfl⟩)
    | (go_at_call 36; with_reducible refine (later_of _ HB.out (k3.out _)).mono ?_; rintro e w1 ⟨rfl, u, rfl⟩)
    | (go_at_call 32; with_reducible refine (later_of _ HB.out (k4.out _)).mono ?_; rintro e w1 ⟨rfl, u, rfl⟩)
    | (go_at_call 30; with_reducible refine (later_of _ HB.out (k5.out _)).mono ?_; rintro e w1 ⟨rfl, u, rfl⟩)
    | (go_at_call 32; with_reducible refine (later_of _ HB.out (k6.out _)).mono ?_; rintro e w1 ⟨rfl, u, rfl⟩)
    | (go_at_call 29; with_reducible refine (later_of _ HB.out (law14_awake _)).mono ?_; rintro e w8 ⟨rfl, u, rfl⟩))
  go_ret
  exact ⟨rfl, below_of_later hbw (by omega) u⟩

theorem law14_KeyedBack (n : Int × Int × Int) (s : ByteArray) (h1 : I64 n.1) (h2 : I64 n.2.1) (h3 : I64 n.2.2) (w : World) :
    Calls Try.prog 11 #[.agg #[.int .i64 n.1, .int .i64 n.2.1, .int .i64 n.2.2], .string s] w fun e w' => e = .returned (.bool true) ∧ Below w.heap.size w w' := by
  rcases Nat.lt_or_ge 40 s.size with h | h
  · exact KeyedBack_long n s h w
  · by_cases h16 : s.size = 16
    · exact KeyedBack_16 n s h1 h2 h3 h16 w
    · by_cases h24 : s.size = 24
      · exact KeyedBack_24 n s h1 h2 h3 h24 w
      · exact KeyedBack_other n s h1 h2 h3 h h16 h24 w
end Go.Proofs.Ytjiepgajjfnnkaa
