/- The statements of layer 24 (bucket): the walks of the laws. -/
import Derived.Test.YtjiepgajjfnnkaaBucket
namespace Go.Proofs.Ytjiepgajjfnnkaa
open Go.ChangeShapes Go.WideShapes Go.ChangeAt Go.RowKit Go.Deep BucketP

theorem law24_awake (w : World) : Calls Try.prog 17 #[] w fun e w' => e = .returned (.bool true) ∧ w = w' := by
  have a1 : bLow 3 = 4 := by decide
  have a2 : bHigh 3 = 7 := by decide
  have a3 : bOk 3 = true := by decide
  have a4 : bOk 64 = false := by decide
  have a5 : nbits (heldN 5) = 3 := by decide
  have a6 : nbits (heldN 9223372036854775807) = 63 := by decide
  have a7 : ((nbits (heldN 4) : Int) == (nbits (heldN 7) : Int)) = true := by decide
  have a8 : ((nbits (heldN 7) : Int) == (nbits (heldN 8) : Int)) = false := by decide
  go_enter Try.func17, Try.ntmps17
  go_wp2_with (first
    | (go_at_call 12; refine (bucket_Bounds _ _).mono ?_; rintro e w1 ⟨rfl, rfl⟩)
    | (go_at_call 14; refine (bucket_Of _ _).mono ?_; rintro e w1 ⟨rfl, rfl⟩)
    | (go_at_call 16; refine (bucket_Shared _ _ _).mono ?_; rintro e w1 ⟨rfl, rfl⟩))
  go_ret
  exact ⟨rfl, rfl⟩

theorem law24_BucketIs (a b k : Int) (w : World) : Calls Try.prog 3 #[.int .i64 a, .int .i64 b, .int .i64 k] w fun e w' => e = .returned (.bool true) ∧ Below w.heap.size w w' := by
  go_enter Try.func3, Try.ntmps3
  go_wp2_with (first
    | (go_at_call 12; refine (bucket_Bounds _ _).mono ?_; rintro e w1 ⟨rfl, rfl⟩)
    | (go_at_call 13; refine (ref_Bounds _ _).mono ?_; rintro e w1 ⟨rfl, hb1⟩)
    | (go_at_call 14; refine (bucket_Of _ _).mono ?_; rintro e w1 ⟨rfl, rfl⟩)
    | (go_at_call 15; refine (ref_Of _ _).mono ?_; rintro e w1 ⟨rfl, hb2⟩)
    | (go_at_call 16; refine (bucket_Shared _ _ _).mono ?_; rintro e w1 ⟨rfl, rfl⟩)
    | (go_at_call 17; refine (law24_awake _).mono ?_; rintro e w1 ⟨rfl, rfl⟩))
  go_ret
  exact ⟨rfl, by (repeat (first | assumption | exact Below.refl _ _ | refine below_step (by assumption) ?_ | refine below_alloc' _ ?_ | refine below_drewN ?_ _ | refine Below.drew ?_))⟩

theorem held_in (a : Int) (h0 : 0 ≤ a) (h1 : a ≤ 4611686018427387904) : (heldN a : Int) = a := by unfold heldN clampS; omega
theorem in_bucketI (a : Int) (ha : (heldN a : Int) = a) (i : Int) (ho : bOk i = true) : (bLow i ≤ a ∧ a ≤ bHigh i) ↔ (nbits (heldN a) : Int) = i := by
  have h := ho
  unfold bOk at h
  simp at h
  obtain ⟨k, rfl⟩ : ∃ k : Nat, i = k := ⟨i.toNat, by omega⟩
  have := in_bucketB (heldN a) (held_le a) k (by omega)
  rw [ha] at this
  rw [this]; omega
theorem twiceI (a b : Int) (ha : (heldN a : Int) = a) (hb : (heldN b : Int) = b) (hab : a ≤ b) (h : (nbits (heldN a) : Int) = (nbits (heldN b) : Int)) (hne : a ≠ b) : b - a < a := by
  have := twice (heldN a) (heldN b) (by omega) (by omega) (by omega)
  omega
set_option maxHeartbeats 400000 in
theorem law24_BucketOnce (a b : Int) (w : World) : Calls Try.prog 4 #[.int .i64 a, .int .i64 b] w fun e w' => e = .returned (.bool true) ∧ Below w.heap.size w w' := by
  by_cases h : a < 0 ∨ 4611686018427387904 < a ∨ b < a ∨ 4611686018427387904 < b
  · have hg : ((decide (a < 0) || decide (4611686018427387904 < a)) || decide (b < a) || decide (4611686018427387904 < b)) = true := by simp; omega
    go_enter Try.func4, Try.ntmps4
    go_wp2_with (go_at_call 17; refine (law24_awake _).mono ?_; rintro e w1 ⟨rfl, rfl⟩)
    all_goals
      go_ret
      exact ⟨rfl, Below.refl _ _⟩
  · have ha := held_in a (by omega) (by omega)
    have hb := held_in b (by omega) (by omega)
    have hK := bits_held a
    have hin := Lib.hid (in_bucketI a ha)
    have hmono : (nbits (heldN a) : Int) ≤ (nbits (heldN b) : Int) := by
      have := bits_mono (heldN a) (heldN b) (by omega)
      omega
    have htw := Lib.hid (twiceI a b ha hb (by omega))
    have hsame : ((nbits (heldN a) : Int) == (nbits (heldN a) : Int)) = true := by simp
    have hz : 0 ≤ a ∧ a ≤ b ∧ b ≤ 4611686018427387904 ∧ a ≤ 4611686018427387904 := by omega
    clear h ha hb
    go_enter Try.func4, Try.ntmps4
    go_wp2_with (first
      | (go_at_call 14; refine (bucket_Of _ _).mono ?_; rintro e w1 ⟨rfl, rfl⟩))
    go_loop [6, 7] (fun m i => ∃ k : Nat, k ≤ 66 ∧ i = .int .i64 ((k : Int) - 1) ∧ ((k ≤ nbits (heldN a) + 1 ∧ m = .int .i64 0) ∨ (nbits (heldN a) + 1 < k ∧ m = .int .i64 1))) (fun _ i => (65 - intOf i).toNat)
    case atStart => exact ⟨0, by omega, rfl, .inl ⟨by omega, rfl⟩⟩
    case round =>
      obtain ⟨k, hk, rfl, ⟨hm, rfl⟩ | ⟨hm, rfl⟩⟩ := hrel
      · by_cases hlt : k = 66
        · omega
        · have hk' : (k : Int) - 1 ≤ 64 := by omega
          have hink := Lib.hid (hin.out ((k : Int) - 1))
          clear hlt hin
          go_wp2_with (first
            | (go_at_call 12; refine (bucket_Bounds _ _).mono ?_; rintro e w1 ⟨rfl, rfl⟩))
          · exfalso
            have h1 : bOk ((k : Int) - 1) = true := by assumption
            have h2 : bLow ((k : Int) - 1) ≤ a := by assumption
            have h3 : a ≤ bHigh ((k : Int) - 1) := by assumption
            have h4 : ((k : Int) - 1 != (nbits (heldN a) : Int)) = true := by assumption
            have h5 := (hink.out h1).1 ⟨h2, h3⟩
            simp at h4
            omega
          · have h4 : ((k : Int) - 1 != (nbits (heldN a) : Int)) = false := by assumption
            simp at h4
            exact ⟨⟨k + 1, by omega, by go_num, .inr ⟨by omega, rfl⟩⟩, by simp [intOf]; omega⟩
          · have h1 : bOk ((k : Int) - 1) = true := by assumption
            have h3 : bHigh ((k : Int) - 1) < a := by assumption
            have h5 : k ≠ nbits (heldN a) + 1 := fun e => by have := ((hink.out h1).2 (by omega)).2; omega
            exact ⟨⟨k + 1, by omega, by go_num, .inl ⟨by omega, rfl⟩⟩, by simp [intOf]; omega⟩
          · have h1 : bOk ((k : Int) - 1) = true := by assumption
            have h3 : ¬ bLow ((k : Int) - 1) ≤ a := by assumption
            have h5 : k ≠ nbits (heldN a) + 1 := fun e => h3 ((hink.out h1).2 (by omega)).1
            exact ⟨⟨k + 1, by omega, by go_num, .inl ⟨by omega, rfl⟩⟩, by simp [intOf]; omega⟩
          · have h1 : ¬ bOk ((k : Int) - 1) = true := by assumption
            have h5 : k ≠ nbits (heldN a) + 1 := fun e => h1 (by unfold bOk; simp; omega)
            exact ⟨⟨k + 1, by omega, by go_num, .inl ⟨by omega, rfl⟩⟩, by simp [intOf]; omega⟩
      · by_cases hlt : k = 66
        · subst hlt
          go_wp2_with (first
            | (go_at_call 14; refine (bucket_Of _ _).mono ?_; rintro e w1 ⟨rfl, rfl⟩)
            | (go_at_call 16; refine (bucket_Shared _ _ _).mono ?_; rintro e w1 ⟨rfl, rfl⟩)
            | (go_at_call 17; refine (law24_awake _).mono ?_; rintro e w1 ⟨rfl, rfl⟩))
          · go_ret
            exact ⟨rfl, Below.refl _ _⟩
          · go_ret
            exact ⟨rfl, Below.refl _ _⟩
          · exfalso
            have h1 : (nbits (heldN a) : Int) = (nbits (heldN b) : Int) := by assumption
            have h2 : ¬ a = b := by assumption
            have := htw.out h1 h2
            omega
          · go_ret
            exact ⟨rfl, Below.refl _ _⟩
        · have hk' : (k : Int) - 1 ≤ 64 := by omega
          have hink := Lib.hid (hin.out ((k : Int) - 1))
          clear hlt hin
          go_wp2_with (first
            | (go_at_call 12; refine (bucket_Bounds _ _).mono ?_; rintro e w1 ⟨rfl, rfl⟩))
          · exfalso
            have h1 : bOk ((k : Int) - 1) = true := by assumption
            have h2 : bLow ((k : Int) - 1) ≤ a := by assumption
            have h3 : a ≤ bHigh ((k : Int) - 1) := by assumption
            have h5 := (hink.out h1).1 ⟨h2, h3⟩
            omega
          all_goals exact ⟨⟨k + 1, by omega, by go_num, .inr ⟨by omega, rfl⟩⟩, by simp [intOf]; omega⟩
end Go.Proofs.Ytjiepgajjfnnkaa
