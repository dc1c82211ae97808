/- Walks of layer 24 (bucket) and of its reference. -/
import Derived.Test.YtjiepgajjfnnkaaSat
import Derived.Test.YtjiepgajjfnnkaaBucketP
namespace Go.Proofs.Ytjiepgajjfnnkaa
open Go.ChangeShapes Go.WideShapes Go.ChangeAt Go.RowKit Go.Deep BucketP

/-- a duration, held -/
def heldN (d : Int) : Nat := (clampS d 0 4611686018427387904).toNat
theorem held_le (d : Int) : heldN d ≤ 4611686018427387904 := by unfold heldN clampS; omega
theorem held_cast (d : Int) : clampS d 0 4611686018427387904 = (heldN d : Int) := by unfold heldN clampS; omega
theorem bits_held (d : Int) : nbits (heldN d) ≤ 63 := bits_le63 _ (held_le d)

theorem bucket_Of (d : Int) (w : World) :
    Calls Try.prog 14 #[.int .i64 d] w fun e w' => e = .returned (.int .i64 (nbits (heldN d) : Nat)) ∧ w = w' := by
  have h63 := bits_held d
  have hle := held_le d
  have hz := Lib.hid (shift_zero (heldN d))
  have hc := Lib.hid (held_cast d)
  go_enter Try.func14, Try.ntmps14
  go_wp2_with (first | go_step3 | (go_at_call 22; refine (sat_Clamp _ _ _ _).mono ?_; rintro e w' ⟨rfl, rfl⟩; rw [hc.out]))
  go_loop [3] (fun i => ∃ k : Nat, k ≤ nbits (heldN d) ∧ i = .int .i64 k) (fun i => 64 - (intOf i).toNat)
  case atStart => exact ⟨0, Nat.zero_le _, rfl⟩
  case round =>
    obtain ⟨k, hk, rfl⟩ := hrel
    have hs := Lib.hid (shift_zeroI (heldN d) k)
    go_wp2
    · go_ret
      have h1 : ((heldN d : Int) / 2 ^ k == 0) = true := by assumption
      rw [hs.out, decide_eq_true_eq] at h1
      exact ⟨ret_int (by omega), rfl⟩
    · have h1 : ((heldN d : Int) / 2 ^ k == 0) = false := by assumption
      rw [hs.out, decide_eq_false_iff_not] at h1
      exact ⟨⟨k + 1, by omega, by go_num⟩, by simp [intOf]; omega⟩

theorem bucket_Shared (a b : Int) (w : World) :
    Calls Try.prog 16 #[.int .i64 a, .int .i64 b] w fun e w' => e = .returned (.bool ((nbits (heldN a) : Int) == (nbits (heldN b) : Int))) ∧ w = w' := by
  go_enter Try.func16, Try.ntmps16
  go_wp2_with fail
  refine (bucket_Of a _).mono ?_
  rintro e w' ⟨rfl, rfl⟩
  go_wp2_with fail
  refine (bucket_Of b _).mono ?_
  rintro e w' ⟨rfl, rfl⟩
  go_wp2_with fail
  go_ret
  exact ⟨rfl, rfl⟩

theorem bucket_Bounds (k : Int) (w : World) :
    Calls Try.prog 12 #[.int .i64 k] w fun e w' => e = .returned (.tuple #[.int .i64 (bLow k), .int .i64 (bHigh k), .bool (bOk k)]) ∧ w = w' := by
  by_cases h : k < 0 ∨ 63 < k
  · obtain ⟨h1, h2, h3⟩ := bOut k h
    have H := Lib.hid (And.intro h1 (And.intro h2 h3)); clear h1 h2 h3
    rcases h with h | h
    · go_enter Try.func12, Try.ntmps12
      go_wp2
      go_ret3
      rw [H.out.1, H.out.2.1, H.out.2.2]
      exact ⟨rfl, rfl⟩
    · have h0 : 0 ≤ k := by omega
      go_enter Try.func12, Try.ntmps12
      go_wp2
      go_ret3
      rw [H.out.1, H.out.2.1, H.out.2.2]
      exact ⟨rfl, rfl⟩
  · by_cases h0 : k = 0
    · subst h0
      go_enter Try.func12, Try.ntmps12
      go_wp2
      go_ret3
      exact ⟨rfl, rfl⟩
    · obtain ⟨n, rfl⟩ : ∃ n : Nat, k = (n : Int) + 1 := ⟨(k - 1).toNat, by omega⟩
      have hn : n ≤ 62 := by omega
      have p1 := pow_lo n
      have p2 := pow_hi n hn
      have H := Lib.hid (And.intro (bOk_in n hn) (And.intro (bLow_in n hn) (bHigh_in n hn)))
      clear h h0
      go_enter Try.func12, Try.ntmps12
      go_wp2
      all_goals
        go_ret3
        rw [H.out.1, H.out.2.1, H.out.2.2]
        refine ⟨?_, rfl⟩
        first | rw [Int.min_eq_right (by omega)] | rw [Int.min_eq_left (by omega)]
        rfl

theorem ref_Bounds (k : Int) (w : World) :
    Calls Try.prog 13 #[.int .i64 k] w fun e w' => e = .returned (.tuple #[.int .i64 (bLow k), .int .i64 (bHigh k), .bool (bOk k)]) ∧ Below w.heap.size w w' := by
  by_cases h : k < 0 ∨ 63 < k
  · obtain ⟨h1, h2, h3⟩ := bOut k h
    have H := Lib.hid (And.intro h1 (And.intro h2 h3)); clear h1 h2 h3
    rcases h with h | h
    · go_enter Try.func13, Try.ntmps13
      go_wp2
      go_ret3
      rw [H.out.1, H.out.2.1, H.out.2.2]
      exact ⟨rfl, Below.refl _ _⟩
    · have h0 : 0 ≤ k := by omega
      go_enter Try.func13, Try.ntmps13
      go_wp2
      go_ret3
      rw [H.out.1, H.out.2.1, H.out.2.2]
      exact ⟨rfl, Below.refl _ _⟩
  · by_cases h0 : k = 0
    · subst h0
      go_enter Try.func13, Try.ntmps13
      go_wp2
      go_ret3
      exact ⟨rfl, Below.refl _ _⟩
    · obtain ⟨n, rfl⟩ : ∃ n : Nat, k = (n : Int) + 1 := ⟨(k - 1).toNat, by omega⟩
      have hn : n ≤ 62 := by omega
      have p1 := pow_lo n
      have p2 := pow_hi n hn
      have H := Lib.hid (And.intro (bOk_in n hn) (And.intro (bLow_in n hn) (bHigh_in n hn)))
      clear h h0
      by_cases hn2 : n = 62
      · subst hn2
        clear p1 p2 H hn
        go_enter Try.func13, Try.ntmps13
        go_wp2
        go_ret3
        exact ⟨rfl, Below.refl _ _⟩
      · have hlt : n < 62 := by omega
        have hne : ((n : Int) + 1 == 63) = false := by rw [beq_eq_false_iff_ne]; omega
        have p3 := pow_hi (n + 1) (by omega)
        have hs := Lib.hid (show (2 : Int) ^ (n + 1) = 2 ^ n + 2 ^ n by rw [Int.pow_succ]; omega)
        have p4 := pow_lo (n + 1)
        go_enter Try.func13, Try.ntmps13
        go_wp2_with fail
        go_quiet (fail)
        go_wp2
        go_ret3
        rw [H.out.1, H.out.2.1, H.out.2.2]
        have h4 := hs.out
        have h5 : min ((2 : Int) ^ n + (2 ^ n - 1)) 4611686018427387904 = 2 ^ (n + 1) - 1 := by omega
        rw [h5]
        exact ⟨rfl, below_drewN (Below.refl _ _) _⟩

theorem in_bucketB (d : Nat) (hd : d ≤ 4611686018427387904) (k : Nat) (hk : k ≤ 63) : (bLow k ≤ (d : Int) ∧ (d : Int) ≤ bHigh k) ↔ nbits d = k := by
  have h := in_bucket d k hd hk
  have ho : bOk (k : Int) = true := by unfold bOk; simp; omega
  have h1 : bLow k = (low k : Nat) := by unfold bLow; rw [if_pos ho, Int.toNat_natCast]
  have h2 : bHigh k = (high k : Nat) := by unfold bHigh; rw [if_pos ho, Int.toNat_natCast]
  rw [h1, h2, ← h]
  omega

theorem ref_Of (d : Int) (w : World) :
    Calls Try.prog 15 #[.int .i64 d] w fun e w' => e = .returned (.int .i64 (nbits (heldN d) : Nat)) ∧ Below w.heap.size w w' := by
  have h63 := bits_held d
  have hle := held_le d
  have hz := Lib.hid (in_bucketB (heldN d) hle)
  have hc := Lib.hid (held_cast d)
  go_enter Try.func15, Try.ntmps15
  go_wp2_with (first | (go_at_call 23; refine (ref_Clamp _ _ _ _).mono ?_; rintro e w' ⟨rfl, rfl⟩; rw [hc.out]))
  go_loopw [3] (fun i wr => ∃ k : Nat, k ≤ nbits (heldN d) ∧ i = .int .i64 k ∧ Below w.heap.size w wr) (fun i _ => 64 - (intOf i).toNat)
  case atStart => exact ⟨0, Nat.zero_le _, rfl, Below.refl _ _⟩
  case round =>
    obtain ⟨k, hk, rfl, hb⟩ := hrel
    have hs := Lib.hid (hz.out k (by omega))
    go_wp2_with (first | (go_at_call 13; refine (ref_Bounds _ _).mono ?_; rintro e w1 ⟨rfl, hb1⟩))
    · go_ret
      have h1 : bLow ↑k ≤ ↑(heldN d) := by assumption
      have h2 : ↑(heldN d) ≤ bHigh ↑k := by assumption
      have h3 := hs.out.1 ⟨h1, h2⟩
      exact ⟨ret_int (by omega), hb.trans (hb1.mono hb.size)⟩
    · have h1 : bHigh ↑k < ↑(heldN d) := by assumption
      have h3 : nbits (heldN d) ≠ k := fun e => by have := (hs.out.2 e).2; omega
      exact ⟨⟨k + 1, by omega, by go_num, hb.trans (hb1.mono hb.size)⟩, by simp [intOf]; omega⟩
    · have h1 : ¬ bLow ↑k ≤ ↑(heldN d) := by assumption
      have h3 : nbits (heldN d) ≠ k := fun e => h1 (hs.out.2 e).1
      exact ⟨⟨k + 1, by omega, by go_num, hb.trans (hb1.mono hb.size)⟩, by simp [intOf]; omega⟩
end Go.Proofs.Ytjiepgajjfnnkaa
