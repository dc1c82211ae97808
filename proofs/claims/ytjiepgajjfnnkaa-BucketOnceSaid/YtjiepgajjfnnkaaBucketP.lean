/- Plain mathematics of buckets (no program in sight): how many nbits a number has. -/
namespace Go.Proofs.Ytjiepgajjfnnkaa.BucketP
/-- how many nbits a number has -/
def nbits (d : Nat) : Nat := if d = 0 then 0 else d.log2 + 1
theorem lt_nbits (d : Nat) : d < 2 ^ nbits d := by
  unfold nbits; split
  · subst_vars; decide
  · exact Nat.lt_log2_self
theorem bits_le (d : Nat) (h : d ≠ 0) : 2 ^ (nbits d - 1) ≤ d := by
  unfold nbits; rw [if_neg h]; exact Nat.log2_self_le h
theorem le_bits_of (d k : Nat) (h : d < 2 ^ k) : nbits d ≤ k := by
  rcases Nat.lt_or_ge k (nbits d) with hk | hk
  · exfalso
    have hd : d ≠ 0 := by intro e; subst e; simp [nbits] at hk
    have h1 := bits_le d hd
    have : 2 ^ k ≤ 2 ^ (nbits d - 1) := Nat.pow_le_pow_right (by omega) (by omega)
    omega
  · exact hk
theorem lt_of_bits_le (d k : Nat) (h : nbits d ≤ k) : d < 2 ^ k := Nat.lt_of_lt_of_le (lt_nbits d) (Nat.pow_le_pow_right (by omega) h)
theorem shift_zero (d k : Nat) : d / 2 ^ k = 0 ↔ nbits d ≤ k := by
  rw [Nat.div_eq_zero_iff_lt (Nat.two_pow_pos k)]
  exact ⟨le_bits_of d k, lt_of_bits_le d k⟩
theorem bits_mono (a b : Nat) (h : a ≤ b) : nbits a ≤ nbits b := le_bits_of _ _ (Nat.lt_of_le_of_lt h (lt_nbits b))
/-- the least and the greatest number of a bucket -/
def low (k : Nat) : Nat := if k = 0 then 0 else 2 ^ (k - 1)
def high (k : Nat) : Nat := min (2 ^ k - 1) (2 ^ 62)
theorem pow63 (k : Nat) (h : k ≤ 63) : 2 ^ k ≤ 2 ^ 63 := Nat.pow_le_pow_right (by omega) h
theorem in_bucket (d k : Nat) (hd : d ≤ 2 ^ 62) (hk : k ≤ 63) : (low k ≤ d ∧ d ≤ high k) ↔ nbits d = k := by
  constructor
  · rintro ⟨h1, h2⟩
    have h3 : d < 2 ^ k := by unfold high at h2; have := Nat.two_pow_pos k; omega
    have h4 := le_bits_of d k h3
    unfold low at h1
    split at h1
    · omega
    · rename_i hk0
      rcases Nat.lt_or_ge (nbits d) k with h | h
      · have h5 := lt_of_bits_le d (k - 1) (by omega)
        omega
      · omega
  · rintro rfl
    have h1 := lt_nbits d
    refine ⟨?_, by unfold high; omega⟩
    unfold low; split
    · omega
    · rename_i h0
      exact bits_le d (by intro e; subst e; simp [nbits] at h0)
theorem bits_le63 (d : Nat) (h : d ≤ 2 ^ 62) : nbits d ≤ 63 := by
  refine le_bits_of d 63 ?_
  have : (2 : Nat) ^ 62 < 2 ^ 63 := by decide
  omega
theorem twice (a b : Nat) (h : nbits a = nbits b) (hab : a ≤ b) (h0 : a ≠ b) : b - a < a := by
  have ha : a ≠ 0 := by
    intro e; subst e
    have hb : nbits b = 0 := by rw [← h]; rfl
    have := lt_nbits b
    rw [hb] at this; simp at this; omega
  have h1 := bits_le a ha
  have h2 := lt_nbits b
  have h3 : nbits a ≠ 0 := by unfold nbits; rw [if_neg ha]; omega
  rw [← h] at h2
  have : 2 ^ nbits a = 2 ^ (nbits a - 1) * 2 := by rw [← Nat.pow_succ]; congr 1; omega
  omega
theorem shift_zeroI (d k : Nat) : ((d : Int) / 2 ^ k == 0) = decide (nbits d ≤ k) := by
  have e : ((d : Int) / 2 ^ k) = ((d / 2 ^ k : Nat) : Int) := by
    rw [Int.natCast_ediv, Int.natCast_pow]; rfl
  rw [e]
  have := shift_zero d k
  by_cases h : d / 2 ^ k = 0
  · rw [h]; simp [this.1 h]
  · have h2 : ¬ nbits d ≤ k := fun hh => h (this.2 hh)
    rw [decide_eq_false h2, beq_eq_false_iff_ne]; omega
/-- the bounds of any number of a bucket -/
def bOk (k : Int) : Bool := decide (0 ≤ k) && decide (k ≤ 63)
def bLow (k : Int) : Int := if bOk k then (low k.toNat : Nat) else 0
def bHigh (k : Int) : Int := if bOk k then (high k.toNat : Nat) else 0
theorem pow_lo (n : Nat) : (1 : Int) ≤ 2 ^ n := by
  have := Nat.two_pow_pos n
  have h : ((2 ^ n : Nat) : Int) = 2 ^ n := Int.natCast_pow 2 n
  omega
theorem pow_hi (n : Nat) (h : n ≤ 62) : (2 : Int) ^ n ≤ 4611686018427387904 := by
  have h1 : 2 ^ n ≤ 2 ^ 62 := Nat.pow_le_pow_right (by omega) h
  have h2 : ((2 ^ n : Nat) : Int) = 2 ^ n := Int.natCast_pow 2 n
  omega
theorem bOk_in (n : Nat) (h : n ≤ 62) : bOk ((n : Int) + 1) = true := by unfold bOk; simp; omega
theorem bLow_in (n : Nat) (h : n ≤ 62) : bLow ((n : Int) + 1) = 2 ^ n := by
  unfold bLow; rw [if_pos (bOk_in n h)]
  have : ((n : Int) + 1).toNat = n + 1 := by omega
  rw [this]; unfold low; rw [if_neg (by omega)]
  exact Int.natCast_pow 2 n
theorem bHigh_in (n : Nat) (h : n ≤ 62) : bHigh ((n : Int) + 1) = min (2 ^ n + (2 ^ n - 1)) 4611686018427387904 := by
  unfold bHigh; rw [if_pos (bOk_in n h)]
  have : ((n : Int) + 1).toNat = n + 1 := by omega
  rw [this]; unfold high
  have h2 : ((2 ^ n : Nat) : Int) = 2 ^ n := Int.natCast_pow 2 n
  have h3 : 2 ^ (n + 1) = 2 ^ n + 2 ^ n := by rw [Nat.pow_succ]; omega
  have h4 := Nat.two_pow_pos n
  omega
theorem bOut (k : Int) (h : k < 0 ∨ 63 < k) : bOk k = false ∧ bLow k = 0 ∧ bHigh k = 0 := by
  have h1 : bOk k = false := by unfold bOk; simp; omega
  exact ⟨h1, by unfold bLow; rw [if_neg (by simp [h1])], by unfold bHigh; rw [if_neg (by simp [h1])]⟩
end Go.Proofs.Ytjiepgajjfnnkaa.BucketP
