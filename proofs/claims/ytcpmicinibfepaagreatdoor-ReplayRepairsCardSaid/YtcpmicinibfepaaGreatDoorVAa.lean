/- Plain mathematics of the sums of 32 bits (no program in sight): steps are linear, none loses anything, the table of four bits, parts, and bursts of up to 32 bits. -/
namespace Go.Proofs.YtcpmicinibfepaaGreatDoor.CrcP

def poly : BitVec 32 := 0x82f63b78#32
def step (c : BitVec 32) : BitVec 32 := (c >>> 1) ^^^ (if c.getLsbD 0 then poly else 0#32)
def steps : Nat → BitVec 32 → BitVec 32
  | 0, c => c
  | n + 1, c => steps n (step c)
def byte (c : BitVec 32) (b : UInt8) : BitVec 32 := steps 8 (c ^^^ BitVec.ofNat 32 b.toNat)
def run (c : BitVec 32) (l : List UInt8) : BitVec 32 := l.foldl byte c
def all : BitVec 32 := 0xffffffff#32
def more (sum : BitVec 32) (l : List UInt8) : BitVec 32 := run (sum ^^^ all) l ^^^ all
def sum (l : List UInt8) : BitVec 32 := more 0#32 l

theorem xor_swap (a b c d : BitVec 32) : (a ^^^ b) ^^^ (c ^^^ d) = (a ^^^ c) ^^^ (b ^^^ d) := by
  ext i; simp only [BitVec.getElem_xor]; cases a[i] <;> cases b[i] <;> cases c[i] <;> cases d[i] <;> rfl

theorem step_xor (a b : BitVec 32) : step (a ^^^ b) = step a ^^^ step b := by
  unfold step
  rw [BitVec.ushiftRight_xor_distrib, BitVec.getLsbD_xor]
  cases a.getLsbD 0 <;> cases b.getLsbD 0 <;> simp only [Bool.xor_false, Bool.xor_true, Bool.not_true, Bool.not_false, if_true, Bool.false_eq_true, if_false]
  · rw [xor_swap]; simp
  · rw [xor_swap]; simp
  · rw [xor_swap]; simp
  · rw [xor_swap]; simp

theorem step_zero : step 0#32 = 0#32 := by decide

theorem step_inj0 (c : BitVec 32) (h : step c = 0#32) : c = 0#32 := by
  have hb : c.getLsbD 0 = false := by
    cases hc : c.getLsbD 0 with
    | false => rfl
    | true =>
      exfalso
      have h31 := congrArg (fun x => x.getLsbD 31) h
      unfold step at h31
      rw [hc] at h31
      simp [poly] at h31
  unfold step at h
  rw [hb] at h
  simp only [Bool.false_eq_true, if_false, BitVec.xor_zero] at h
  apply BitVec.eq_of_getLsbD_eq
  intro i hi
  rcases i with _ | i
  · simpa using hb
  · have := congrArg (fun x => x.getLsbD i) h
    simp only [BitVec.getLsbD_ushiftRight] at this
    rw [Nat.add_comm i 1]; simpa using this

theorem steps_xor (n : Nat) : ∀ a b : BitVec 32, steps n (a ^^^ b) = steps n a ^^^ steps n b := by
  induction n with
  | zero => intro a b; rfl
  | succ n ih => intro a b; simp only [steps, step_xor, ih]
theorem steps_zero (n : Nat) : steps n 0#32 = 0#32 := by
  induction n with
  | zero => rfl
  | succ n ih => simp only [steps, step_zero, ih]
theorem steps_inj0 (n : Nat) : ∀ c : BitVec 32, steps n c = 0#32 → c = 0#32 := by
  induction n with
  | zero => intro c h; exact h
  | succ n ih => intro c h; exact step_inj0 _ (ih _ h)
theorem steps_add (m n : Nat) : ∀ c : BitVec 32, steps (m + n) c = steps n (steps m c) := by
  induction m with
  | zero => intro c; simp [steps]
  | succ m ih => intro c; rw [Nat.succ_add]; simp only [steps, ih]
theorem steps_succ' (n : Nat) (c : BitVec 32) : steps (n + 1) c = step (steps n c) := by rw [steps_add n 1]; rfl

/-- a number without its lowest bits is but moved down -/
theorem step_even (c : BitVec 32) (h : c.getLsbD 0 = false) : step c = c >>> 1 := by
  unfold step; rw [h]; simp
theorem steps_low (n : Nat) : ∀ c : BitVec 32, (∀ i, i < n → c.getLsbD i = false) → steps n c = c >>> n := by
  induction n with
  | zero => intro c _; simp [steps]
  | succ n ih =>
    intro c h
    simp only [steps]
    rw [step_even c (h 0 (by omega)), ih]
    · rw [← BitVec.shiftRight_add, Nat.add_comm]
    · intro i hi
      rw [BitVec.getLsbD_ushiftRight]
      exact h (1 + i) (by omega)

/-- the table of four bits -/
theorem steps4 (c : BitVec 32) : steps 4 c = (c >>> 4) ^^^ steps 4 (c &&& 15#32) := by
  have h : c = (c &&& ~~~15#32) ^^^ (c &&& 15#32) := by
    ext i; simp only [BitVec.getElem_xor, BitVec.getElem_and, BitVec.getElem_not]; cases c[i] <;> cases (15#32)[i] <;> rfl
  have hl : steps 4 (c &&& ~~~15#32) = (c &&& ~~~15#32) >>> 4 := by
    apply steps_low
    intro i hi
    have hi' : i = 0 ∨ i = 1 ∨ i = 2 ∨ i = 3 := by omega
    rcases hi' with rfl | rfl | rfl | rfl <;> simp
  have hs : (c &&& ~~~15#32) >>> 4 = c >>> 4 := by
    apply BitVec.eq_of_getLsbD_eq
    intro i hi
    simp only [BitVec.getLsbD_ushiftRight, BitVec.getLsbD_and, BitVec.getLsbD_not]
    by_cases h4 : 4 + i < 32
    · have : (15#32).getLsbD (4 + i) = false := by
        rw [BitVec.getLsbD_ofNat]
        have ht : Nat.testBit 15 (4 + i) = false := by
          apply Nat.testBit_lt_two_pow
          calc 15 < 2 ^ 4 := by decide
            _ ≤ 2 ^ (4 + i) := Nat.pow_le_pow_right (by decide) (by omega)
        rw [ht]; simp
      rw [this]; simp [h4]
    · rw [BitVec.getLsbD_of_ge c _ (by omega)]; simp
  calc steps 4 c = steps 4 ((c &&& ~~~15#32) ^^^ (c &&& 15#32)) := by rw [← h]
    _ = steps 4 (c &&& ~~~15#32) ^^^ steps 4 (c &&& 15#32) := steps_xor _ _ _
    _ = _ := by rw [hl, hs]

theorem steps8 (c : BitVec 32) : steps 8 c = steps 4 (steps 4 c) := steps_add 4 4 c

theorem byte_xor (a b : BitVec 32) (x y : UInt8) : byte (a ^^^ b) (x ^^^ y) = byte a x ^^^ byte b y := by
  unfold byte
  rw [← steps_xor]
  congr 1
  have h : BitVec.ofNat 32 (x ^^^ y).toNat = BitVec.ofNat 32 x.toNat ^^^ BitVec.ofNat 32 y.toNat := by
    rw [UInt8.toNat_xor]
    apply BitVec.eq_of_toNat_eq
    simp only [BitVec.toNat_ofNat, BitVec.toNat_xor]
    have hx := x.toNat_lt; have hy := y.toNat_lt
    have hxy : x.toNat ^^^ y.toNat < 2 ^ 8 := Nat.xor_lt_two_pow (by omega) (by omega)
    rw [Nat.mod_eq_of_lt (by omega), Nat.mod_eq_of_lt (by omega), Nat.mod_eq_of_lt (by omega)]
  rw [h, xor_swap]

theorem run_append (c : BitVec 32) (a b : List UInt8) : run c (a ++ b) = run (run c a) b := by simp [run, List.foldl_append]
theorem run_nil (c : BitVec 32) : run c [] = c := rfl
theorem run_cons (c : BitVec 32) (x : UInt8) (l : List UInt8) : run c (x :: l) = run (byte c x) l := rfl

theorem more_append (s : BitVec 32) (a b : List UInt8) : more s (a ++ b) = more (more s a) b := by
  unfold more
  rw [run_append]
  congr 2
  rw [BitVec.xor_assoc, BitVec.xor_self, BitVec.xor_zero]
theorem more_nil (s : BitVec 32) : more s [] = s := by
  unfold more; rw [run_nil, BitVec.xor_assoc, BitVec.xor_self, BitVec.xor_zero]

theorem run_xor : ∀ (a e : List UInt8) (c d : BitVec 32), a.length = e.length →
    run (c ^^^ d) (List.zipWith (· ^^^ ·) a e) = run c a ^^^ run d e := by
  intro a
  induction a with
  | nil => intro e c d h; cases e with
    | nil => rfl
    | cons _ _ => simp at h
  | cons x a ih => intro e c d h; cases e with
    | nil => simp at h
    | cons y e =>
      simp only [List.zipWith_cons_cons, run_cons, byte_xor]
      exact ih e _ _ (by simpa using h)

theorem byte_zero (c : BitVec 32) : byte c 0 = steps 8 c := by unfold byte; simp
theorem run_zeros (m : Nat) : ∀ c : BitVec 32, run c (List.replicate m 0) = steps (8 * m) c := by
  induction m with
  | zero => intro c; rfl
  | succ m ih => intro c; rw [List.replicate_succ, run_cons, byte_zero, ih, Nat.mul_succ, Nat.add_comm, steps_add]

/-- four bytes of a number of 32 bits -/
def byteOf (v : BitVec 32) (i : Nat) : UInt8 := UInt8.ofNat ((v.toNat >>> (8 * i)) % 256)
def part (v : BitVec 32) (i : Nat) : BitVec 32 := BitVec.ofNat 32 (byteOf v i).toNat
theorem part_bit (v : BitVec 32) (i j : Nat) : (part v i).getLsbD j = (decide (j < 8) && v.getLsbD (8 * i + j)) := by
  unfold part byteOf
  have h : (UInt8.ofNat ((v.toNat >>> (8 * i)) % 256)).toNat = (v.toNat >>> (8 * i)) % 2 ^ 8 := by
    rw [UInt8.toNat_ofNat_of_lt' (by show _ < 256; omega)]
  rw [h, BitVec.getLsbD_ofNat, Nat.testBit_mod_two_pow, Nat.testBit_shiftRight, ← BitVec.getLsbD]
  by_cases hj : j < 8
  · simp [hj, show j < 32 by omega]
  · simp [hj]
theorem run4 (v : BitVec 32) : run 0#32 [byteOf v 0, byteOf v 1, byteOf v 2, byteOf v 3] = steps 32 v := by
  have hb : ∀ c i, byte c (byteOf v i) = steps 8 (c ^^^ part v i) := fun _ _ => rfl
  simp only [run_cons, run_nil, hb, BitVec.zero_xor]
  have hsh : ∀ n i, n = 8 * i → i < 4 → steps n (part v i <<< n) = part v i := by
    intro n i hn hi
    rw [steps_low]
    · apply BitVec.eq_of_getLsbD_eq
      intro j hj
      rw [BitVec.getLsbD_ushiftRight, BitVec.getLsbD_shiftLeft, part_bit, part_bit]
      by_cases hj8 : j < 8
      · simp [hj8, show n + j < 32 by omega, show ¬ (n + j < n) by omega]
      · simp [hj8]
    · intro j hj
      rw [BitVec.getLsbD_shiftLeft]
      simp [hj]
  have h1 : steps 8 (part v 0) ^^^ part v 1 = steps 8 (part v 0 ^^^ part v 1 <<< 8) := by rw [steps_xor, hsh 8 1 rfl (by decide)]
  have h2 : steps 8 (steps 8 (part v 0) ^^^ part v 1) ^^^ part v 2 = steps 16 (part v 0 ^^^ part v 1 <<< 8 ^^^ part v 2 <<< 16) := by
    rw [h1, ← steps_add 8 8, steps_xor 16 _ (part v 2 <<< 16), hsh 16 2 rfl (by decide)]
  have h3 : steps 8 (steps 8 (steps 8 (part v 0) ^^^ part v 1) ^^^ part v 2) ^^^ part v 3 = steps 24 (part v 0 ^^^ part v 1 <<< 8 ^^^ part v 2 <<< 16 ^^^ part v 3 <<< 24) := by
    rw [h2, ← steps_add 16 8, steps_xor 24 _ (part v 3 <<< 24), hsh 24 3 rfl (by decide)]
  rw [h3, ← steps_add 24 8]
  congr 1
  apply BitVec.eq_of_getLsbD_eq
  intro j hj
  simp only [BitVec.getLsbD_xor, BitVec.getLsbD_shiftLeft, part_bit]
  have hc : j < 8 ∨ (8 ≤ j ∧ j < 16) ∨ (16 ≤ j ∧ j < 24) ∨ 24 ≤ j := by omega
  rcases hc with h | ⟨h, h'⟩ | ⟨h, h'⟩ | h
  · simp [h, hj, show j < 16 by omega, show j < 24 by omega]
  · simp [hj, h', show ¬ j < 8 by omega, show j - 8 < 8 by omega, show j < 24 by omega, show 8 + (j - 8) = j by omega]
  · simp [hj, h', show ¬ j < 8 by omega, show ¬ j - 8 < 8 by omega, show ¬ j < 16 by omega, show j - 16 < 8 by omega, show 16 + (j - 16) = j by omega]
  · simp [hj, show ¬ j < 8 by omega, show ¬ j - 8 < 8 by omega, show ¬ j - 16 < 8 by omega, show ¬ j < 24 by omega, show j - 24 < 8 by omega, show 24 + (j - 24) = j by omega]

/-- the bytes of a text with up to 32 bits that follow one another changed -/
def burst (v : BitVec 32) (k m : Nat) : List UInt8 := List.replicate k 0 ++ [byteOf v 0, byteOf v 1, byteOf v 2, byteOf v 3] ++ List.replicate m 0
theorem burst_run (v : BitVec 32) (k m : Nat) (hv : v ≠ 0#32) : run 0#32 (burst v k m) ≠ 0#32 := by
  unfold burst
  rw [run_append, run_append, run_zeros m, run_zeros k, steps_zero, run4]
  intro h
  exact hv (steps_inj0 _ _ (steps_inj0 _ _ h))
theorem finds (l : List UInt8) (v : BitVec 32) (k m : Nat) (hl : l.length = k + 4 + m) (hv : v ≠ 0#32) (c : BitVec 32) :
    run c (List.zipWith (· ^^^ ·) l (burst v k m)) ≠ run c l := by
  have h := run_xor l (burst v k m) c 0#32 (by simp [burst, hl]; omega)
  rw [BitVec.xor_zero] at h
  rw [h]
  intro he
  apply burst_run v k m hv
  have := congrArg (fun x => run c l ^^^ x) he
  simpa [← BitVec.xor_assoc] using this
end Go.Proofs.YtcpmicinibfepaaGreatDoor.CrcP
