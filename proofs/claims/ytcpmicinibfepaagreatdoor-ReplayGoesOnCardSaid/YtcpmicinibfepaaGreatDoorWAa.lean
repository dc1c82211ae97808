/- Plain mathematics of the sums of 32 bits (no program in sight): steps are linear, none loses anything, the table of four bits, parts, and bursts of up to 32 bits · Plain mathematics of numbers as bytes, the greatest first (no program in sight) · Plain mathematics of frames (no program in sight): what is put is taken as it was, cut off it is too short, bursts are found, whole ones are told · Plain mathematics of frames one behind the other: how many bytes they have, and what stands behind them · Plain mathematics of frames one behind the other, cut off anywhere: the whole ones are told · Plain mathematics of logs that are read (no program in sight): the frames that bytes begin with that have the numbers that are wanted; the segments that are read · Plain mathematics of numbers of as few bytes as needed (no program in sight): what is put is taken as it was; what is taken was put so; order of lengths · Plain mathematics of parts that are written and read one behind the other (no program in sight) · Plain mathematics of records as bytes (no program in sight): what is put is taken as it was, what is taken was put so, no two records have the same bytes; lots. -/
namespace Go.Proofs.YtcpmicinibfepaaGreatDoor.CrcP

def poly : BitVec 32 := 0x82f63b78#32
def step (c : BitVec 32) : BitVec 32 := (c >>> 1) ^^^ (if c.getLsbD 0 then poly else 0#32)
def steps : Nat → BitVec 32 → BitVec 32
  | 0, c => c
  | n + 1, c => steps n (step c)
def byte (c : BitVec 32) (b : UInt8) : BitVec 32 := steps 8 (c ^^^ BitVec.ofNat 32 b.toNat)
def run (c : BitVec 32) (l : List UInt8) : BitVec 32 := l.foldl byte c
def all : BitVec 32 := 0xffffffff#32
def more (sum : BitVec 32) (l : List UInt8) : BitVec 32 := run (sum ^^^ all) l ^^^ all
def sum (l : List UInt8) : BitVec 32 := more 0#32 l

theorem xor_swap (a b c d : BitVec 32) : (a ^^^ b) ^^^ (c ^^^ d) = (a ^^^ c) ^^^ (b ^^^ d) := by
  ext i; simp only [BitVec.getElem_xor]; cases a[i] <;> cases b[i] <;> cases c[i] <;> cases d[i] <;> rfl

theorem step_xor (a b : BitVec 32) : step (a ^^^ b) = step a ^^^ step b := by
  unfold step
  rw [BitVec.ushiftRight_xor_distrib, BitVec.getLsbD_xor]
  cases a.getLsbD 0 <;> cases b.getLsbD 0 <;> simp only [Bool.xor_false, Bool.xor_true, Bool.not_true, Bool.not_false, if_true, Bool.false_eq_true, if_false]
  · rw [xor_swap]; simp
  · rw [xor_swap]; simp
  · rw [xor_swap]; simp
  · rw [xor_swap]; simp

theorem step_zero : step 0#32 = 0#32 := by decide

theorem step_inj0 (c : BitVec 32) (h : step c = 0#32) : c = 0#32 := by
  have hb : c.getLsbD 0 = false := by
    cases hc : c.getLsbD 0 with
    | false => rfl
    | true =>
      exfalso
      have h31 := congrArg (fun x => x.getLsbD 31) h
      unfold step at h31
      rw [hc] at h31
      simp [poly] at h31
  unfold step at h
  rw [hb] at h
  simp only [Bool.false_eq_true, if_false, BitVec.xor_zero] at h
  apply BitVec.eq_of_getLsbD_eq
  intro i hi
  rcases i with _ | i
  · simpa using hb
  · have := congrArg (fun x => x.getLsbD i) h
    simp only [BitVec.getLsbD_ushiftRight] at this
    rw [Nat.add_comm i 1]; simpa using this

theorem steps_xor (n : Nat) : ∀ a b : BitVec 32, steps n (a ^^^ b) = steps n a ^^^ steps n b := by
  induction n with
  | zero => intro a b; rfl
  | succ n ih => intro a b; simp only [steps, step_xor, ih]
theorem steps_zero (n : Nat) : steps n 0#32 = 0#32 := by
  induction n with
  | zero => rfl
  | succ n ih => simp only [steps, step_zero, ih]
theorem steps_inj0 (n : Nat) : ∀ c : BitVec 32, steps n c = 0#32 → c = 0#32 := by
  induction n with
  | zero => intro c h; exact h
  | succ n ih => intro c h; exact step_inj0 _ (ih _ h)
theorem steps_add (m n : Nat) : ∀ c : BitVec 32, steps (m + n) c = steps n (steps m c) := by
  induction m with
  | zero => intro c; simp [steps]
  | succ m ih => intro c; rw [Nat.succ_add]; simp only [steps, ih]
theorem steps_succ' (n : Nat) (c : BitVec 32) : steps (n + 1) c = step (steps n c) := by rw [steps_add n 1]; rfl

/-- a number without its lowest bits is but moved down -/
theorem step_even (c : BitVec 32) (h : c.getLsbD 0 = false) : step c = c >>> 1 := by
  unfold step; rw [h]; simp
theorem steps_low (n : Nat) : ∀ c : BitVec 32, (∀ i, i < n → c.getLsbD i = false) → steps n c = c >>> n := by
  induction n with
  | zero => intro c _; simp [steps]
  | succ n ih =>
    intro c h
    simp only [steps]
    rw [step_even c (h 0 (by omega)), ih]
    · rw [← BitVec.shiftRight_add, Nat.add_comm]
    · intro i hi
      rw [BitVec.getLsbD_ushiftRight]
      exact h (1 + i) (by omega)

/-- the table of four bits -/
theorem steps4 (c : BitVec 32) : steps 4 c = (c >>> 4) ^^^ steps 4 (c &&& 15#32) := by
  have h : c = (c &&& ~~~15#32) ^^^ (c &&& 15#32) := by
    ext i; simp only [BitVec.getElem_xor, BitVec.getElem_and, BitVec.getElem_not]; cases c[i] <;> cases (15#32)[i] <;> rfl
  have hl : steps 4 (c &&& ~~~15#32) = (c &&& ~~~15#32) >>> 4 := by
    apply steps_low
    intro i hi
    have hi' : i = 0 ∨ i = 1 ∨ i = 2 ∨ i = 3 := by omega
    rcases hi' with rfl | rfl | rfl | rfl <;> simp
  have hs : (c &&& ~~~15#32) >>> 4 = c >>> 4 := by
    apply BitVec.eq_of_getLsbD_eq
    intro i hi
    simp only [BitVec.getLsbD_ushiftRight, BitVec.getLsbD_and, BitVec.getLsbD_not]
    by_cases h4 : 4 + i < 32
    · have : (15#32).getLsbD (4 + i) = false := by
        rw [BitVec.getLsbD_ofNat]
        have ht : Nat.testBit 15 (4 + i) = false := by
          apply Nat.testBit_lt_two_pow
          calc 15 < 2 ^ 4 := by decide
            _ ≤ 2 ^ (4 + i) := Nat.pow_le_pow_right (by decide) (by omega)
        rw [ht]; simp
      rw [this]; simp [h4]
    · rw [BitVec.getLsbD_of_ge c _ (by omega)]; simp
  calc steps 4 c = steps 4 ((c &&& ~~~15#32) ^^^ (c &&& 15#32)) := by rw [← h]
    _ = steps 4 (c &&& ~~~15#32) ^^^ steps 4 (c &&& 15#32) := steps_xor _ _ _
    _ = _ := by rw [hl, hs]

theorem steps8 (c : BitVec 32) : steps 8 c = steps 4 (steps 4 c) := steps_add 4 4 c

theorem byte_xor (a b : BitVec 32) (x y : UInt8) : byte (a ^^^ b) (x ^^^ y) = byte a x ^^^ byte b y := by
  unfold byte
  rw [← steps_xor]
  congr 1
  have h : BitVec.ofNat 32 (x ^^^ y).toNat = BitVec.ofNat 32 x.toNat ^^^ BitVec.ofNat 32 y.toNat := by
    rw [UInt8.toNat_xor]
    apply BitVec.eq_of_toNat_eq
    simp only [BitVec.toNat_ofNat, BitVec.toNat_xor]
    have hx := x.toNat_lt; have hy := y.toNat_lt
    have hxy : x.toNat ^^^ y.toNat < 2 ^ 8 := Nat.xor_lt_two_pow (by omega) (by omega)
    rw [Nat.mod_eq_of_lt (by omega), Nat.mod_eq_of_lt (by omega), Nat.mod_eq_of_lt (by omega)]
  rw [h, xor_swap]

theorem run_append (c : BitVec 32) (a b : List UInt8) : run c (a ++ b) = run (run c a) b := by simp [run, List.foldl_append]
theorem run_nil (c : BitVec 32) : run c [] = c := rfl
theorem run_cons (c : BitVec 32) (x : UInt8) (l : List UInt8) : run c (x :: l) = run (byte c x) l := rfl

theorem more_append (s : BitVec 32) (a b : List UInt8) : more s (a ++ b) = more (more s a) b := by
  unfold more
  rw [run_append]
  congr 2
  rw [BitVec.xor_assoc, BitVec.xor_self, BitVec.xor_zero]
theorem more_nil (s : BitVec 32) : more s [] = s := by
  unfold more; rw [run_nil, BitVec.xor_assoc, BitVec.xor_self, BitVec.xor_zero]

theorem run_xor : ∀ (a e : List UInt8) (c d : BitVec 32), a.length = e.length →
    run (c ^^^ d) (List.zipWith (· ^^^ ·) a e) = run c a ^^^ run d e := by
  intro a
  induction a with
  | nil => intro e c d h; cases e with
    | nil => rfl
    | cons _ _ => simp at h
  | cons x a ih => intro e c d h; cases e with
    | nil => simp at h
    | cons y e =>
      simp only [List.zipWith_cons_cons, run_cons, byte_xor]
      exact ih e _ _ (by simpa using h)

theorem byte_zero (c : BitVec 32) : byte c 0 = steps 8 c := by unfold byte; simp
theorem run_zeros (m : Nat) : ∀ c : BitVec 32, run c (List.replicate m 0) = steps (8 * m) c := by
  induction m with
  | zero => intro c; rfl
  | succ m ih => intro c; rw [List.replicate_succ, run_cons, byte_zero, ih, Nat.mul_succ, Nat.add_comm, steps_add]

/-- four bytes of a number of 32 bits -/
def byteOf (v : BitVec 32) (i : Nat) : UInt8 := UInt8.ofNat ((v.toNat >>> (8 * i)) % 256)
def part (v : BitVec 32) (i : Nat) : BitVec 32 := BitVec.ofNat 32 (byteOf v i).toNat
theorem part_bit (v : BitVec 32) (i j : Nat) : (part v i).getLsbD j = (decide (j < 8) && v.getLsbD (8 * i + j)) := by
  unfold part byteOf
  have h : (UInt8.ofNat ((v.toNat >>> (8 * i)) % 256)).toNat = (v.toNat >>> (8 * i)) % 2 ^ 8 := by
    rw [UInt8.toNat_ofNat_of_lt' (by show _ < 256; omega)]
  rw [h, BitVec.getLsbD_ofNat, Nat.testBit_mod_two_pow, Nat.testBit_shiftRight, ← BitVec.getLsbD]
  by_cases hj : j < 8
  · simp [hj, show j < 32 by omega]
  · simp [hj]
theorem run4 (v : BitVec 32) : run 0#32 [byteOf v 0, byteOf v 1, byteOf v 2, byteOf v 3] = steps 32 v := by
  have hb : ∀ c i, byte c (byteOf v i) = steps 8 (c ^^^ part v i) := fun _ _ => rfl
  simp only [run_cons, run_nil, hb, BitVec.zero_xor]
  have hsh : ∀ n i, n = 8 * i → i < 4 → steps n (part v i <<< n) = part v i := by
    intro n i hn hi
    rw [steps_low]
    · apply BitVec.eq_of_getLsbD_eq
      intro j hj
      rw [BitVec.getLsbD_ushiftRight, BitVec.getLsbD_shiftLeft, part_bit, part_bit]
      by_cases hj8 : j < 8
      · simp [hj8, show n + j < 32 by omega, show ¬ (n + j < n) by omega]
      · simp [hj8]
    · intro j hj
      rw [BitVec.getLsbD_shiftLeft]
      simp [hj]
  have h1 : steps 8 (part v 0) ^^^ part v 1 = steps 8 (part v 0 ^^^ part v 1 <<< 8) := by rw [steps_xor, hsh 8 1 rfl (by decide)]
  have h2 : steps 8 (steps 8 (part v 0) ^^^ part v 1) ^^^ part v 2 = steps 16 (part v 0 ^^^ part v 1 <<< 8 ^^^ part v 2 <<< 16) := by
    rw [h1, ← steps_add 8 8, steps_xor 16 _ (part v 2 <<< 16), hsh 16 2 rfl (by decide)]
  have h3 : steps 8 (steps 8 (steps 8 (part v 0) ^^^ part v 1) ^^^ part v 2) ^^^ part v 3 = steps 24 (part v 0 ^^^ part v 1 <<< 8 ^^^ part v 2 <<< 16 ^^^ part v 3 <<< 24) := by
    rw [h2, ← steps_add 16 8, steps_xor 24 _ (part v 3 <<< 24), hsh 24 3 rfl (by decide)]
  rw [h3, ← steps_add 24 8]
  congr 1
  apply BitVec.eq_of_getLsbD_eq
  intro j hj
  simp only [BitVec.getLsbD_xor, BitVec.getLsbD_shiftLeft, part_bit]
  have hc : j < 8 ∨ (8 ≤ j ∧ j < 16) ∨ (16 ≤ j ∧ j < 24) ∨ 24 ≤ j := by omega
  rcases hc with h | ⟨h, h'⟩ | ⟨h, h'⟩ | h
  · simp [h, hj, show j < 16 by omega, show j < 24 by omega]
  · simp [hj, h', show ¬ j < 8 by omega, show j - 8 < 8 by omega, show j < 24 by omega, show 8 + (j - 8) = j by omega]
  · simp [hj, h', show ¬ j < 8 by omega, show ¬ j - 8 < 8 by omega, show ¬ j < 16 by omega, show j - 16 < 8 by omega, show 16 + (j - 16) = j by omega]
  · simp [hj, show ¬ j < 8 by omega, show ¬ j - 8 < 8 by omega, show ¬ j - 16 < 8 by omega, show ¬ j < 24 by omega, show j - 24 < 8 by omega, show 24 + (j - 24) = j by omega]

/-- the bytes of a text with up to 32 bits that follow one another changed -/
def burst (v : BitVec 32) (k m : Nat) : List UInt8 := List.replicate k 0 ++ [byteOf v 0, byteOf v 1, byteOf v 2, byteOf v 3] ++ List.replicate m 0
theorem burst_run (v : BitVec 32) (k m : Nat) (hv : v ≠ 0#32) : run 0#32 (burst v k m) ≠ 0#32 := by
  unfold burst
  rw [run_append, run_append, run_zeros m, run_zeros k, steps_zero, run4]
  intro h
  exact hv (steps_inj0 _ _ (steps_inj0 _ _ h))
theorem finds (l : List UInt8) (v : BitVec 32) (k m : Nat) (hl : l.length = k + 4 + m) (hv : v ≠ 0#32) (c : BitVec 32) :
    run c (List.zipWith (· ^^^ ·) l (burst v k m)) ≠ run c l := by
  have h := run_xor l (burst v k m) c 0#32 (by simp [burst, hl]; omega)
  rw [BitVec.xor_zero] at h
  rw [h]
  intro he
  apply burst_run v k m hv
  have := congrArg (fun x => run c l ^^^ x) he
  simpa [← BitVec.xor_assoc] using this
end Go.Proofs.YtcpmicinibfepaaGreatDoor.CrcP

namespace Go.Proofs.YtcpmicinibfepaaGreatDoor.BigP

/-- the lowest n bytes of a number, the greatest first -/
def big : Nat → Nat → List UInt8
  | 0, _ => []
  | n + 1, u => big n (u / 256) ++ [UInt8.ofNat (u % 256)]
/-- the number of bytes, the greatest first, from a number on -/
def num (acc : Nat) (l : List UInt8) : Nat := l.foldl (fun u c => u * 256 + c.toNat) acc

theorem big_length (n : Nat) : ∀ u, (big n u).length = n := by
  induction n with
  | zero => intro u; rfl
  | succ n ih => intro u; simp [big, ih]
theorem num_append (acc : Nat) (a b : List UInt8) : num acc (a ++ b) = num (num acc a) b := by simp [num, List.foldl_append]
theorem num_acc (l : List UInt8) : ∀ acc, num acc l = acc * 256 ^ l.length + num 0 l := by
  induction l with
  | nil => intro acc; simp [num]
  | cons c r ih =>
    intro acc
    show num (acc * 256 + c.toNat) r = acc * 256 ^ (r.length + 1) + num (0 * 256 + c.toNat) r
    rw [ih (acc * 256 + c.toNat), ih (0 * 256 + c.toNat), Nat.pow_succ, Nat.add_mul, Nat.add_mul, Nat.mul_comm (256 ^ r.length) 256, ← Nat.mul_assoc]
    omega
theorem num_lt (l : List UInt8) : num 0 l < 256 ^ l.length := by
  induction l with
  | nil => simp [num]
  | cons c r ih =>
    have e : num 0 (c :: r) = num (0 * 256 + c.toNat) r := rfl
    rw [e, num_acc, List.length_cons, Nat.pow_succ]
    have := c.toNat_lt
    have h : (0 * 256 + c.toNat + 1) * 256 ^ r.length ≤ 256 * 256 ^ r.length := Nat.mul_le_mul_right _ (by omega)
    rw [Nat.mul_comm (256 ^ r.length) 256]
    rw [Nat.add_mul] at h
    omega
theorem num_big (n : Nat) : ∀ u acc, num acc (big n u) = acc * 256 ^ n + u % 256 ^ n := by
  induction n with
  | zero => intro u acc; simp [big, num, Nat.mod_one]
  | succ n ih =>
    intro u acc
    rw [big, num_append, ih]
    show (acc * 256 ^ n + u / 256 % 256 ^ n) * 256 + (UInt8.ofNat (u % 256)).toNat = _
    rw [UInt8.toNat_ofNat_of_lt' (show u % 256 < 256 by omega), Nat.pow_succ, Nat.mul_comm (256 ^ n) 256, Nat.mod_mul, Nat.add_mul, Nat.mul_comm 256 (256 ^ n), Nat.mul_assoc]
    rw [Nat.mul_comm 256 (u / 256 % 256 ^ n)]
    omega
theorem num_big_lt (n u : Nat) (h : u < 256 ^ n) : num 0 (big n u) = u := by rw [num_big, Nat.mod_eq_of_lt h]; omega
theorem big_num (l : List UInt8) : big l.length (num 0 l) = l := by
  suffices h : ∀ n (l : List UInt8), l.length = n → big n (num 0 l) = l from h _ l rfl
  intro n
  induction n with
  | zero => intro l h; have := List.eq_nil_of_length_eq_zero h; subst this; rfl
  | succ n ih =>
    intro l h
    have hne : l ≠ [] := by intro e; subst e; simp at h
    have hl := List.dropLast_concat_getLast hne
    generalize l.dropLast = a at hl
    generalize l.getLast hne = c at hl
    subst hl
    have ha : a.length = n := by simpa using h
    have e : num 0 (a ++ [c]) = num 0 a * 256 + c.toNat := by rw [num_append]; rfl
    have hc := c.toNat_lt
    rw [e, big, show (num 0 a * 256 + c.toNat) / 256 = num 0 a by omega, show (num 0 a * 256 + c.toNat) % 256 = c.toNat by omega, ih a ha]
    rw [show UInt8.ofNat c.toNat = c from UInt8.ofNat_toNat]
theorem big_num' (n : Nat) (l : List UInt8) (h : l.length = n) : big n (num 0 l) = l := by subst h; exact big_num l
theorem big_inj (n u v : Nat) (hu : u < 256 ^ n) (hv : v < 256 ^ n) (h : big n u = big n v) : u = v := by
  rw [← num_big_lt n u hu, ← num_big_lt n v hv, h]
/-- byte by byte -/
theorem big_get (n : Nat) : ∀ u k, k < n → (big n u)[n - 1 - k]? = some (UInt8.ofNat (u / 256 ^ k % 256)) := by
  induction n with
  | zero => intro u k h; omega
  | succ n ih =>
    intro u k h
    rw [big]
    rcases Nat.eq_zero_or_pos k with h0 | h0
    · subst h0
      rw [List.getElem?_append_right (by rw [big_length]; omega), big_length]
      simp
    · rw [List.getElem?_append_left (by rw [big_length]; omega)]
      have := ih (u / 256) (k - 1) (by omega)
      rw [show n - 1 - (k - 1) = n + 1 - 1 - k by omega] at this
      rw [this, Nat.div_div_eq_div_mul, show 256 * 256 ^ (k - 1) = 256 ^ k by rw [Nat.mul_comm, ← Nat.pow_succ]; congr 1; omega]
theorem big_split (m n u : Nat) : big (m + n) u = big m (u / 256 ^ n) ++ big n u := by
  induction n generalizing u with
  | zero => simp [big]
  | succ n ih =>
    rw [← Nat.add_assoc, big, ih, big, List.append_assoc, Nat.div_div_eq_div_mul, Nat.pow_succ, Nat.mul_comm (256 ^ n) 256]
theorem big_cons (n u : Nat) : big (n + 1) u = UInt8.ofNat (u / 256 ^ n % 256) :: big n u := by
  rw [Nat.add_comm n 1, big_split 1 n]; rfl
theorem big_mod (n u : Nat) : big n (u % 256 ^ n) = big n u := by
  induction n generalizing u with
  | zero => rfl
  | succ n ih =>
    rw [big, big, Nat.pow_succ, Nat.mul_comm, Nat.mod_mul_right_div_self, Nat.mod_mul_right_mod, ih]

/-- bytes stand in the order of their numbers -/
theorem big_less (less : List UInt8 → List UInt8 → Bool)
    (hc : ∀ x y a b, less (x :: a) (y :: b) = (decide (x.toNat < y.toNat) || (x == y && less a b))) (n : Nat) :
    ∀ u v s t, u < 256 ^ n → v < 256 ^ n → less (big n u ++ s) (big n v ++ t) = (decide (u < v) || (decide (u = v) && less s t)) := by
  have same : ∀ a s t, less (a ++ s) (a ++ t) = less s t := by
    intro a; induction a with
    | nil => intro s t; rfl
    | cons x a ih => intro s t; rw [List.cons_append, List.cons_append, hc, ih]; simp
  induction n with
  | zero => intro u v s t hu hv; simp at hu hv; subst hu hv; simp [big]
  | succ n ih =>
    intro u v s t hu hv
    rw [big, big, List.append_assoc, List.append_assoc, ih _ _ _ _ (by rw [Nat.pow_succ] at hu; exact Nat.div_lt_of_lt_mul (by omega)) (by rw [Nat.pow_succ] at hv; exact Nat.div_lt_of_lt_mul (by omega))]
    simp only [List.cons_append, List.nil_append, hc]
    rw [UInt8.toNat_ofNat_of_lt' (show u % 256 < 256 by omega), UInt8.toNat_ofNat_of_lt' (show v % 256 < 256 by omega)]
    by_cases h1 : u / 256 < v / 256
    · have : u < v := by omega
      simp [h1, this]
    · by_cases h2 : u / 256 = v / 256
      · by_cases h3 : u % 256 = v % 256
        · have : u = v := by omega
          subst this; simp
        · have hne : (UInt8.ofNat (u % 256) == UInt8.ofNat (v % 256)) = false := by
            rw [beq_eq_false_iff_ne]; intro he
            have := congrArg UInt8.toNat he
            rw [UInt8.toNat_ofNat_of_lt' (show u % 256 < 256 by omega), UInt8.toNat_ofNat_of_lt' (show v % 256 < 256 by omega)] at this
            exact h3 this
          have h4 : (u % 256 < v % 256) = (u < v) := by apply propext; omega
          have h5 : ¬ u = v := by rintro rfl; exact h3 rfl
          simp [h2, hne, h4, h5]
      · have h5 : ¬ u = v := by rintro rfl; exact h2 rfl
        have h6 : ¬ u < v := by omega
        simp [h1, h2, h5, h6]
end Go.Proofs.YtcpmicinibfepaaGreatDoor.BigP

namespace Go.Proofs.YtcpmicinibfepaaGreatDoor.FrameP
open BigP


abbrev Bs := List UInt8
/-- a frame: its number, its data -/
abbrev Fr := Int × Bs
def crc (l : Bs) : Nat := (CrcP.sum l).toNat
/-- a number of 64 bits as one with a sign -/
def sgn (u : Nat) : Int := if u < 9223372036854775808 then u else (u : Int) - 18446744073709551616
def body (seq : Nat) (data : Bs) : Bs := big 8 seq ++ data
def enc (seq : Nat) (data : Bs) : Bs := big 4 data.length ++ (big 4 (crc (big 4 data.length ++ body seq data)) ++ body seq data)
/-- a frame's bytes, the error (1: argument, 12: too big) -/
def put (seq : Int) (data : Bs) : Bs × Int :=
  if seq < 1 then ([], 1) else if 65536 < data.length then ([], 12) else (enc seq.toNat data, 0)
/-- the frame that bytes begin with, how many bytes it has, the error -/
def take (s : Bs) : Fr × Nat × Int :=
  if s.length < 16 then ((0, []), 0, 3)
  else if 65536 < num 0 (s.take 4) then ((0, []), 0, 12)
  else if s.length < 16 + num 0 (s.take 4) then ((0, []), 0, 3)
  else if crc (s.take 4 ++ (s.drop 8).take (8 + num 0 (s.take 4))) ≠ num 0 ((s.drop 4).take 4) then ((0, []), 0, 4)
  else if sgn (num 0 ((s.drop 8).take 8)) < 1 then ((0, []), 0, 2)
  else ((sgn (num 0 ((s.drop 8).take 8)), (s.drop 16).take (num 0 (s.take 4))), 16 + num 0 (s.take 4), 0)

theorem crc_lt (l : Bs) : crc l < 4294967296 := (CrcP.sum l).isLt
theorem body_length (q : Nat) (d : Bs) : (body q d).length = 8 + d.length := by simp [body, big_length]
theorem enc_length (q : Nat) (d : Bs) : (enc q d).length = 16 + d.length := by simp [enc, big_length, body_length]; omega
theorem sgn_of (q : Nat) (h : q < 9223372036854775808) : sgn q = q := by simp [sgn, h]

/-- what of a text the taking looks at, where the text is parted -/
theorem parts (a c b d r : Bs) (ha : a.length = 4) (hc : c.length = 4) (hb : b.length = 8) :
    (a ++ (c ++ (b ++ d)) ++ r).take 4 = a ∧ ((a ++ (c ++ (b ++ d)) ++ r).drop 4).take 4 = c ∧ ((a ++ (c ++ (b ++ d)) ++ r).drop 8).take 8 = b ∧
    ((a ++ (c ++ (b ++ d)) ++ r).drop 8).take (8 + d.length) = b ++ d ∧ ((a ++ (c ++ (b ++ d)) ++ r).drop 16).take d.length = d := by
  have e1 : (a ++ (c ++ (b ++ d)) ++ r) = a ++ (c ++ (b ++ (d ++ r))) := by simp
  rw [e1]
  have d4 : (a ++ (c ++ (b ++ (d ++ r)))).drop 4 = c ++ (b ++ (d ++ r)) := by rw [← ha]; simp
  have d8 : (a ++ (c ++ (b ++ (d ++ r)))).drop 8 = b ++ (d ++ r) := by
    rw [show 8 = 4 + 4 from rfl, ← List.drop_drop, d4, ← hc]; simp
  have d16 : (a ++ (c ++ (b ++ (d ++ r)))).drop 16 = d ++ r := by
    rw [show 16 = 8 + 8 from rfl, ← List.drop_drop, d8]
    conv => lhs; arg 1; rw [← hb]
    simp
  refine ⟨?_, ?_, ?_, ?_, ?_⟩
  · rw [← ha]; simp
  · rw [d4, ← hc]; simp
  · rw [d8]; conv => lhs; arg 1; rw [← hb]
    simp
  · rw [d8, ← List.append_assoc, ← hb, ← List.length_append, List.take_left]
  · rw [d16]; simp

/-- any four parts: what is taken -/
theorem take_parts (a c b d r : Bs) (ha : a.length = 4) (hc : c.length = 4) (hb : b.length = 8) (hn : num 0 a = d.length) (hd : d.length ≤ 65536) :
    take (a ++ (c ++ (b ++ d)) ++ r) = if crc (a ++ (b ++ d)) ≠ num 0 c then ((0, []), 0, 4) else if sgn (num 0 b) < 1 then ((0, []), 0, 2) else ((sgn (num 0 b), d), 16 + d.length, 0) := by
  obtain ⟨p1, p2, p3, p4, p5⟩ := parts a c b d r ha hc hb
  unfold take
  rw [p1, p2, p3, hn, p4, p5]
  have hl : (a ++ (c ++ (b ++ d)) ++ r).length = 16 + d.length + r.length := by simp [ha, hc, hb]; omega
  rw [hl, if_neg (by omega), if_neg (by omega), if_neg (by omega)]

theorem take_enc (q : Nat) (d r : Bs) (hq1 : 1 ≤ q) (hq : q < 9223372036854775808) (hd : d.length ≤ 65536) : take (enc q d ++ r) = (((q : Int), d), 16 + d.length, 0) := by
  unfold enc body
  have hnum := num_big_lt 4 d.length (by omega)
  rw [take_parts _ _ _ _ _ (big_length 4 _) (big_length 4 _) (big_length 8 _) hnum hd, num_big_lt 4 _ (by have := crc_lt (big 4 d.length ++ (big 8 q ++ d)); omega), num_big_lt 8 q (by omega), sgn_of q hq]
  rw [if_neg (by simp), if_neg (by omega)]

/-- cut off anywhere it is too short -/
theorem take_cut (q : Nat) (d : Bs) (hd : d.length ≤ 65536) (k : Nat) (hk : k < 16 + d.length) : take ((enc q d).take k) = ((0, []), 0, 3) := by
  unfold take
  have hl : ((enc q d).take k).length = k := by rw [List.length_take, enc_length]; omega
  rw [hl]
  by_cases h : k < 16
  · rw [if_pos h]
  · rw [if_neg h]
    have h4 : ((enc q d).take k).take 4 = big 4 d.length := by
      rw [List.take_take, Nat.min_eq_left (by omega)]
      unfold enc
      have : (big 4 d.length).length = 4 := big_length 4 _
      conv => lhs; arg 1; rw [← this]
      simp
    rw [h4, num_big_lt 4 d.length (by omega), if_neg (by omega), if_pos hk]

theorem take_ok (s : Bs) (f : Fr) (n : Nat) (h : take s = (f, n, 0)) : n = 16 + f.2.length ∧ n ≤ s.length ∧ 1 ≤ f.1 ∧ f.1 < 9223372036854775808 ∧ f.2.length ≤ 65536 ∧ s.take n = enc f.1.toNat f.2 := by
  unfold take at h
  split at h
  · simp at h
  rename_i h1
  split at h
  · simp at h
  rename_i h2
  split at h
  · simp at h
  rename_i h3
  split at h
  · simp at h
  rename_i h4
  split at h
  · simp at h
  rename_i h5
  simp only [Prod.mk.injEq] at h
  obtain ⟨rfl, rfl, _⟩ := h
  have l1 : (s.take 4).length = 4 := by rw [List.length_take]; omega
  have l2 : ((s.drop 4).take 4).length = 4 := by rw [List.length_take, List.length_drop]; omega
  have l3 : ((s.drop 8).take 8).length = 8 := by rw [List.length_take, List.length_drop]; omega
  have l4 : ((s.drop 16).take (num 0 (s.take 4))).length = num 0 (s.take 4) := by rw [List.length_take, List.length_drop]; omega
  have hnl := num_lt ((s.drop 8).take 8)
  rw [l3] at hnl
  have h5' : 1 ≤ sgn (num 0 ((s.drop 8).take 8)) := by omega
  have hu : num 0 ((s.drop 8).take 8) < 9223372036854775808 := by
    rcases Nat.lt_or_ge (num 0 ((s.drop 8).take 8)) 9223372036854775808 with h | h
    · exact h
    · simp only [sgn, if_neg (Nat.not_lt.2 h)] at h5'; omega
  have hs := sgn_of _ hu
  rw [hs] at h5' ⊢
  simp only [l4]
  refine ⟨trivial, by omega, by omega, by omega, by omega, ?_⟩
  unfold enc body
  simp only [Int.toNat_natCast, l4]
  rw [big_num' 4 _ l1, big_num' 8 _ l3]
  have h4' : crc (s.take 4 ++ ((s.drop 8).take 8 ++ (s.drop 16).take (num 0 (s.take 4)))) = num 0 ((s.drop 4).take 4) := by
    have e : (s.drop 8).take (8 + num 0 (s.take 4)) = (s.drop 8).take 8 ++ (s.drop 16).take (num 0 (s.take 4)) := by
      rw [List.take_add, List.drop_drop]
    rw [e] at h4
    simpa using h4
  rw [h4', big_num' 4 _ l2]
  rw [show 16 + num 0 (s.take 4) = 4 + (4 + (8 + num 0 (s.take 4))) by omega, List.take_add, List.take_add, List.take_add, List.drop_drop, List.drop_drop]

/-- a frame whose number and data are changed by a burst of up to 32 bits -/
theorem take_burst (q : Nat) (d : Bs) (hd : d.length ≤ 65536) (v : BitVec 32) (k m : Nat) (hk : k + 4 + m = 8 + d.length) (hv : v ≠ 0#32) :
    take (big 4 d.length ++ (big 4 (crc (big 4 d.length ++ body q d)) ++ List.zipWith (· ^^^ ·) (body q d) (CrcP.burst v k m))) = ((0, []), 0, 4) := by
  have hz : (List.zipWith (· ^^^ ·) (body q d) (CrcP.burst v k m)).length = 8 + d.length := by
    rw [List.length_zipWith, body_length]; simp [CrcP.burst]; omega
  generalize hx : List.zipWith (· ^^^ ·) (body q d) (CrcP.burst v k m) = x at *
  have hx2 : x = x.take 8 ++ x.drop 8 := (List.take_append_drop 8 x).symm
  have lb : (x.take 8).length = 8 := by rw [List.length_take]; omega
  have ld : (x.drop 8).length = d.length := by rw [List.length_drop]; omega
  have hnum := num_big_lt 4 d.length (by omega)
  have := take_parts (big 4 d.length) (big 4 (crc (big 4 d.length ++ body q d))) (x.take 8) (x.drop 8) [] (big_length 4 _) (big_length 4 _) lb (by rw [hnum, ld]) (by omega)
  rw [List.append_nil, ← hx2] at this
  rw [this, if_pos]
  rw [num_big_lt 4 _ (by have := crc_lt (big 4 d.length ++ body q d); omega)]
  intro he
  have he2 : CrcP.sum (big 4 d.length ++ x) = CrcP.sum (big 4 d.length ++ body q d) := BitVec.eq_of_toNat_eq he
  unfold CrcP.sum at he2
  rw [CrcP.more_append, CrcP.more_append] at he2
  generalize CrcP.more 0#32 (big 4 d.length) = c at he2
  unfold CrcP.more at he2
  have he3 := congrArg (fun y => y ^^^ CrcP.all) he2
  simp only [BitVec.xor_assoc, BitVec.xor_self, BitVec.xor_zero] at he3
  rw [← hx] at he3
  exact CrcP.finds (body q d) v k m (by rw [body_length]; omega) hv _ he3

/-- the frames that bytes begin with, how many bytes they have, why no further one comes -/
def allF : Nat → Bs → List Fr × Nat × Int
  | 0, _ => ([], 0, 0)
  | f + 1, s =>
    if s = [] then ([], 0, 0)
    else match take s with
      | (x, n, e) => if e ≠ 0 then ([], 0, e) else match allF f (s.drop n) with
        | (l, m, e') => (x :: l, n + m, e')
def all (s : Bs) : List Fr × Nat × Int := allF s.length s

theorem allF_fuel (f : Nat) : ∀ (g : Nat) (s : Bs), s.length ≤ f → s.length ≤ g → allF f s = allF g s := by
  induction f with
  | zero => intro g s h _; have hs := List.eq_nil_of_length_eq_zero (Nat.le_zero.1 h); subst hs; cases g <;> simp [allF]
  | succ f ih =>
    intro g s h hg
    cases g with
    | zero => have hs := List.eq_nil_of_length_eq_zero (Nat.le_zero.1 hg); subst hs; simp [allF]
    | succ g =>
      simp only [allF]
      split
      · rfl
      · rcases ht : take s with ⟨x, n, e⟩
        simp only
        split
        · rfl
        · rename_i he
          have he0 : e = 0 := by simpa using he
          subst he0
          obtain ⟨h1, h2, _⟩ := take_ok s x n ht
          rw [ih g (s.drop n) (by rw [List.length_drop]; omega) (by rw [List.length_drop]; omega)]
theorem all_nil : all [] = ([], 0, 0) := rfl
theorem all_cons (s : Bs) (hs : s ≠ []) : all s = match take s with
    | (x, n, e) => if e ≠ 0 then ([], 0, e) else match all (s.drop n) with
      | (l, m, e') => (x :: l, n + m, e') := by
  have hl : 0 < s.length := List.length_pos_iff.2 hs
  unfold all
  obtain ⟨g, hg⟩ : ∃ g, s.length = g + 1 := ⟨s.length - 1, by omega⟩
  conv => lhs; rw [hg]
  simp only [allF, if_neg hs]
  rcases ht : take s with ⟨x, n, e⟩
  simp only
  split
  · rfl
  · rename_i he
    have he0 : e = 0 := by simpa using he
    subst he0
    obtain ⟨h1, h2, _⟩ := take_ok s x n ht
    rw [allF_fuel g (s.drop n).length (s.drop n) (by rw [List.length_drop]; omega) (Nat.le_refl _)]
end Go.Proofs.YtcpmicinibfepaaGreatDoor.FrameP

namespace Go.Proofs.YtcpmicinibfepaaGreatDoor.FrameP

theorem all_bad (s : Bs) (x : Fr) (m : Nat) (er : Int) (hs : s ≠ []) (ht : take s = (x, m, er)) (he : er ≠ 0) : all s = ([], 0, er) := by
  rw [all_cons s hs, ht]; simp only [if_pos he]
theorem all_ok (s : Bs) (x : Fr) (m : Nat) (hs : s ≠ []) (ht : take s = (x, m, 0)) : all s = (x :: (all (s.drop m)).1, m + (all (s.drop m)).2.1, (all (s.drop m)).2.2) := by
  rw [all_cons s hs, ht]
  simp
/-- how many bytes frames have -/
def bytes (l : List Fr) : Nat := (l.map fun f => 16 + f.2.length).sum
theorem bytes_cons (f : Fr) (l : List Fr) : bytes (f :: l) = (16 + f.2.length) + bytes l := by simp [bytes]
theorem bytes_snoc (l : List Fr) (f : Fr) : bytes (l ++ [f]) = bytes l + (16 + f.2.length) := by simp [bytes]
theorem take_len (s : Bs) (x : Fr) (m : Nat) (ht : take s = (x, m, 0)) : m = 16 + x.2.length ∧ m ≤ s.length := ⟨(take_ok s x m ht).1, (take_ok s x m ht).2.1⟩
theorem all_facts (n : Nat) : ∀ s : Bs, s.length ≤ n → bytes (all s).1 = (all s).2.1 ∧ (all s).2.1 ≤ s.length ∧ 16 * (all s).1.length ≤ (all s).2.1 ∧
    ((all s).2.1 = s.length → (all s).2.2 = 0) ∧ ((all s).2.1 < s.length → (take (s.drop (all s).2.1)).2.2 = (all s).2.2 ∧ (all s).2.2 ≠ 0) := by
  induction n with
  | zero =>
    intro s h
    obtain rfl := List.eq_nil_of_length_eq_zero (Nat.le_zero.1 h)
    rw [all_nil]; simp [bytes]
  | succ n ih =>
    intro s h
    by_cases hs : s = []
    · subst hs; rw [all_nil]; simp [bytes]
    · rcases ht : take s with ⟨x, m, er⟩
      by_cases he : er = 0
      · subst he
        obtain ⟨h1, h2⟩ := take_len s x m ht
        rw [all_ok s x m hs ht]
        obtain ⟨i1, i2, i3, i4, i5⟩ := ih (s.drop m) (by rw [List.length_drop]; omega)
        rw [List.length_drop] at i2 i4 i5
        simp only
        refine ⟨by rw [bytes_cons, i1, h1], by omega, by rw [List.length_cons]; omega, fun e => i4 (by omega), fun e => ?_⟩
        rw [← List.drop_drop]
        exact i5 (by omega)
      · rw [all_bad s x m er hs ht he]
        have hl : 0 < s.length := List.length_pos_iff.2 hs
        refine ⟨by simp [bytes], by simp, by simp, fun e => by simp at e; omega, fun _ => ?_⟩
        rw [List.drop_zero, ht]
        exact ⟨rfl, he⟩
end Go.Proofs.YtcpmicinibfepaaGreatDoor.FrameP

namespace Go.Proofs.YtcpmicinibfepaaGreatDoor.FrameP

/-- frames that may be -/
def Good (f : Fr) : Prop := 1 ≤ f.1 ∧ f.1 < 9223372036854775808 ∧ f.2.length ≤ 65536
/-- frames one behind the other -/
def encs (l : List Fr) : Bs := l.flatMap fun f => enc f.1.toNat f.2
theorem encs_length (l : List Fr) : (encs l).length = bytes l := by
  induction l with
  | nil => rfl
  | cons f r ih => rw [bytes_cons, ← ih, ← enc_length f.1.toNat f.2]; simp [encs]
theorem encs_snoc (l : List Fr) (f : Fr) : encs (l ++ [f]) = encs l ++ enc f.1.toNat f.2 := by simp [encs]
/-- how many are whole in so many bytes -/
def cnt : List Fr → Nat → Nat
  | [], _ => 0
  | f :: r, k => if 16 + f.2.length ≤ k then cnt r (k - (16 + f.2.length)) + 1 else 0
theorem cnt_le (l : List Fr) : ∀ k, cnt l k ≤ l.length := by
  induction l with
  | nil => intro k; exact Nat.le_refl _
  | cons f r ih => intro k; unfold cnt; split <;> simp; exact ih _
theorem cnt_in (l : List Fr) : ∀ k j, j ≤ cnt l k → bytes (l.take j) ≤ k := by
  induction l with
  | nil => intro k j _; simp [bytes]
  | cons f r ih =>
    intro k j h
    unfold cnt at h
    split at h
    · cases j with
      | zero => simp [bytes]
      | succ j =>
        have := ih (k - (16 + f.2.length)) j (by omega)
        rw [List.take_succ_cons, bytes_cons]; omega
    · obtain rfl : j = 0 := by omega
      simp [bytes]
theorem cnt_out (l : List Fr) : ∀ k, cnt l k < l.length → k < bytes (l.take (cnt l k + 1)) := by
  induction l with
  | nil => intro k h; simp at h
  | cons f r ih =>
    intro k h
    unfold cnt at h ⊢
    split at h
    · rename_i h1
      rw [if_pos h1, List.take_succ_cons, bytes_cons]
      have := ih (k - (16 + f.2.length)) (by simp at h; omega)
      omega
    · rename_i h1
      rw [if_neg h1, List.take_succ_cons, bytes_cons]; omega
theorem bytes_take_le (l : List Fr) : ∀ j, bytes (l.take j) ≤ bytes l := by
  induction l with
  | nil => intro j; simp [bytes]
  | cons f r ih =>
    intro j
    cases j with
    | zero => simp [bytes]
    | succ j => rw [List.take_succ_cons, bytes_cons, bytes_cons]; have := ih j; omega
theorem all_cut (l : List Fr) : (∀ f ∈ l, Good f) → ∀ k, k ≤ bytes l → all ((encs l).take k) = (l.take (cnt l k), bytes (l.take (cnt l k)), if bytes (l.take (cnt l k)) = k then 0 else 3) := by
  induction l with
  | nil =>
    intro _ k h
    obtain rfl : k = 0 := by simp [bytes] at h; exact h
    simp [encs, all_nil, cnt, bytes]
  | cons f r ih =>
    intro hg k hk
    obtain ⟨g1, g2, g3⟩ := hg f (List.mem_cons_self)
    have hz : ((f.1.toNat : Nat) : Int) = f.1 := by omega
    have he : encs (f :: r) = enc f.1.toNat f.2 ++ encs r := by simp [encs]
    have hl := enc_length f.1.toNat f.2
    rw [bytes_cons] at hk
    unfold cnt
    by_cases h1 : 16 + f.2.length ≤ k
    · rw [if_pos h1, he, List.take_append, hl, List.take_of_length_le (by omega)]
      have ht : take (enc f.1.toNat f.2 ++ (encs r).take (k - (16 + f.2.length))) = (f, 16 + f.2.length, 0) := by
        rw [take_enc _ _ _ (by omega) (by omega) g3, hz]
      rw [all_ok _ f (16 + f.2.length) (fun h => by have := congrArg List.length h; rw [List.length_append, hl] at this; simp at this) ht, List.drop_append_of_le_length (by omega), ← hl, List.drop_length, List.nil_append, hl,
        ih (fun x hx => hg x (List.mem_cons_of_mem _ hx)) (k - (16 + f.2.length)) (by omega), List.take_succ_cons, bytes_cons]
      simp only [Prod.mk.injEq, true_and]
      by_cases h2 : bytes (r.take (cnt r (k - (16 + f.2.length)))) = k - (16 + f.2.length)
      · rw [if_pos h2, if_pos (by omega)]
      · rw [if_neg h2, if_neg (by omega)]
    · rw [if_neg h1, he, List.take_append_of_le_length (by omega)]
      by_cases h0 : k = 0
      · subst h0
        simp [all_nil, bytes]
      · rw [all_bad _ (0, []) 0 3 (fun h => by have := congrArg List.length h; rw [List.length_take, hl] at this; simp at this; omega) (take_cut f.1.toNat f.2 g3 k (by omega)) (by decide)]
        simp [bytes]
        exact fun h => h0 h.symm
end Go.Proofs.YtcpmicinibfepaaGreatDoor.FrameP

namespace Go.Proofs.YtcpmicinibfepaaGreatDoor.FrameP

/-- as long as each has the number that is wanted -/
def runs : List Fr → Int → List Fr
  | [], _ => []
  | f :: r, n => if f.1 = n then f :: runs r (n + 1) else []
/-- the frames that bytes begin with, from a number on -/
def whole (s : Bs) (n : Int) : List Fr := runs (all s).1 n
theorem whole_nil (n : Int) : whole [] n = [] := rfl
theorem whole_bad {s : Bs} {x : Fr} {m : Nat} {er : Int} (hs : s ≠ []) (ht : take s = (x, m, er)) (he : er ≠ 0) (n : Int) : whole s n = [] := by
  unfold whole
  rw [all_bad s x m er hs ht he]
  rfl
theorem whole_ne {s : Bs} {x : Fr} {m : Nat} {n : Int} (hs : s ≠ []) (ht : take s = (x, m, 0)) (hx : x.1 ≠ n) : whole s n = [] := by
  unfold whole
  rw [all_ok s x m hs ht]
  simp only [runs]
  rw [if_neg hx]
theorem whole_ok {s : Bs} {x : Fr} {m : Nat} {n : Int} (hs : s ≠ []) (ht : take s = (x, m, 0)) (hx : x.1 = n) : whole s n = x :: whole (s.drop m) (n + 1) := by
  unfold whole
  rw [all_ok s x m hs ht]
  simp only [runs]
  rw [if_pos hx]
/-- their numbers follow one another -/
def Row (l : List Fr) (n : Int) : Prop := ∀ (i : Nat) f, l[i]? = some f → f.1 = n + i
theorem Row.runs {l : List Fr} : ∀ {n : Int}, Row l n → FrameP.runs l n = l := by
  induction l with
  | nil => intro n _; rfl
  | cons f r ih =>
    intro n h
    have h0 := h 0 f rfl
    simp only [FrameP.runs]
    rw [if_pos (by simpa using h0), ih fun i g hg => by have := h (i + 1) g (by simpa using hg); rw [this]; push_cast; omega]
theorem row_cons {x : Fr} {l : List Fr} {n : Int} (hx : x.1 = n) (h : Row l (n + 1)) : Row (x :: l) n := fun i f hf => by
  cases i with
  | zero => simp at hf; subst hf; simpa using hx
  | succ i => rw [h i f (by simpa using hf)]; push_cast; omega
/-- what is told of them -/
theorem whole_facts (k : Nat) : ∀ (s : Bs) (n : Int), s.length ≤ k → bytes (whole s n) ≤ s.length ∧ 16 * (whole s n).length ≤ bytes (whole s n) ∧ s.take (bytes (whole s n)) = encs (whole s n) ∧ Row (whole s n) n ∧ (∀ f ∈ whole s n, Good f) := by
  induction k with
  | zero =>
    intro s n h
    obtain rfl := List.eq_nil_of_length_eq_zero (Nat.le_zero.1 h)
    exact ⟨Nat.le_refl _, Nat.le_refl _, rfl, fun i f hf => by rw [whole_nil] at hf; simp at hf, fun f hf => by rw [whole_nil] at hf; simp at hf⟩
  | succ k ih =>
    intro s n h
    have hnil : whole s n = [] → bytes (whole s n) ≤ s.length ∧ 16 * (whole s n).length ≤ bytes (whole s n) ∧ s.take (bytes (whole s n)) = encs (whole s n) ∧ Row (whole s n) n ∧ (∀ f ∈ whole s n, Good f) := fun e => by
      rw [e]
      exact ⟨Nat.zero_le _, Nat.le_refl _, by simp [bytes, encs], fun i f hf => by simp at hf, fun f hf => by simp at hf⟩
    by_cases hs : s = []
    · subst hs; exact hnil rfl
    · obtain ⟨⟨x, m, er⟩, ht⟩ : ∃ y, take s = y := ⟨_, rfl⟩
      by_cases he : er = 0
      · subst he
        by_cases hx : x.1 = n
        · obtain ⟨t1, t2, t3, t4, t5, t6⟩ := take_ok s x m ht
          rw [whole_ok hs ht hx]
          have hd : (s.drop m).length = s.length - m := List.length_drop
          obtain ⟨i1, i2, i3, i4, i5⟩ := ih (s.drop m) (n + 1) (by omega)
          rw [hd] at i1
          refine ⟨by rw [bytes_cons]; omega, by rw [bytes_cons, List.length_cons]; omega, ?_, row_cons hx i4, fun f hf => ?_⟩
          · rw [bytes_cons, ← t1, show encs (x :: whole (s.drop m) (n + 1)) = enc x.1.toNat x.2 ++ encs (whole (s.drop m) (n + 1)) by simp [encs], ← i3, ← t6, List.take_add]
          · rcases List.mem_cons.1 hf with rfl | hf
            · exact ⟨t3, t4, t5⟩
            · exact i5 f hf
        · exact hnil (whole_ne hs ht hx)
      · exact hnil (whole_bad hs ht he n)
theorem cnt_all (l : List Fr) : cnt l (bytes l) = l.length := by
  rcases Nat.lt_or_ge (cnt l (bytes l)) l.length with h | h
  · have := cnt_out l (bytes l) h
    have := bytes_take_le l (cnt l (bytes l) + 1)
    omega
  · exact Nat.le_antisymm (cnt_le l _) h
theorem whole_encs {l : List Fr} {n : Int} (hr : Row l n) (hg : ∀ f ∈ l, Good f) : whole (encs l) n = l := by
  have := all_cut l hg (bytes l) (Nat.le_refl _)
  rw [List.take_of_length_le (by rw [encs_length]; exact Nat.le_refl _), cnt_all, List.take_length] at this
  unfold whole
  rw [this]
  exact hr.runs
/-- cut off behind them they are the same, and all -/
theorem whole_cut (s : Bs) (n : Int) : whole (s.take (bytes (whole s n))) n = whole s n := by
  obtain ⟨_, _, h3, h4, h5⟩ := whole_facts s.length s n (Nat.le_refl _)
  rw [h3]
  exact whole_encs h4 h5
/-! ## Segments: numbers that rise, with their bytes -/
abbrev Sgs := List (Int × Bs)
/-- how many are read, where a number is wanted -/
def cntS : Sgs → Int → Nat
  | [], _ => 0
  | x :: r, n => if x.1 ≠ n then 0 else if bytes (whole x.2 x.1) < x.2.length then 1 else cntS r (n + (whole x.2 x.1).length) + 1
/-- how many a scan reads -/
def rdS (l : Sgs) (after : Int) : Nat := match l with
  | [] => 0
  | x :: r => if after < x.1 - 1 then 0 else cntS (x :: r) x.1
/-- the frames of some -/
def frS (l : Sgs) : List Fr := l.flatMap fun x => whole x.2 x.1
theorem frS_snoc (l : Sgs) (x : Int × Bs) : frS (l ++ [x]) = frS l ++ whole x.2 x.1 := by simp [frS]
theorem cntS_le : ∀ (l : Sgs) (n : Int), cntS l n ≤ l.length := by
  intro l
  induction l with
  | nil => intro n; exact Nat.le_refl _
  | cons x r ih =>
    intro n
    simp only [cntS, List.length_cons]
    split
    · omega
    · split
      · omega
      · have := ih (n + (whole x.2 x.1).length); omega
theorem rdS_le (l : Sgs) (after : Int) : rdS l after ≤ l.length := by
  cases l with
  | nil => exact Nat.le_refl _
  | cons x r =>
    simp only [rdS]
    split
    · omega
    · exact cntS_le _ _
/-- of fewer segments as many are read as there are, at most -/
theorem cntS_take : ∀ (l : Sgs) (n : Int) (m : Nat), cntS (l.take m) n = min m (cntS l n) := by
  intro l
  induction l with
  | nil => intro n m; simp [cntS]
  | cons x r ih =>
    intro n m
    cases m with
    | zero => simp [cntS]
    | succ m =>
      rw [List.take_succ_cons]
      simp only [cntS]
      split
      · simp
      · split
        · omega
        · rw [ih]; omega
theorem rdS_take (l : Sgs) (after : Int) (m : Nat) : rdS (l.take m) after = min m (rdS l after) := by
  cases l with
  | nil => simp [rdS]
  | cons x r =>
    cases m with
    | zero => simp [rdS]
    | succ m =>
      have h := cntS_take (x :: r) x.1 (m + 1)
      rw [List.take_succ_cons] at h ⊢
      simp only [rdS]
      split
      · simp
      · exact h
/-- the step of a scan behind k that were whole -/
theorem cntS_drop : ∀ (k : Nat) (l : Sgs) (n : Int), k < cntS l n → cntS l n = k + cntS (l.drop k) (n + (frS (l.take k)).length) ∧ 0 < cntS (l.drop k) (n + (frS (l.take k)).length) := by
  intro k
  induction k with
  | zero => intro l n h; simpa [frS] using h
  | succ k ih =>
    intro l n h
    cases l with
    | nil => simp [cntS] at h
    | cons x r =>
      simp only [cntS] at h ⊢
      split at h
      · omega
      · rename_i h1
        rw [if_neg h1]
        split at h
        · omega
        · rename_i h2
          rw [if_neg h2]
          obtain ⟨e1, e2⟩ := ih r (n + (whole x.2 x.1).length) (by omega)
          rw [List.drop_succ_cons, List.take_succ_cons, show frS (x :: r.take k) = whole x.2 x.1 ++ frS (r.take k) by simp [frS], List.length_append, show n + ((whole x.2 x.1).length + (frS (r.take k)).length : Nat) = n + (whole x.2 x.1).length + (frS (r.take k)).length by push_cast; omega]
          exact ⟨by omega, e2⟩
theorem row_app {a b : List Fr} {n : Int} (ha : Row a n) (hb : Row b (n + a.length)) : Row (a ++ b) n := fun i f hf => by
  rcases Nat.lt_or_ge i a.length with h | h
  · rw [List.getElem?_append_left h] at hf; exact ha i f hf
  · rw [List.getElem?_append_right h] at hf
    rw [hb _ f hf]
    omega
theorem row_whole (s : Bs) (n : Int) : Row (whole s n) n := (whole_facts s.length s n (Nat.le_refl _)).2.2.2.1
/-- the frames of those that are read follow one another -/
theorem frS_row : ∀ (l : Sgs) (n : Int) (k : Nat), k ≤ cntS l n → Row (frS (l.take k)) n := by
  intro l
  induction l with
  | nil => intro n k _ i f hf; simp [frS] at hf
  | cons x r ih =>
    intro n k hk
    cases k with
    | zero => intro i f hf; simp [frS] at hf
    | succ k =>
      simp only [cntS] at hk
      split at hk
      · omega
      · rename_i h1
        have hx : x.1 = n := by simpa using h1
        rw [List.take_succ_cons, show frS (x :: r.take k) = whole x.2 x.1 ++ frS (r.take k) by simp [frS]]
        refine row_app (by rw [hx]; exact row_whole _ _) ?_
        rw [hx] at hk ⊢
        split at hk
        · obtain rfl : k = 0 := by omega
          intro i f hf; simp [frS] at hf
        · exact ih _ k (by omega)
theorem frS_take_le (l : Sgs) (k : Nat) : (frS (l.take k)).length ≤ (frS l).length := by
  have e : frS l = frS (l.take k) ++ frS (l.drop k) := by unfold frS; rw [← List.flatMap_append, List.take_append_drop]
  rw [e, List.length_append]
  omega
theorem frS_take_snoc {l : Sgs} {k : Nat} {x : Int × Bs} (h : l[k]? = some x) : frS (l.take (k + 1)) = frS (l.take k) ++ whole x.2 x.1 := by
  rw [List.take_add_one, h, show (l.take k ++ (some x).toList) = l.take k ++ [x] from rfl, frS_snoc]
/-- the first of some segments' numbers -/
def fst0 (l : Sgs) : Int := match l with
  | [] => 0
  | x :: _ => x.1
/-- what a scan tells: the frames above a number; the file that was read last, how much of it is whole; the files of no use -/
def scanF (l : Sgs) (after : Int) : List Fr × (Option Int × Nat) × List Int :=
  if frS (l.take (rdS l after)) = [] ∨ fst0 l + (frS (l.take (rdS l after))).length - 1 < after then ([], (none, 0), l.map (·.1))
  else ((frS (l.take (rdS l after))).drop (after - fst0 l + 1).toNat, (l[rdS l after - 1]?.map (·.1), (l[rdS l after - 1]?.map fun x => bytes (whole x.2 x.1)).getD 0), (l.drop (rdS l after)).map (·.1))
theorem rdS_row (l : Sgs) (after : Int) : Row (frS (l.take (rdS l after))) (fst0 l) := by
  cases l with
  | nil => intro i f hf; simp [frS] at hf
  | cons x r =>
    simp only [rdS]
    split
    · intro i f hf; simp [frS] at hf
    · exact frS_row _ _ _ (Nat.le_refl _)
theorem drop_at {l : Sgs} {k : Nat} {x : Int × Bs} (hx : l[k]? = some x) : l.drop k = x :: l.drop (k + 1) := by
  obtain ⟨h, rfl⟩ := List.getElem?_eq_some_iff.1 hx
  exact List.drop_eq_getElem_cons h
theorem cntS_stop {l : Sgs} {k : Nat} {x : Int × Bs} {n : Int} (hx : l[k]? = some x) (hn : x.1 ≠ n) : cntS (l.drop k) n = 0 := by
  rw [drop_at hx]
  simp only [cntS]
  rw [if_pos hn]
theorem cntS_one {l : Sgs} {k : Nat} {x : Int × Bs} {n : Int} (hx : l[k]? = some x) (hn : x.1 = n) (h : bytes (whole x.2 x.1) < x.2.length) : cntS (l.drop k) n = 1 := by
  rw [drop_at hx]
  simp only [cntS]
  rw [if_neg (fun h => h hn), if_pos h]
theorem cntS_next {l : Sgs} {k : Nat} {x : Int × Bs} {n : Int} (hx : l[k]? = some x) (hn : x.1 = n) (h : ¬ bytes (whole x.2 x.1) < x.2.length) : cntS (l.drop k) n = cntS (l.drop (k + 1)) (n + (whole x.2 x.1).length) + 1 := by
  rw [drop_at hx]
  simp only [cntS]
  rw [if_neg (fun h => h hn), if_neg h]
theorem fst0_at {l : Sgs} {x : Int × Bs} (hx : l[0]? = some x) : fst0 l = x.1 := by
  cases l with
  | nil => simp at hx
  | cons y r => simp at hx; subst hx; rfl
theorem rdS_zero {l : Sgs} {x : Int × Bs} {after : Int} (hx : l[0]? = some x) : (after < x.1 - 1 → rdS l after = 0) ∧ (¬ after < x.1 - 1 → rdS l after = cntS l (fst0 l)) := by
  cases l with
  | nil => simp at hx
  | cons y r =>
    simp at hx
    subst hx
    exact ⟨fun h => by simp only [rdS]; rw [if_pos h], fun h => by simp only [rdS]; rw [if_neg h]; rfl⟩
end Go.Proofs.YtcpmicinibfepaaGreatDoor.FrameP

namespace Go.Proofs.YtcpmicinibfepaaGreatDoor.VariP

def putF : Nat → Nat → List UInt8
  | 0, _ => []
  | n + 1, u => if u < 128 then [UInt8.ofNat u] else UInt8.ofNat (u % 128 + 128) :: putF n (u / 128)
def put (u : Nat) : List UInt8 := putF 10 u

/-- the number, the count of bytes, the error (0: none; 2: form; 3: short) -/
def takeF : Nat → Nat → Nat → List UInt8 → Nat × Nat × Int
  | 0, _, _, _ => (0, 0, 2)
  | _ + 1, _, _, [] => (0, 0, 3)
  | f + 1, k, u, c :: r =>
    if 128 ≤ c.toNat then takeF f (k + 1) (u + c.toNat % 128 * 128 ^ k) r
    else if (c.toNat = 0 ∧ 0 < k) ∨ (k = 9 ∧ 1 < c.toNat) then (0, 0, 2)
    else (u + c.toNat % 128 * 128 ^ k, k + 1, 0)
def take (lim : Nat) (s : List UInt8) : Nat × Nat × Int := takeF lim 0 0 s

theorem toNat_lt (n : Nat) (h : n < 256) : (UInt8.ofNat n).toNat = n := UInt8.toNat_ofNat_of_lt' h

theorem putF_ne (n u : Nat) : putF (n + 1) u ≠ [] := by
  unfold putF; split <;> simp
theorem putF_len (n : Nat) : ∀ u, (putF n u).length ≤ n := by
  induction n with
  | zero => intro u; simp [putF]
  | succ n ih => intro u; unfold putF; split
                 · simp
                 · simp only [List.length_cons]; have := ih (u / 128); omega
theorem put_len (u : Nat) : (put u).length ≤ 10 := putF_len 10 u
theorem put_pos (u : Nat) : 1 ≤ (put u).length := by
  have := putF_ne 9 u
  unfold put
  cases h : putF 10 u with
  | nil => exact absurd h this
  | cons a l => simp

theorem putF_mono (n : Nat) : ∀ u v, u ≤ v → (putF n u).length ≤ (putF n v).length := by
  induction n with
  | zero => intro u v _; simp [putF]
  | succ n ih =>
    intro u v h
    unfold putF
    by_cases hu : u < 128
    · rw [if_pos hu]; split <;> simp
    · rw [if_neg hu, if_neg (by omega)]
      simp only [List.length_cons]
      have := ih (u / 128) (v / 128) (Nat.div_le_div_right h)
      omega

/-- more room changes nothing -/
theorem putF_more (n : Nat) : ∀ u, u < 128 ^ n → 0 < n → ∀ m, putF (n + m) u = putF n u := by
  induction n with
  | zero => intro u _ h; omega
  | succ n ih =>
    intro u hu _ m
    rw [show n + 1 + m = (n + m) + 1 by omega]
    unfold putF
    by_cases h : u < 128
    · rw [if_pos h, if_pos h]
    · rw [if_neg h, if_neg h]
      have hn : 0 < n := by
        rcases Nat.eq_zero_or_pos n with h0 | h0
        · subst h0; simp at hu; omega
        · exact h0
      rw [ih (u / 128) (by rw [Nat.pow_succ] at hu; exact Nat.div_lt_of_lt_mul (by omega)) hn m]

/-- WHAT IS PUT IS TAKEN -/
theorem takeF_putF (n : Nat) : ∀ f k acc u s, u < 128 ^ n → n ≤ f → 0 < n → (0 < k → 0 < u) → (k + n ≤ 9 ∨ (k + n = 10 ∧ u < 2 * 128 ^ (9 - k))) →
    takeF f k acc (putF n u ++ s) = (acc + u * 128 ^ k, k + (putF n u).length, 0) := by
  induction n with
  | zero => intro f k acc u s _ _ h; omega
  | succ n ih =>
    intro f k acc u s hu hf _ hk h9
    obtain ⟨f, rfl⟩ : ∃ g, f = g + 1 := ⟨f - 1, by omega⟩
    unfold putF
    by_cases h : u < 128
    · rw [if_pos h]
      simp only [List.cons_append, List.nil_append, takeF]
      rw [toNat_lt u (by omega), if_neg (by omega), if_neg]
      · rw [Nat.mod_eq_of_lt h]; rfl
      · rintro (⟨h1, h2⟩ | ⟨h1, h2⟩)
        · have := hk h2; omega
        · subst h1
          rcases h9 with h9 | ⟨_, h9⟩
          · omega
          · simp at h9; omega
    · rw [if_neg h]
      simp only [List.cons_append, takeF]
      rw [toNat_lt _ (by omega), if_pos (by omega)]
      have hn : 0 < n := by
        rcases Nat.eq_zero_or_pos n with h0 | h0
        · subst h0; simp at hu; omega
        · exact h0
      have hmod : (u % 128 + 128) % 128 = u % 128 := by omega
      rw [hmod, ih f (k + 1) _ (u / 128) s (by rw [Nat.pow_succ] at hu; exact Nat.div_lt_of_lt_mul (by omega)) (by omega) hn (fun _ => by omega)]
      · refine Prod.ext ?_ (Prod.ext ?_ rfl)
        · simp only
          have hd := Nat.div_add_mod u 128
          calc acc + u % 128 * 128 ^ k + u / 128 * 128 ^ (k + 1) = acc + (u % 128 + 128 * (u / 128)) * 128 ^ k := by
                rw [Nat.pow_succ, Nat.add_mul, Nat.mul_comm 128 (u / 128), Nat.mul_assoc, Nat.mul_comm 128 (128 ^ k), Nat.add_assoc]
            _ = acc + u * 128 ^ k := by rw [Nat.add_comm (u % 128)]; rw [hd]
        · simp only [List.length_cons]; omega
      · rcases h9 with h9 | ⟨h9, h9'⟩
        · exact .inl (by omega)
        · refine .inr ⟨by omega, ?_⟩
          have : 9 - k = (9 - (k + 1)) + 1 := by omega
          rw [this, Nat.pow_succ] at h9'
          exact Nat.div_lt_of_lt_mul (by omega)

/-- WHAT IS TAKEN WAS PUT SO -/
theorem takeF_back (f : Nat) : ∀ k acc s x y, takeF f k acc s = (x, y, 0) → k + f ≤ 10 →
    ∃ u, x = acc + u * 128 ^ k ∧ k < y ∧ y ≤ k + f ∧ y ≤ k + s.length ∧ u < 128 ^ (y - k) ∧ (0 < k → 0 < u) ∧ s.take (y - k) = putF (y - k) u ∧ (y = 10 → u < 2 * 128 ^ (9 - k)) := by
  induction f with
  | zero => intro k acc s x y h; simp [takeF] at h
  | succ f ih =>
    intro k acc s x y h hk
    cases s with
    | nil => simp [takeF] at h
    | cons c r =>
      have hc := c.toNat_lt
      simp only [takeF] at h
      by_cases h1 : 128 ≤ c.toNat
      · rw [if_pos h1] at h
        obtain ⟨u, hx, hy1, hy2, hy3, hu, hu0, ht, h10⟩ := ih (k + 1) _ r x y h (by omega)
        have hu1 := hu0 (by omega)
        have hyk : y - k = (y - (k + 1)) + 1 := by omega
        have e1 : (c.toNat % 128 + 128 * u) / 128 = u := by omega
        have e2 : (c.toNat % 128 + 128 * u) % 128 + 128 = c.toNat := by omega
        refine ⟨c.toNat % 128 + 128 * u, ?_, by omega, by omega, by simp only [List.length_cons]; omega, ?_, fun _ => by omega, ?_, ?_⟩
        · rw [hx, Nat.pow_succ, Nat.add_mul, Nat.add_assoc]
          congr 2
          rw [Nat.mul_comm 128 u, Nat.mul_assoc, Nat.mul_comm 128 (128 ^ k)]
        · rw [hyk, Nat.pow_succ]
          have : u + 1 ≤ 128 ^ (y - (k + 1)) := hu
          have := Nat.mul_le_mul_right 128 this
          omega
        · rw [hyk, List.take_succ_cons, ht]
          conv => rhs; unfold putF
          rw [if_neg (by omega), e1, e2]
          rw [show UInt8.ofNat c.toNat = c from UInt8.ofNat_toNat]
        · intro hy
          have := h10 hy
          have e : 9 - k = (9 - (k + 1)) + 1 := by omega
          rw [e, Nat.pow_succ]
          omega
      · rw [if_neg h1] at h
        split at h
        · simp at h
        · rename_i hno
          simp only [Prod.mk.injEq] at h
          obtain ⟨hx, hy, _⟩ := h
          have hyk : y - k = 1 := by omega
          refine ⟨c.toNat, by rw [← hx, Nat.mod_eq_of_lt (by omega)], by omega, by omega, by simp only [List.length_cons]; omega, by rw [hyk]; omega, ?_, ?_, ?_⟩
          · intro hk0
            rcases Nat.eq_zero_or_pos c.toNat with h0 | h0
            · exact absurd (.inl ⟨h0, hk0⟩) hno
            · exact h0
          · rw [hyk]
            simp only [List.take_succ_cons, List.take_zero, putF]
            rw [if_pos (by omega), show UInt8.ofNat c.toNat = c from UInt8.ofNat_toNat]
          · intro hy10
            have hk9 : k = 9 := by omega
            subst hk9
            simp
            have : ¬ (1 < c.toNat) := fun hh => hno (.inr ⟨rfl, hh⟩)
            omega

theorem takeF_err (f : Nat) : ∀ k acc s, (takeF f k acc s).2.2 = 0 ∨ ((takeF f k acc s).1 = 0 ∧ (takeF f k acc s).2.1 = 0 ∧ ((takeF f k acc s).2.2 = 2 ∨ (takeF f k acc s).2.2 = 3)) := by
  induction f with
  | zero => intro k acc s; right; simp [takeF]
  | succ f ih =>
    intro k acc s
    cases s with
    | nil => right; simp [takeF]
    | cons c r =>
      simp only [takeF]
      split
      · exact ih _ _ _
      · split
        · right; simp
        · left; rfl
theorem take_err (lim : Nat) (s : List UInt8) : (take lim s).2.2 = 0 ∨ ((take lim s).1 = 0 ∧ (take lim s).2.1 = 0 ∧ ((take lim s).2.2 = 2 ∨ (take lim s).2.2 = 3)) := takeF_err lim 0 0 s

theorem take_put9 (u : Nat) (s : List UInt8) (h : u < 9223372036854775808) : take 9 (put u ++ s) = (u, (put u).length, 0) := by
  have e : put u = putF 9 u := putF_more 9 u (by omega) (by omega) 1
  rw [e]
  have := takeF_putF 9 9 0 0 u s (by omega) (by omega) (by omega) (by omega) (.inl (by omega))
  simpa [take] using this
theorem take_put10 (u : Nat) (s : List UInt8) (h : u < 18446744073709551616) : take 10 (put u ++ s) = (u, (put u).length, 0) := by
  have := takeF_putF 10 10 0 0 u s (by omega) (by omega) (by omega) (by omega) (.inr ⟨by omega, by omega⟩)
  simpa [take, put] using this
theorem take_back (lim : Nat) (hl : lim = 9 ∨ lim = 10) (s : List UInt8) (x y : Nat) (h : take lim s = (x, y, 0)) :
    1 ≤ y ∧ y ≤ lim ∧ y ≤ s.length ∧ s.take y = put x ∧ x < 18446744073709551616 ∧ (lim = 9 → x < 9223372036854775808) := by
  obtain ⟨u, hx, h1, h2, h3, h4, _, h5, h6⟩ := takeF_back lim 0 0 s x y h (by omega)
  simp at hx h2 h3 h4 h5 h6
  subst hx
  have hy9 : lim = 9 → y ≤ 9 := by omega
  have hput : put x = putF y x := by
    have := putF_more y x h4 (by omega) (10 - y)
    rw [show y + (10 - y) = 10 by omega] at this
    exact this
  refine ⟨by omega, h2, h3, by rw [h5, hput], ?_, ?_⟩
  · by_cases h10 : y = 10
    · have := h6 h10; omega
    · have : 128 ^ y ≤ 128 ^ 9 := Nat.pow_le_pow_right (by omega) (by omega)
      omega
  · intro h9
    have : 128 ^ y ≤ 128 ^ 9 := Nat.pow_le_pow_right (by omega) (by omega)
    omega

/-! the document's way: the place of the last byte, and the number of digits -/
def lastF : Nat → Nat → List UInt8 → Option Nat
  | _, 0, _ => none
  | _, _ + 1, [] => none
  | i, f + 1, c :: r => if c.toNat < 128 then some i else lastF (i + 1) f r
def last (s : List UInt8) (most : Nat) : Option Nat := lastF 0 most s
def value : List UInt8 → Nat
  | [] => 0
  | c :: r => value r * 128 + c.toNat % 128

theorem lastF_some (f : Nat) : ∀ i s k, lastF i f s = some k → i ≤ k ∧ k < i + f ∧ k - i < s.length ∧ (s.getD (k - i) 0).toNat < 128 := by
  induction f with
  | zero => intro i s k h; simp [lastF] at h
  | succ f ih =>
    intro i s k h
    cases s with
    | nil => simp [lastF] at h
    | cons c r =>
      simp only [lastF] at h
      split at h
      · simp at h; subst h; rename_i hc; simp [hc]
      · obtain ⟨h1, h2, h3, h4⟩ := ih _ _ _ h
        refine ⟨by omega, by omega, by simp; omega, ?_⟩
        rw [show k - i = (k - (i + 1)) + 1 by omega, List.getD_cons_succ]; exact h4

/-- takeF in the document's words -/
theorem takeF_last (f : Nat) : ∀ k acc s, k + f ≤ 10 →
    takeF f k acc s = match lastF k f s with
      | none => if f ≤ s.length then (0, 0, 2) else (0, 0, 3)
      | some j => if ((s.getD (j - k) 0).toNat = 0 ∧ 0 < j) ∨ (j = 9 ∧ 1 < (s.getD (j - k) 0).toNat) then (0, 0, 2) else (acc + value (s.take (j - k + 1)) * 128 ^ k, j + 1, 0) := by
  induction f with
  | zero => intro k acc s _; simp [takeF, lastF]
  | succ f ih =>
    intro k acc s hk
    cases s with
    | nil => simp [takeF, lastF]
    | cons c r =>
      have hc := c.toNat_lt
      simp only [takeF, lastF]
      by_cases h : 128 ≤ c.toNat
      · rw [if_pos h, if_neg (by omega), ih _ _ _ (by omega)]
        cases hl : lastF (k + 1) f r with
        | none => simp
        | some j =>
          obtain ⟨h1, h2, h3, _⟩ := lastF_some f _ _ _ hl
          have e : j - k = (j - (k + 1)) + 1 := by omega
          simp only [e, List.getD_cons_succ, List.take_succ_cons, value]
          split
          · rfl
          · refine Prod.ext ?_ rfl
            simp only
            rw [Nat.pow_succ, Nat.add_mul]
            generalize value (List.take (j - (k + 1) + 1) r) = v
            generalize c.toNat % 128 = d
            have : v * (128 ^ k * 128) = v * 128 * 128 ^ k := by rw [Nat.mul_comm (128 ^ k) 128, Nat.mul_assoc]
            omega
      · have hc2 : c.toNat < 128 := by omega
        rw [if_neg h]
        simp [value, hc2]
theorem take_last (lim : Nat) (hl : lim ≤ 10) (s : List UInt8) :
    take lim s = match last s lim with
      | none => if lim ≤ s.length then (0, 0, 2) else (0, 0, 3)
      | some j => if ((s.getD j 0).toNat = 0 ∧ 0 < j) ∨ (j = 9 ∧ 1 < (s.getD j 0).toNat) then (0, 0, 2) else (value (s.take (j + 1)), j + 1, 0) := by
  unfold take last
  rw [takeF_last lim 0 0 s (by omega)]
  cases lastF 0 lim s <;> simp

/-- numbers one behind the other -/
def puts (l : List Int) : List UInt8 := (l.map fun n => if n < 0 then [] else put n.toNat).flatten
def putI (n : Int) : List UInt8 := if n < 0 then [] else put n.toNat
/-- a number, and whether it is below 0, as one that is not -/
def zig (n : Int) : Nat := if 0 ≤ n then (2 * n).toNat else (-2 * n - 1).toNat
def zag (u : Nat) : Int := if u % 2 = 0 then (u / 2 : Nat) else -((u / 2 : Nat) : Int) - 1
theorem zag_zig (n : Int) : zag (zig n) = n := by unfold zag zig; split <;> split <;> omega
theorem zig_zag (u : Nat) : zig (zag u) = u := by unfold zag zig; split <;> split <;> omega
theorem zig_lt (n : Int) (h : -9223372036854775808 ≤ n ∧ n ≤ 9223372036854775807) : zig n < 18446744073709551616 := by unfold zig; split <;> omega
theorem zag_in (u : Nat) (h : u < 18446744073709551616) : -9223372036854775808 ≤ zag u ∧ zag u ≤ 9223372036854775807 := by unfold zag; split <;> omega
end Go.Proofs.YtcpmicinibfepaaGreatDoor.VariP

namespace Go.Proofs.YtcpmicinibfepaaGreatDoor.PackP
open VariP


abbrev Bs := List UInt8
/-- what is left, and the first error -/
abbrev St := Bs × Int

def text (s : Bs) : Bs := put s.length ++ s
def flag (b : Bool) : Bs := if b then [1] else [0]

def rNum (r : St) : Int × St :=
  if r.2 ≠ 0 then (0, r) else match take 9 r.1 with
    | (n, k, e) => if e ≠ 0 then (0, (r.1, e)) else ((n : Int), (r.1.drop k, 0))
def rSigned (r : St) : Int × St :=
  if r.2 ≠ 0 then (0, r) else match take 10 r.1 with
    | (n, k, e) => if e ≠ 0 then (0, (r.1, e)) else (zag n, (r.1.drop k, 0))
def rText (most : Int) (r : St) : Bs × St :=
  if r.2 ≠ 0 then ([], r) else match take 9 r.1 with
    | (n, k, e) => if e ≠ 0 then ([], (r.1, e)) else if most < n then ([], (r.1, 12)) else if (r.1.drop k).length < n then ([], (r.1, 3)) else ((r.1.drop k).take n, ((r.1.drop k).drop n, 0))
def rFlag (r : St) : Bool × St :=
  if r.2 ≠ 0 then (false, r) else match r.1 with
    | [] => (false, (r.1, 3))
    | c :: l => if 1 < c.toNat then (false, (r.1, 2)) else (c.toNat == 1, (l, 0))
def rEnd (r : St) : Int := if r.2 = 0 ∧ r.1 ≠ [] then 2 else r.2

/-! with an error nothing is read -/
theorem rNum_err (r : St) (h : r.2 ≠ 0) : rNum r = (0, r) := by unfold rNum; rw [if_pos h]
theorem rSigned_err (r : St) (h : r.2 ≠ 0) : rSigned r = (0, r) := by unfold rSigned; rw [if_pos h]
theorem rText_err (m : Int) (r : St) (h : r.2 ≠ 0) : rText m r = ([], r) := by unfold rText; rw [if_pos h]
theorem rFlag_err (r : St) (h : r.2 ≠ 0) : rFlag r = (false, r) := by unfold rFlag; rw [if_pos h]

/-! what is written is read -/
theorem rNum_put (n : Int) (s : Bs) (h0 : 0 ≤ n) (h : n ≤ 9223372036854775807) : rNum (putI n ++ s, 0) = (n, (s, 0)) := by
  unfold rNum putI
  rw [if_neg (by simp), if_neg (by omega)]
  simp only [take_put9 n.toNat s (by omega)]
  simp [Int.toNat_of_nonneg h0]
theorem rSigned_put (n : Int) (s : Bs) (h : -9223372036854775808 ≤ n ∧ n ≤ 9223372036854775807) : rSigned (put (zig n) ++ s, 0) = (n, (s, 0)) := by
  unfold rSigned
  rw [if_neg (by simp)]
  simp only [take_put10 (zig n) s (zig_lt n h)]
  simp [zag_zig]
theorem rText_put (m : Int) (t s : Bs) (hm : (t.length : Int) ≤ m) (h : t.length < 9223372036854775808) : rText m (text t ++ s, 0) = (t, (s, 0)) := by
  unfold rText text
  rw [if_neg (by simp), List.append_assoc]
  simp only [take_put9 t.length (t ++ s) h]
  rw [if_neg (by simp), if_neg (by omega), if_neg (by simp)]
  simp
theorem rFlag_put (b : Bool) (s : Bs) : rFlag (flag b ++ s, 0) = (b, (s, 0)) := by cases b <;> rfl

/-! what is read was written -/
theorem rNum_back (l l' : Bs) (n : Int) (h : rNum (l, 0) = (n, (l', 0))) : l = putI n ++ l' ∧ 0 ≤ n ∧ n ≤ 9223372036854775807 := by
  unfold rNum at h
  rw [if_neg (by simp)] at h
  rcases ht : take 9 l with ⟨x, k, e⟩
  simp only [ht] at h
  split at h
  · rename_i he; simp only [Prod.mk.injEq] at h; exact absurd h.2.2 he
  · rename_i he
    have he0 : e = 0 := by simpa using he
    subst he0
    simp only [Prod.mk.injEq] at h
    obtain ⟨rfl, rfl, _⟩ := h
    obtain ⟨h1, h2, h3, h4, h5, h6⟩ := take_back 9 (.inl rfl) l x k ht
    have := h6 rfl
    refine ⟨?_, by omega, by omega⟩
    unfold putI; rw [if_neg (by omega), Int.toNat_natCast, ← h4, List.take_append_drop]
theorem rSigned_back (l l' : Bs) (n : Int) (h : rSigned (l, 0) = (n, (l', 0))) : l = put (zig n) ++ l' ∧ -9223372036854775808 ≤ n ∧ n ≤ 9223372036854775807 := by
  unfold rSigned at h
  rw [if_neg (by simp)] at h
  rcases ht : take 10 l with ⟨x, k, e⟩
  simp only [ht] at h
  split at h
  · rename_i he; simp only [Prod.mk.injEq] at h; exact absurd h.2.2 he
  · rename_i he
    have he0 : e = 0 := by simpa using he
    subst he0
    simp only [Prod.mk.injEq] at h
    obtain ⟨rfl, rfl, _⟩ := h
    obtain ⟨h1, h2, h3, h4, h5, _⟩ := take_back 10 (.inr rfl) l x k ht
    refine ⟨?_, zag_in x h5⟩
    rw [zig_zag, ← h4, List.take_append_drop]
theorem rText_back (m : Int) (l l' t : Bs) (h : rText m (l, 0) = (t, (l', 0))) : l = text t ++ l' ∧ (t.length : Int) ≤ m := by
  unfold rText at h
  rw [if_neg (by simp)] at h
  rcases ht : take 9 l with ⟨x, k, e⟩
  simp only [ht] at h
  split at h
  · rename_i he; simp only [Prod.mk.injEq] at h; exact absurd h.2.2 he
  · rename_i he
    have he0 : e = 0 := by simpa using he
    subst he0
    split at h
    · simp at h
    split at h
    · simp at h
    simp only [Prod.mk.injEq] at h
    obtain ⟨rfl, rfl, _⟩ := h
    obtain ⟨h1, h2, h3, h4, h5, h6⟩ := take_back 9 (.inl rfl) l x k ht
    have hl : ((l.drop k).take x).length = x := by rw [List.length_take]; omega
    refine ⟨?_, by rw [hl]; omega⟩
    unfold text
    rw [hl, ← h4, List.append_assoc, List.take_append_drop, List.take_append_drop]
theorem rFlag_back (l l' : Bs) (b : Bool) (h : rFlag (l, 0) = (b, (l', 0))) : l = flag b ++ l' := by
  unfold rFlag at h
  rw [if_neg (by simp)] at h
  cases l with
  | nil => simp at h
  | cons c r =>
    simp only at h
    split at h
    · simp at h
    · rename_i hc
      simp only [Prod.mk.injEq] at h
      obtain ⟨rfl, rfl, _⟩ := h
      have hc' : c.toNat = 0 ∨ c.toNat = 1 := by omega
      rcases hc' with h0 | h0
      · have : c = 0 := UInt8.toNat_inj.1 h0
        subst this; rfl
      · have : c = 1 := UInt8.toNat_inj.1 h0
        subst this; rfl

/-! cut off it is too short -/
theorem takeF_short (n : Nat) : ∀ f k acc u i, n ≤ f → i < (putF n u).length → takeF f k acc ((putF n u).take i) = (0, 0, 3) := by
  induction n with
  | zero => intro f k acc u i _ h; simp [putF] at h
  | succ n ih =>
    intro f k acc u i hf h
    obtain ⟨f, rfl⟩ : ∃ g, f = g + 1 := ⟨f - 1, by omega⟩
    unfold putF at h ⊢
    by_cases hu : u < 128
    · rw [if_pos hu] at h ⊢
      simp only [List.length_cons, List.length_nil] at h
      have : i = 0 := by omega
      subst this; rfl
    · rw [if_neg hu] at h ⊢
      cases i with
      | zero => rfl
      | succ i =>
        simp only [List.take_succ_cons, takeF]
        rw [toNat_lt _ (by omega), if_pos (by omega)]
        exact ih f _ _ _ i (by omega) (by simpa using h)
theorem take_short (lim u i : Nat) (hl : (lim = 9 ∧ u < 9223372036854775808) ∨ lim = 10) (h : i < (put u).length) : take lim ((put u).take i) = (0, 0, 3) := by
  rcases hl with ⟨rfl, hu⟩ | rfl
  · have e : put u = putF 9 u := putF_more 9 u (by omega) (by omega) 1
    rw [e] at h ⊢
    exact takeF_short 9 9 0 0 u i (by omega) h
  · exact takeF_short 10 10 0 0 u i (by omega) h
theorem rNum_short (n : Int) (i : Nat) (h0 : 0 ≤ n) (h : n ≤ 9223372036854775807) (hi : i < (putI n).length) : ∃ l, rNum ((putI n).take i, 0) = (0, (l, 3)) := by
  unfold putI at hi ⊢
  rw [if_neg (by omega)] at hi ⊢
  unfold rNum
  rw [if_neg (by simp)]
  simp only [take_short 9 n.toNat i (.inl ⟨rfl, by omega⟩) hi]
  rw [if_pos (by decide)]; exact ⟨_, rfl⟩
theorem rSigned_short (n : Int) (i : Nat) (hi : i < (put (zig n)).length) : ∃ l, rSigned ((put (zig n)).take i, 0) = (0, (l, 3)) := by
  unfold rSigned
  rw [if_neg (by simp)]
  simp only [take_short 10 (zig n) i (.inr rfl) hi]
  rw [if_pos (by decide)]; exact ⟨_, rfl⟩
theorem rText_short (m : Int) (t : Bs) (i : Nat) (hm : (t.length : Int) ≤ m) (h : t.length < 9223372036854775808) (hi : i < (text t).length) : ∃ l, rText m ((text t).take i, 0) = ([], (l, 3)) := by
  unfold rText
  rw [if_neg (by simp)]
  unfold text at hi ⊢
  by_cases h1 : i < (put t.length).length
  · have e : (put t.length ++ t).take i = (put t.length).take i := by rw [List.take_append_of_le_length (by omega)]
    rw [e]
    simp only [take_short 9 t.length i (.inl ⟨rfl, h⟩) h1]
    rw [if_pos (by decide)]; exact ⟨_, rfl⟩
  · have e : (put t.length ++ t).take i = put t.length ++ t.take (i - (put t.length).length) := by rw [List.take_append, List.take_of_length_le (by omega)]
    rw [e]
    simp only [take_put9 t.length _ h]
    rw [if_neg (by simp), if_neg (by omega), if_pos]
    · exact ⟨_, rfl⟩
    · rw [List.length_append] at hi
      simp; omega
theorem rFlag_short (b : Bool) (i : Nat) (hi : i < (flag b).length) : ∃ l, rFlag ((flag b).take i, 0) = (false, (l, 3)) := by
  have : i = 0 := by cases b <;> simp [flag] at hi <;> exact hi
  subst this
  exact ⟨[], rfl⟩

/-! parts: a kind, a number, a text -/
structure Part where
  kind : Int
  n : Int
  s : Bs
def Part.zero : Part := ⟨0, 0, []⟩
def pbytes (p : Part) : Bs :=
  if p.kind = 1 then putI p.n else if p.kind = 2 then put (zig p.n) else if p.kind = 3 then text p.s else if p.kind = 4 then flag (p.n == 1) else []
def pread (kind most : Int) (r : St) : Part × St :=
  if kind = 1 then (⟨1, (rNum r).1, []⟩, (rNum r).2) else if kind = 2 then (⟨2, (rSigned r).1, []⟩, (rSigned r).2)
  else if kind = 3 then (⟨3, 0, (rText most r).1⟩, (rText most r).2)
  else if kind = 4 then (⟨4, if (rFlag r).1 then 1 else 0, []⟩, (rFlag r).2) else (Part.zero, r)
def bytes (l : List Part) : Bs := (l.map pbytes).flatten
def Good (p : Part) : Prop := 1 ≤ p.kind ∧ p.kind ≤ 4 ∧ (p.kind = 1 → 0 ≤ p.n) ∧ -9223372036854775808 ≤ p.n ∧ p.n ≤ 9223372036854775807 ∧ p.s.length ≤ 300
def Alike (p q : Part) : Prop := (p.kind < 3 → q.n = p.n) ∧ (p.kind = 3 → q.s = p.s) ∧ (p.kind = 4 → (q.n = 1 ↔ p.n = 1))

theorem pread_put (p : Part) (h : Good p) (rest : Bs) : ∃ q, pread p.kind 300 (pbytes p ++ rest, 0) = (q, (rest, 0)) ∧ Alike p q := by
  obtain ⟨h1, h2, h3, h4, h5, h6⟩ := h
  have hk : p.kind = 1 ∨ p.kind = 2 ∨ p.kind = 3 ∨ p.kind = 4 := by omega
  unfold pread pbytes Alike
  rcases hk with h | h | h | h <;> simp only [h, if_true, if_false, (by decide : ¬ (2 : Int) = 1), (by decide : ¬ (3 : Int) = 1), (by decide : ¬ (4 : Int) = 1), (by decide : ¬ (3 : Int) = 2), (by decide : ¬ (4 : Int) = 2), (by decide : ¬ (4 : Int) = 3)]
  · rw [rNum_put p.n rest (h3 h) h5]; exact ⟨_, rfl, by simp⟩
  · rw [rSigned_put p.n rest ⟨h4, h5⟩]; exact ⟨_, rfl, by simp⟩
  · rw [rText_put 300 p.s rest (by omega) (by omega)]; exact ⟨_, rfl, by simp⟩
  · rw [rFlag_put]; refine ⟨_, rfl, by simp, by simp, ?_⟩
    intro _
    by_cases hn : p.n = 1 <;> simp [hn]
theorem pbytes_pos (p : Part) (h : Good p) : 1 ≤ (pbytes p).length := by
  obtain ⟨h1, h2, h3, _⟩ := h
  have hk : p.kind = 1 ∨ p.kind = 2 ∨ p.kind = 3 ∨ p.kind = 4 := by omega
  unfold pbytes
  rcases hk with h | h | h | h <;> simp only [h, if_true, if_false, (by decide : ¬ (2 : Int) = 1), (by decide : ¬ (3 : Int) = 1), (by decide : ¬ (4 : Int) = 1), (by decide : ¬ (3 : Int) = 2), (by decide : ¬ (4 : Int) = 2), (by decide : ¬ (4 : Int) = 3)]
  · unfold putI; have := h3 h; rw [if_neg (by omega)]; exact put_pos _
  · exact put_pos _
  · unfold text; have := put_pos p.s.length; rw [List.length_append]; omega
  · cases (p.n == 1) <;> simp [flag]
theorem bytes_len (l : List Part) (h : ∀ p ∈ l, Good p) : l.length ≤ (bytes l).length := by
  induction l with
  | nil => simp
  | cons p l ih =>
    have := pbytes_pos p (h p (by simp))
    have := ih (fun q hq => h q (by simp [hq]))
    simp only [bytes, List.map_cons, List.flatten_cons, List.length_append, List.length_cons] at *
    omega
/-- the state behind some parts -/
def preads (most : Int) : List Part → St → St
  | [], r => r
  | p :: l, r => preads most l (pread p.kind most r).2
theorem pread_err (k m : Int) (r : St) (h : r.2 ≠ 0) : (pread k m r).2 = r := by
  unfold pread
  rw [rNum_err r h, rSigned_err r h, rText_err m r h, rFlag_err r h]
  split
  · rfl
  split
  · rfl
  split
  · rfl
  split <;> rfl
theorem preads_err (m : Int) (l : List Part) : ∀ r : St, r.2 ≠ 0 → preads m l r = r := by
  induction l with
  | nil => intro r _; rfl
  | cons p l ih => intro r h; simp only [preads]; rw [pread_err _ _ _ h]; exact ih r h
theorem preads_put (l : List Part) (h : ∀ p ∈ l, Good p) : ∀ rest, preads 300 l (bytes l ++ rest, 0) = (rest, 0) := by
  induction l with
  | nil => intro rest; simp [preads, bytes]
  | cons p l ih =>
    intro rest
    have e : bytes (p :: l) = pbytes p ++ bytes l := rfl
    obtain ⟨q, hq, _⟩ := pread_put p (h p (by simp)) (bytes l ++ rest)
    rw [e, List.append_assoc]
    simp only [preads]
    rw [hq]
    exact ih (fun q hq => h q (by simp [hq])) rest
theorem pread_short (p : Part) (h : Good p) (i : Nat) (hi : i < (pbytes p).length) : ∃ l, (pread p.kind 300 ((pbytes p).take i, 0)).2 = (l, 3) := by
  obtain ⟨h1, h2, h3, h4, h5, h6⟩ := h
  have hk : p.kind = 1 ∨ p.kind = 2 ∨ p.kind = 3 ∨ p.kind = 4 := by omega
  unfold pread
  unfold pbytes at hi ⊢
  rcases hk with h | h | h | h <;> simp only [h, if_true, if_false, (by decide : ¬ (2 : Int) = 1), (by decide : ¬ (3 : Int) = 1), (by decide : ¬ (4 : Int) = 1), (by decide : ¬ (3 : Int) = 2), (by decide : ¬ (4 : Int) = 2), (by decide : ¬ (4 : Int) = 3)] at hi ⊢
  · obtain ⟨l, hl⟩ := rNum_short p.n i (h3 h) h5 hi; rw [hl]; exact ⟨l, rfl⟩
  · obtain ⟨l, hl⟩ := rSigned_short p.n i hi; rw [hl]; exact ⟨l, rfl⟩
  · obtain ⟨l, hl⟩ := rText_short 300 p.s i (by omega) (by omega) hi; rw [hl]; exact ⟨l, rfl⟩
  · obtain ⟨l, hl⟩ := rFlag_short _ i hi; rw [hl]; exact ⟨l, rfl⟩
theorem preads_short (l : List Part) (h : ∀ p ∈ l, Good p) : ∀ i, i < (bytes l).length → ∃ r, preads 300 l ((bytes l).take i, 0) = (r, 3) := by
  induction l with
  | nil => intro i hi; simp [bytes] at hi
  | cons p l ih =>
    intro i hi
    have e : bytes (p :: l) = pbytes p ++ bytes l := rfl
    rw [e] at hi ⊢
    simp only [preads]
    by_cases h1 : i < (pbytes p).length
    · rw [List.take_append_of_le_length (by omega)]
      obtain ⟨r, hr⟩ := pread_short p (h p (by simp)) i h1
      rw [hr]
      exact ⟨r, preads_err _ _ _ (by simp)⟩
    · rw [List.take_append, List.take_of_length_le (by omega)]
      obtain ⟨q, hq, _⟩ := pread_put p (h p (by simp)) ((bytes l).take (i - (pbytes p).length))
      rw [hq]
      rw [List.length_append] at hi
      exact ih (fun q hq => h q (by simp [hq])) _ (by omega)
end Go.Proofs.YtcpmicinibfepaaGreatDoor.PackP

namespace Go.Proofs.YtcpmicinibfepaaGreatDoor.CodeP
open VariP PackP


/-- a record -/
structure Sp where
  tr : Int
  id : Int
  pa : Int
  rv : Int
  sv : Bs
  op : Bs
  st : Int
  du : Int
  gn : Bool
deriving DecidableEq
def Sp.zero : Sp := ⟨0, 0, 0, 0, [], [], 0, 0, false⟩
def I64 (n : Int) : Prop := -9223372036854775808 ≤ n ∧ n ≤ 9223372036854775807
def Sp.Ok (x : Sp) : Prop := I64 x.tr ∧ I64 x.id ∧ I64 x.pa ∧ I64 x.rv ∧ I64 x.st ∧ I64 x.du
def named (s : Bs) : Bool := s.all (fun c => 33 ≤ c.toNat && c.toNat ≤ 126) && 1 ≤ s.length && s.length ≤ 24
/-- may a record be? (0: yes; 1: no) -/
def mayB (x : Sp) : Bool := 1 ≤ x.tr && 1 ≤ x.id && 0 ≤ x.pa && 0 ≤ x.rv && named x.sv && named x.op && -4611686018427387904 ≤ x.st && x.st ≤ 4611686018427387903
def may (x : Sp) : Int := if mayB x then 0 else 1
def enc (x : Sp) : Bs := putI x.tr ++ (putI x.id ++ (putI x.pa ++ (putI x.rv ++ (text x.sv ++ (text x.op ++ (put (zig x.st) ++ (put (zig x.du) ++ flag x.gn)))))))
def putS (x : Sp) : Bs × Int := if mayB x then (enc x, 0) else ([], 1)
/-- a record is read: what, and what is left -/
def rSp (r : St) : Sp × St :=
  let a := rNum r
  let b := rNum a.2
  let c := rNum b.2
  let d := rNum c.2
  let e := rText 24 d.2
  let f := rText 24 e.2
  let g := rSigned f.2
  let h := rSigned g.2
  let i := rFlag h.2
  (if i.2.2 ≠ 0 then Sp.zero else ⟨a.1, b.1, c.1, d.1, e.1, f.1, g.1, h.1, i.1⟩, i.2)
def takeS (s : Bs) : Sp × Int :=
  if rEnd (rSp (s, 0)).2 ≠ 0 then (Sp.zero, rEnd (rSp (s, 0)).2) else if mayB (rSp (s, 0)).1 then ((rSp (s, 0)).1, 0) else (Sp.zero, 1)

theorem rSp_err (r : St) (h : r.2 ≠ 0) : rSp r = (Sp.zero, r) := by
  unfold rSp
  simp only [rNum_err r h, rText_err 24 r h, rSigned_err r h, rFlag_err r h]
  rw [if_pos h]

/-- fit for being written so that it is read -/
def Fit (x : Sp) : Prop := 0 ≤ x.tr ∧ 0 ≤ x.id ∧ 0 ≤ x.pa ∧ 0 ≤ x.rv ∧ x.sv.length ≤ 24 ∧ x.op.length ≤ 24 ∧ x.Ok
theorem may_fit (x : Sp) (hx : x.Ok) (h : mayB x = true) : Fit x := by
  simp only [mayB, named, Bool.and_eq_true, decide_eq_true_eq] at h
  obtain ⟨⟨⟨⟨⟨⟨⟨h1, h2⟩, h3⟩, h4⟩, h5⟩, h6⟩, _⟩, _⟩ := h
  exact ⟨by omega, by omega, h3, h4, h5.2, h6.2, hx⟩
theorem rSp_enc (x : Sp) (h : Fit x) (s : Bs) : rSp (enc x ++ s, 0) = (x, (s, 0)) := by
  obtain ⟨h1, h2, h3, h4, h5, h6, ⟨k1, k2, k3, k4, k5, k6⟩⟩ := h
  unfold rSp enc
  simp only [List.append_assoc]
  simp only [rNum_put x.tr _ h1 k1.2, rNum_put x.id _ h2 k2.2, rNum_put x.pa _ h3 k3.2, rNum_put x.rv _ h4 k4.2, rText_put 24 x.sv _ (by omega) (by omega), rText_put 24 x.op _ (by omega) (by omega),
    rSigned_put x.st _ k5, rSigned_put x.du _ k6, rFlag_put]
  rw [if_neg (by simp)]
theorem rNum_0 (r s : St) (n : Int) (h : rNum r = (n, s)) (hs : s.2 = 0) : r.2 = 0 := by
  rcases Decidable.em (r.2 = 0) with h0 | h0
  · exact h0
  · rw [rNum_err r h0] at h; cases h; exact hs
theorem rSigned_0 (r s : St) (n : Int) (h : rSigned r = (n, s)) (hs : s.2 = 0) : r.2 = 0 := by
  rcases Decidable.em (r.2 = 0) with h0 | h0
  · exact h0
  · rw [rSigned_err r h0] at h; cases h; exact hs
theorem rText_0 (m : Int) (r s : St) (n : Bs) (h : rText m r = (n, s)) (hs : s.2 = 0) : r.2 = 0 := by
  rcases Decidable.em (r.2 = 0) with h0 | h0
  · exact h0
  · rw [rText_err m r h0] at h; cases h; exact hs
theorem rFlag_0 (r s : St) (n : Bool) (h : rFlag r = (n, s)) (hs : s.2 = 0) : r.2 = 0 := by
  rcases Decidable.em (r.2 = 0) with h0 | h0
  · exact h0
  · rw [rFlag_err r h0] at h; cases h; exact hs
theorem st_eq (r : St) (h : r.2 = 0) : r = (r.1, 0) := by cases r; simp at h; rw [h]
theorem rSp_back (l l' : Bs) (x : Sp) (h : rSp (l, 0) = (x, (l', 0))) : l = enc x ++ l' ∧ Fit x := by
  unfold rSp at h
  rcases ea : rNum (l, 0) with ⟨a, ra⟩
  rw [ea] at h; simp only at h
  rcases eb : rNum ra with ⟨b, rb⟩
  rw [eb] at h; simp only at h
  rcases ec : rNum rb with ⟨c, rc⟩
  rw [ec] at h; simp only at h
  rcases ed : rNum rc with ⟨d, rd⟩
  rw [ed] at h; simp only at h
  rcases ee : rText 24 rd with ⟨e, re⟩
  rw [ee] at h; simp only at h
  rcases ef : rText 24 re with ⟨f, rf⟩
  rw [ef] at h; simp only at h
  rcases eg : rSigned rf with ⟨g, rg⟩
  rw [eg] at h; simp only at h
  rcases eh : rSigned rg with ⟨hh, rh⟩
  rw [eh] at h; simp only at h
  rcases ei : rFlag rh with ⟨i, ri⟩
  rw [ei] at h; simp only at h
  simp only [Prod.mk.injEq] at h
  obtain ⟨hx, hr⟩ := h
  subst hr
  rw [if_neg (by simp)] at hx
  have zh := rFlag_0 _ _ _ ei rfl
  have zg := rSigned_0 _ _ _ eh zh
  have zf := rSigned_0 _ _ _ eg zg
  have ze := rText_0 _ _ _ _ ef zf
  have zd := rText_0 _ _ _ _ ee ze
  have zc := rNum_0 _ _ _ ed zd
  have zb := rNum_0 _ _ _ ec zc
  have za := rNum_0 _ _ _ eb zb
  rw [st_eq ra za] at ea eb
  rw [st_eq rb zb] at eb ec
  rw [st_eq rc zc] at ec ed
  rw [st_eq rd zd] at ed ee
  rw [st_eq re ze] at ee ef
  rw [st_eq rf zf] at ef eg
  rw [st_eq rg zg] at eg eh
  rw [st_eq rh zh] at eh ei
  obtain ⟨b1, c1, c2⟩ := rNum_back _ _ _ ea
  obtain ⟨b2, c3, c4⟩ := rNum_back _ _ _ eb
  obtain ⟨b3, c5, c6⟩ := rNum_back _ _ _ ec
  obtain ⟨b4, c7, c8⟩ := rNum_back _ _ _ ed
  obtain ⟨b5, c9⟩ := rText_back _ _ _ _ ee
  obtain ⟨b6, c10⟩ := rText_back _ _ _ _ ef
  obtain ⟨b7, c11⟩ := rSigned_back _ _ _ eg
  obtain ⟨b8, c12⟩ := rSigned_back _ _ _ eh
  have b9 := rFlag_back _ _ _ ei
  subst hx
  have q1 : e.length ≤ 24 := by omega
  have q2 : f.length ≤ 24 := by omega
  have lo : ∀ n : Int, 0 ≤ n → -9223372036854775808 ≤ n := fun n hn => by omega
  refine ⟨?_, c1, c3, c5, c7, q1, q2, ⟨lo _ c1, c2⟩, ⟨lo _ c3, c4⟩, ⟨lo _ c5, c6⟩, ⟨lo _ c7, c8⟩, c11, c12⟩
  rw [b1, b2, b3, b4, b5, b6, b7, b8, b9]
  simp [enc]
theorem takeS_putS (x : Sp) (hx : x.Ok) (h : mayB x = true) : takeS (enc x) = (x, 0) := by
  have e := rSp_enc x (may_fit x hx h) []
  rw [List.append_nil] at e
  unfold takeS
  rw [e, if_neg (by simp [rEnd]), if_pos h]
theorem takeS_back (s : Bs) (x : Sp) (h : takeS s = (x, 0)) : s = enc x ∧ mayB x = true ∧ x.Ok := by
  unfold takeS at h
  split at h
  · rename_i he; simp only [Prod.mk.injEq] at h; exact absurd h.2 he
  · rename_i he
    split at h
    · rename_i hm
      rcases hr : rSp (s, 0) with ⟨y, l, e⟩
      rw [hr] at h he hm
      simp only [Prod.mk.injEq] at h
      obtain ⟨rfl, _⟩ := h
      have he' : rEnd (l, e) = 0 := Decidable.of_not_not he
      unfold rEnd at he'
      split at he'
      · simp at he'
      · rename_i hn
        simp only at he' hn
        subst he'
        have hl : l = [] := by
          rcases Decidable.em (l = []) with h0 | h0
          · exact h0
          · exact absurd ⟨rfl, h0⟩ hn
        subst hl
        obtain ⟨h1, h2⟩ := rSp_back _ _ _ hr
        exact ⟨by simpa using h1, hm, h2.2.2.2.2.2.2⟩
    · simp at h
theorem takeS_err (s : Bs) (h : (takeS s).2 ≠ 0) : (takeS s).1 = Sp.zero := by
  unfold takeS at h ⊢
  split
  · rfl
  · rename_i he
    rw [if_neg he] at h
    split
    · rename_i hm; rw [if_pos hm] at h; simp at h
    · rfl
theorem enc_inj (x y : Sp) (hx : Fit x) (hy : Fit y) (h : enc x = enc y) : x = y := by
  have e1 := rSp_enc x hx []
  have e2 := rSp_enc y hy []
  rw [h, e2] at e1
  exact (congrArg Prod.fst e1).symm
theorem enc_pos (x : Sp) : 1 ≤ (enc x).length := by
  unfold enc
  simp only [List.length_append]
  have := put_pos (zig x.st)
  omega
end Go.Proofs.YtcpmicinibfepaaGreatDoor.CodeP
