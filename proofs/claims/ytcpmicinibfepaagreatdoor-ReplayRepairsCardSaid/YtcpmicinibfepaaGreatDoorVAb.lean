/- Plain mathematics of numbers as bytes, the greatest first (no program in sight). -/
namespace Go.Proofs.YtcpmicinibfepaaGreatDoor.BigP

/-- the lowest n bytes of a number, the greatest first -/
def big : Nat → Nat → List UInt8
  | 0, _ => []
  | n + 1, u => big n (u / 256) ++ [UInt8.ofNat (u % 256)]
/-- the number of bytes, the greatest first, from a number on -/
def num (acc : Nat) (l : List UInt8) : Nat := l.foldl (fun u c => u * 256 + c.toNat) acc

theorem big_length (n : Nat) : ∀ u, (big n u).length = n := by
  induction n with
  | zero => intro u; rfl
  | succ n ih => intro u; simp [big, ih]
theorem num_append (acc : Nat) (a b : List UInt8) : num acc (a ++ b) = num (num acc a) b := by simp [num, List.foldl_append]
theorem num_acc (l : List UInt8) : ∀ acc, num acc l = acc * 256 ^ l.length + num 0 l := by
  induction l with
  | nil => intro acc; simp [num]
  | cons c r ih =>
    intro acc
    show num (acc * 256 + c.toNat) r = acc * 256 ^ (r.length + 1) + num (0 * 256 + c.toNat) r
    rw [ih (acc * 256 + c.toNat), ih (0 * 256 + c.toNat), Nat.pow_succ, Nat.add_mul, Nat.add_mul, Nat.mul_comm (256 ^ r.length) 256, ← Nat.mul_assoc]
    omega
theorem num_lt (l : List UInt8) : num 0 l < 256 ^ l.length := by
  induction l with
  | nil => simp [num]
  | cons c r ih =>
    have e : num 0 (c :: r) = num (0 * 256 + c.toNat) r := rfl
    rw [e, num_acc, List.length_cons, Nat.pow_succ]
    have := c.toNat_lt
    have h : (0 * 256 + c.toNat + 1) * 256 ^ r.length ≤ 256 * 256 ^ r.length := Nat.mul_le_mul_right _ (by omega)
    rw [Nat.mul_comm (256 ^ r.length) 256]
    rw [Nat.add_mul] at h
    omega
theorem num_big (n : Nat) : ∀ u acc, num acc (big n u) = acc * 256 ^ n + u % 256 ^ n := by
  induction n with
  | zero => intro u acc; simp [big, num, Nat.mod_one]
  | succ n ih =>
    intro u acc
    rw [big, num_append, ih]
    show (acc * 256 ^ n + u / 256 % 256 ^ n) * 256 + (UInt8.ofNat (u % 256)).toNat = _
    rw [UInt8.toNat_ofNat_of_lt' (show u % 256 < 256 by omega), Nat.pow_succ, Nat.mul_comm (256 ^ n) 256, Nat.mod_mul, Nat.add_mul, Nat.mul_comm 256 (256 ^ n), Nat.mul_assoc]
    rw [Nat.mul_comm 256 (u / 256 % 256 ^ n)]
    omega
theorem num_big_lt (n u : Nat) (h : u < 256 ^ n) : num 0 (big n u) = u := by rw [num_big, Nat.mod_eq_of_lt h]; omega
theorem big_num (l : List UInt8) : big l.length (num 0 l) = l := by
  suffices h : ∀ n (l : List UInt8), l.length = n → big n (num 0 l) = l from h _ l rfl
  intro n
  induction n with
  | zero => intro l h; have := List.eq_nil_of_length_eq_zero h; subst this; rfl
  | succ n ih =>
    intro l h
    have hne : l ≠ [] := by intro e; subst e; simp at h
    have hl := List.dropLast_concat_getLast hne
    generalize l.dropLast = a at hl
    generalize l.getLast hne = c at hl
    subst hl
    have ha : a.length = n := by simpa using h
    have e : num 0 (a ++ [c]) = num 0 a * 256 + c.toNat := by rw [num_append]; rfl
    have hc := c.toNat_lt
    rw [e, big, show (num 0 a * 256 + c.toNat) / 256 = num 0 a by omega, show (num 0 a * 256 + c.toNat) % 256 = c.toNat by omega, ih a ha]
    rw [show UInt8.ofNat c.toNat = c from UInt8.ofNat_toNat]
theorem big_num' (n : Nat) (l : List UInt8) (h : l.length = n) : big n (num 0 l) = l := by subst h; exact big_num l
theorem big_inj (n u v : Nat) (hu : u < 256 ^ n) (hv : v < 256 ^ n) (h : big n u = big n v) : u = v := by
  rw [← num_big_lt n u hu, ← num_big_lt n v hv, h]
/-- byte by byte -/
theorem big_get (n : Nat) : ∀ u k, k < n → (big n u)[n - 1 - k]? = some (UInt8.ofNat (u / 256 ^ k % 256)) := by
  induction n with
  | zero => intro u k h; omega
  | succ n ih =>
    intro u k h
    rw [big]
    rcases Nat.eq_zero_or_pos k with h0 | h0
    · subst h0
      rw [List.getElem?_append_right (by rw [big_length]; omega), big_length]
      simp
    · rw [List.getElem?_append_left (by rw [big_length]; omega)]
      have := ih (u / 256) (k - 1) (by omega)
      rw [show n - 1 - (k - 1) = n + 1 - 1 - k by omega] at this
      rw [this, Nat.div_div_eq_div_mul, show 256 * 256 ^ (k - 1) = 256 ^ k by rw [Nat.mul_comm, ← Nat.pow_succ]; congr 1; omega]
theorem big_split (m n u : Nat) : big (m + n) u = big m (u / 256 ^ n) ++ big n u := by
  induction n generalizing u with
  | zero => simp [big]
  | succ n ih =>
    rw [← Nat.add_assoc, big, ih, big, List.append_assoc, Nat.div_div_eq_div_mul, Nat.pow_succ, Nat.mul_comm (256 ^ n) 256]
theorem big_cons (n u : Nat) : big (n + 1) u = UInt8.ofNat (u / 256 ^ n % 256) :: big n u := by
  rw [Nat.add_comm n 1, big_split 1 n]; rfl
theorem big_mod (n u : Nat) : big n (u % 256 ^ n) = big n u := by
  induction n generalizing u with
  | zero => rfl
  | succ n ih =>
    rw [big, big, Nat.pow_succ, Nat.mul_comm, Nat.mod_mul_right_div_self, Nat.mod_mul_right_mod, ih]

/-- bytes stand in the order of their numbers -/
theorem big_less (less : List UInt8 → List UInt8 → Bool)
    (hc : ∀ x y a b, less (x :: a) (y :: b) = (decide (x.toNat < y.toNat) || (x == y && less a b))) (n : Nat) :
    ∀ u v s t, u < 256 ^ n → v < 256 ^ n → less (big n u ++ s) (big n v ++ t) = (decide (u < v) || (decide (u = v) && less s t)) := by
  have same : ∀ a s t, less (a ++ s) (a ++ t) = less s t := by
    intro a; induction a with
    | nil => intro s t; rfl
    | cons x a ih => intro s t; rw [List.cons_append, List.cons_append, hc, ih]; simp
  induction n with
  | zero => intro u v s t hu hv; simp at hu hv; subst hu hv; simp [big]
  | succ n ih =>
    intro u v s t hu hv
    rw [big, big, List.append_assoc, List.append_assoc, ih _ _ _ _ (by rw [Nat.pow_succ] at hu; exact Nat.div_lt_of_lt_mul (by omega)) (by rw [Nat.pow_succ] at hv; exact Nat.div_lt_of_lt_mul (by omega))]
    simp only [List.cons_append, List.nil_append, hc]
    rw [UInt8.toNat_ofNat_of_lt' (show u % 256 < 256 by omega), UInt8.toNat_ofNat_of_lt' (show v % 256 < 256 by omega)]
    by_cases h1 : u / 256 < v / 256
    · have : u < v := by omega
      simp [h1, this]
    · by_cases h2 : u / 256 = v / 256
      · by_cases h3 : u % 256 = v % 256
        · have : u = v := by omega
          subst this; simp
        · have hne : (UInt8.ofNat (u % 256) == UInt8.ofNat (v % 256)) = false := by
            rw [beq_eq_false_iff_ne]; intro he
            have := congrArg UInt8.toNat he
            rw [UInt8.toNat_ofNat_of_lt' (show u % 256 < 256 by omega), UInt8.toNat_ofNat_of_lt' (show v % 256 < 256 by omega)] at this
            exact h3 this
          have h4 : (u % 256 < v % 256) = (u < v) := by apply propext; omega
          have h5 : ¬ u = v := by rintro rfl; exact h3 rfl
          simp [h2, hne, h4, h5]
      · have h5 : ¬ u = v := by rintro rfl; exact h2 rfl
        have h6 : ¬ u < v := by omega
        simp [h1, h2, h5, h6]
end Go.Proofs.YtcpmicinibfepaaGreatDoor.BigP
