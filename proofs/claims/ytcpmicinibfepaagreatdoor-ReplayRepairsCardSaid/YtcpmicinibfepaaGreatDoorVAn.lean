/- Plain mathematics of numbers of as few bytes as needed (no program in sight): what is put is taken as it was; what is taken was put so; order of lengths · Plain mathematics of parts that are written and read one behind the other (no program in sight) · Plain mathematics of records as bytes (no program in sight): what is put is taken as it was, what is taken was put so, no two records have the same bytes; lots. -/
namespace Go.Proofs.YtcpmicinibfepaaGreatDoor.VariP

def putF : Nat → Nat → List UInt8
  | 0, _ => []
  | n + 1, u => if u < 128 then [UInt8.ofNat u] else UInt8.ofNat (u % 128 + 128) :: putF n (u / 128)
def put (u : Nat) : List UInt8 := putF 10 u

/-- the number, the count of bytes, the error (0: none; 2: form; 3: short) -/
def takeF : Nat → Nat → Nat → List UInt8 → Nat × Nat × Int
  | 0, _, _, _ => (0, 0, 2)
  | _ + 1, _, _, [] => (0, 0, 3)
  | f + 1, k, u, c :: r =>
    if 128 ≤ c.toNat then takeF f (k + 1) (u + c.toNat % 128 * 128 ^ k) r
    else if (c.toNat = 0 ∧ 0 < k) ∨ (k = 9 ∧ 1 < c.toNat) then (0, 0, 2)
    else (u + c.toNat % 128 * 128 ^ k, k + 1, 0)
def take (lim : Nat) (s : List UInt8) : Nat × Nat × Int := takeF lim 0 0 s

theorem toNat_lt (n : Nat) (h : n < 256) : (UInt8.ofNat n).toNat = n := UInt8.toNat_ofNat_of_lt' h

theorem putF_ne (n u : Nat) : putF (n + 1) u ≠ [] := by
  unfold putF; split <;> simp
theorem putF_len (n : Nat) : ∀ u, (putF n u).length ≤ n := by
  induction n with
  | zero => intro u; simp [putF]
  | succ n ih => intro u; unfold putF; split
                 · simp
                 · simp only [List.length_cons]; have := ih (u / 128); omega
theorem put_len (u : Nat) : (put u).length ≤ 10 := putF_len 10 u
theorem put_pos (u : Nat) : 1 ≤ (put u).length := by
  have := putF_ne 9 u
  unfold put
  cases h : putF 10 u with
  | nil => exact absurd h this
  | cons a l => simp

theorem putF_mono (n : Nat) : ∀ u v, u ≤ v → (putF n u).length ≤ (putF n v).length := by
  induction n with
  | zero => intro u v _; simp [putF]
  | succ n ih =>
    intro u v h
    unfold putF
    by_cases hu : u < 128
    · rw [if_pos hu]; split <;> simp
    · rw [if_neg hu, if_neg (by omega)]
      simp only [List.length_cons]
      have := ih (u / 128) (v / 128) (Nat.div_le_div_right h)
      omega

/-- more room changes nothing -/
theorem putF_more (n : Nat) : ∀ u, u < 128 ^ n → 0 < n → ∀ m, putF (n + m) u = putF n u := by
  induction n with
  | zero => intro u _ h; omega
  | succ n ih =>
    intro u hu _ m
    rw [show n + 1 + m = (n + m) + 1 by omega]
    unfold putF
    by_cases h : u < 128
    · rw [if_pos h, if_pos h]
    · rw [if_neg h, if_neg h]
      have hn : 0 < n := by
        rcases Nat.eq_zero_or_pos n with h0 | h0
        · subst h0; simp at hu; omega
        · exact h0
      rw [ih (u / 128) (by rw [Nat.pow_succ] at hu; exact Nat.div_lt_of_lt_mul (by omega)) hn m]

/-- WHAT IS PUT IS TAKEN -/
theorem takeF_putF (n : Nat) : ∀ f k acc u s, u < 128 ^ n → n ≤ f → 0 < n → (0 < k → 0 < u) → (k + n ≤ 9 ∨ (k + n = 10 ∧ u < 2 * 128 ^ (9 - k))) →
    takeF f k acc (putF n u ++ s) = (acc + u * 128 ^ k, k + (putF n u).length, 0) := by
  induction n with
  | zero => intro f k acc u s _ _ h; omega
  | succ n ih =>
    intro f k acc u s hu hf _ hk h9
    obtain ⟨f, rfl⟩ : ∃ g, f = g + 1 := ⟨f - 1, by omega⟩
    unfold putF
    by_cases h : u < 128
    · rw [if_pos h]
      simp only [List.cons_append, List.nil_append, takeF]
      rw [toNat_lt u (by omega), if_neg (by omega), if_neg]
      · rw [Nat.mod_eq_of_lt h]; rfl
      · rintro (⟨h1, h2⟩ | ⟨h1, h2⟩)
        · have := hk h2; omega
        · subst h1
          rcases h9 with h9 | ⟨_, h9⟩
          · omega
          · simp at h9; omega
    · rw [if_neg h]
      simp only [List.cons_append, takeF]
      rw [toNat_lt _ (by omega), if_pos (by omega)]
      have hn : 0 < n := by
        rcases Nat.eq_zero_or_pos n with h0 | h0
        · subst h0; simp at hu; omega
        · exact h0
      have hmod : (u % 128 + 128) % 128 = u % 128 := by omega
      rw [hmod, ih f (k + 1) _ (u / 128) s (by rw [Nat.pow_succ] at hu; exact Nat.div_lt_of_lt_mul (by omega)) (by omega) hn (fun _ => by omega)]
      · refine Prod.ext ?_ (Prod.ext ?_ rfl)
        · simp only
          have hd := Nat.div_add_mod u 128
          calc acc + u % 128 * 128 ^ k + u / 128 * 128 ^ (k + 1) = acc + (u % 128 + 128 * (u / 128)) * 128 ^ k := by
                rw [Nat.pow_succ, Nat.add_mul, Nat.mul_comm 128 (u / 128), Nat.mul_assoc, Nat.mul_comm 128 (128 ^ k), Nat.add_assoc]
            _ = acc + u * 128 ^ k := by rw [Nat.add_comm (u % 128)]; rw [hd]
        · simp only [List.length_cons]; omega
      · rcases h9 with h9 | ⟨h9, h9'⟩
        · exact .inl (by omega)
        · refine .inr ⟨by omega, ?_⟩
          have : 9 - k = (9 - (k + 1)) + 1 := by omega
          rw [this, Nat.pow_succ] at h9'
          exact Nat.div_lt_of_lt_mul (by omega)

/-- WHAT IS TAKEN WAS PUT SO -/
theorem takeF_back (f : Nat) : ∀ k acc s x y, takeF f k acc s = (x, y, 0) → k + f ≤ 10 →
    ∃ u, x = acc + u * 128 ^ k ∧ k < y ∧ y ≤ k + f ∧ y ≤ k + s.length ∧ u < 128 ^ (y - k) ∧ (0 < k → 0 < u) ∧ s.take (y - k) = putF (y - k) u ∧ (y = 10 → u < 2 * 128 ^ (9 - k)) := by
  induction f with
  | zero => intro k acc s x y h; simp [takeF] at h
  | succ f ih =>
    intro k acc s x y h hk
    cases s with
    | nil => simp [takeF] at h
    | cons c r =>
      have hc := c.toNat_lt
      simp only [takeF] at h
      by_cases h1 : 128 ≤ c.toNat
      · rw [if_pos h1] at h
        obtain ⟨u, hx, hy1, hy2, hy3, hu, hu0, ht, h10⟩ := ih (k + 1) _ r x y h (by omega)
        have hu1 := hu0 (by omega)
        have hyk : y - k = (y - (k + 1)) + 1 := by omega
        have e1 : (c.toNat % 128 + 128 * u) / 128 = u := by omega
        have e2 : (c.toNat % 128 + 128 * u) % 128 + 128 = c.toNat := by omega
        refine ⟨c.toNat % 128 + 128 * u, ?_, by omega, by omega, by simp only [List.length_cons]; omega, ?_, fun _ => by omega, ?_, ?_⟩
        · rw [hx, Nat.pow_succ, Nat.add_mul, Nat.add_assoc]
          congr 2
          rw [Nat.mul_comm 128 u, Nat.mul_assoc, Nat.mul_comm 128 (128 ^ k)]
        · rw [hyk, Nat.pow_succ]
          have : u + 1 ≤ 128 ^ (y - (k + 1)) := hu
          have := Nat.mul_le_mul_right 128 this
          omega
        · rw [hyk, List.take_succ_cons, ht]
          conv => rhs; unfold putF
          rw [if_neg (by omega), e1, e2]
          rw [show UInt8.ofNat c.toNat = c from UInt8.ofNat_toNat]
        · intro hy
          have := h10 hy
          have e : 9 - k = (9 - (k + 1)) + 1 := by omega
          rw [e, Nat.pow_succ]
          omega
      · rw [if_neg h1] at h
        split at h
        · simp at h
        · rename_i hno
          simp only [Prod.mk.injEq] at h
          obtain ⟨hx, hy, _⟩ := h
          have hyk : y - k = 1 := by omega
          refine ⟨c.toNat, by rw [← hx, Nat.mod_eq_of_lt (by omega)], by omega, by omega, by simp only [List.length_cons]; omega, by rw [hyk]; omega, ?_, ?_, ?_⟩
          · intro hk0
            rcases Nat.eq_zero_or_pos c.toNat with h0 | h0
            · exact absurd (.inl ⟨h0, hk0⟩) hno
            · exact h0
          · rw [hyk]
            simp only [List.take_succ_cons, List.take_zero, putF]
            rw [if_pos (by omega), show UInt8.ofNat c.toNat = c from UInt8.ofNat_toNat]
          · intro hy10
            have hk9 : k = 9 := by omega
            subst hk9
            simp
            have : ¬ (1 < c.toNat) := fun hh => hno (.inr ⟨rfl, hh⟩)
            omega

theorem takeF_err (f : Nat) : ∀ k acc s, (takeF f k acc s).2.2 = 0 ∨ ((takeF f k acc s).1 = 0 ∧ (takeF f k acc s).2.1 = 0 ∧ ((takeF f k acc s).2.2 = 2 ∨ (takeF f k acc s).2.2 = 3)) := by
  induction f with
  | zero => intro k acc s; right; simp [takeF]
  | succ f ih =>
    intro k acc s
    cases s with
    | nil => right; simp [takeF]
    | cons c r =>
      simp only [takeF]
      split
      · exact ih _ _ _
      · split
        · right; simp
        · left; rfl
theorem take_err (lim : Nat) (s : List UInt8) : (take lim s).2.2 = 0 ∨ ((take lim s).1 = 0 ∧ (take lim s).2.1 = 0 ∧ ((take lim s).2.2 = 2 ∨ (take lim s).2.2 = 3)) := takeF_err lim 0 0 s

theorem take_put9 (u : Nat) (s : List UInt8) (h : u < 9223372036854775808) : take 9 (put u ++ s) = (u, (put u).length, 0) := by
  have e : put u = putF 9 u := putF_more 9 u (by omega) (by omega) 1
  rw [e]
  have := takeF_putF 9 9 0 0 u s (by omega) (by omega) (by omega) (by omega) (.inl (by omega))
  simpa [take] using this
theorem take_put10 (u : Nat) (s : List UInt8) (h : u < 18446744073709551616) : take 10 (put u ++ s) = (u, (put u).length, 0) := by
  have := takeF_putF 10 10 0 0 u s (by omega) (by omega) (by omega) (by omega) (.inr ⟨by omega, by omega⟩)
  simpa [take, put] using this
theorem take_back (lim : Nat) (hl : lim = 9 ∨ lim = 10) (s : List UInt8) (x y : Nat) (h : take lim s = (x, y, 0)) :
    1 ≤ y ∧ y ≤ lim ∧ y ≤ s.length ∧ s.take y = put x ∧ x < 18446744073709551616 ∧ (lim = 9 → x < 9223372036854775808) := by
  obtain ⟨u, hx, h1, h2, h3, h4, _, h5, h6⟩ := takeF_back lim 0 0 s x y h (by omega)
  simp at hx h2 h3 h4 h5 h6
  subst hx
  have hy9 : lim = 9 → y ≤ 9 := by omega
  have hput : put x = putF y x := by
    have := putF_more y x h4 (by omega) (10 - y)
    rw [show y + (10 - y) = 10 by omega] at this
    exact this
  refine ⟨by omega, h2, h3, by rw [h5, hput], ?_, ?_⟩
  · by_cases h10 : y = 10
    · have := h6 h10; omega
    · have : 128 ^ y ≤ 128 ^ 9 := Nat.pow_le_pow_right (by omega) (by omega)
      omega
  · intro h9
    have : 128 ^ y ≤ 128 ^ 9 := Nat.pow_le_pow_right (by omega) (by omega)
    omega

/-! the document's way: the place of the last byte, and the number of digits -/
def lastF : Nat → Nat → List UInt8 → Option Nat
  | _, 0, _ => none
  | _, _ + 1, [] => none
  | i, f + 1, c :: r => if c.toNat < 128 then some i else lastF (i + 1) f r
def last (s : List UInt8) (most : Nat) : Option Nat := lastF 0 most s
def value : List UInt8 → Nat
  | [] => 0
  | c :: r => value r * 128 + c.toNat % 128

theorem lastF_some (f : Nat) : ∀ i s k, lastF i f s = some k → i ≤ k ∧ k < i + f ∧ k - i < s.length ∧ (s.getD (k - i) 0).toNat < 128 := by
  induction f with
  | zero => intro i s k h; simp [lastF] at h
  | succ f ih =>
    intro i s k h
    cases s with
    | nil => simp [lastF] at h
    | cons c r =>
      simp only [lastF] at h
      split at h
      · simp at h; subst h; rename_i hc; simp [hc]
      · obtain ⟨h1, h2, h3, h4⟩ := ih _ _ _ h
        refine ⟨by omega, by omega, by simp; omega, ?_⟩
        rw [show k - i = (k - (i + 1)) + 1 by omega, List.getD_cons_succ]; exact h4

/-- takeF in the document's words -/
theorem takeF_last (f : Nat) : ∀ k acc s, k + f ≤ 10 →
    takeF f k acc s = match lastF k f s with
      | none => if f ≤ s.length then (0, 0, 2) else (0, 0, 3)
      | some j => if ((s.getD (j - k) 0).toNat = 0 ∧ 0 < j) ∨ (j = 9 ∧ 1 < (s.getD (j - k) 0).toNat) then (0, 0, 2) else (acc + value (s.take (j - k + 1)) * 128 ^ k, j + 1, 0) := by
  induction f with
  | zero => intro k acc s _; simp [takeF, lastF]
  | succ f ih =>
    intro k acc s hk
    cases s with
    | nil => simp [takeF, lastF]
    | cons c r =>
      have hc := c.toNat_lt
      simp only [takeF, lastF]
      by_cases h : 128 ≤ c.toNat
      · rw [if_pos h, if_neg (by omega), ih _ _ _ (by omega)]
        cases hl : lastF (k + 1) f r with
        | none => simp
        | some j =>
          obtain ⟨h1, h2, h3, _⟩ := lastF_some f _ _ _ hl
          have e : j - k = (j - (k + 1)) + 1 := by omega
          simp only [e, List.getD_cons_succ, List.take_succ_cons, value]
          split
          · rfl
          · refine Prod.ext ?_ rfl
            simp only
            rw [Nat.pow_succ, Nat.add_mul]
            generalize value (List.take (j - (k + 1) + 1) r) = v
            generalize c.toNat % 128 = d
            have : v * (128 ^ k * 128) = v * 128 * 128 ^ k := by rw [Nat.mul_comm (128 ^ k) 128, Nat.mul_assoc]
            omega
      · have hc2 : c.toNat < 128 := by omega
        rw [if_neg h]
        simp [value, hc2]
theorem take_last (lim : Nat) (hl : lim ≤ 10) (s : List UInt8) :
    take lim s = match last s lim with
      | none => if lim ≤ s.length then (0, 0, 2) else (0, 0, 3)
      | some j => if ((s.getD j 0).toNat = 0 ∧ 0 < j) ∨ (j = 9 ∧ 1 < (s.getD j 0).toNat) then (0, 0, 2) else (value (s.take (j + 1)), j + 1, 0) := by
  unfold take last
  rw [takeF_last lim 0 0 s (by omega)]
  cases lastF 0 lim s <;> simp

/-- numbers one behind the other -/
def puts (l : List Int) : List UInt8 := (l.map fun n => if n < 0 then [] else put n.toNat).flatten
def putI (n : Int) : List UInt8 := if n < 0 then [] else put n.toNat
/-- a number, and whether it is below 0, as one that is not -/
def zig (n : Int) : Nat := if 0 ≤ n then (2 * n).toNat else (-2 * n - 1).toNat
def zag (u : Nat) : Int := if u % 2 = 0 then (u / 2 : Nat) else -((u / 2 : Nat) : Int) - 1
theorem zag_zig (n : Int) : zag (zig n) = n := by unfold zag zig; split <;> split <;> omega
theorem zig_zag (u : Nat) : zig (zag u) = u := by unfold zag zig; split <;> split <;> omega
theorem zig_lt (n : Int) (h : -9223372036854775808 ≤ n ∧ n ≤ 9223372036854775807) : zig n < 18446744073709551616 := by unfold zig; split <;> omega
theorem zag_in (u : Nat) (h : u < 18446744073709551616) : -9223372036854775808 ≤ zag u ∧ zag u ≤ 9223372036854775807 := by unfold zag; split <;> omega
end Go.Proofs.YtcpmicinibfepaaGreatDoor.VariP

namespace Go.Proofs.YtcpmicinibfepaaGreatDoor.PackP
open VariP


abbrev Bs := List UInt8
/-- what is left, and the first error -/
abbrev St := Bs × Int

def text (s : Bs) : Bs := put s.length ++ s
def flag (b : Bool) : Bs := if b then [1] else [0]

def rNum (r : St) : Int × St :=
  if r.2 ≠ 0 then (0, r) else match take 9 r.1 with
    | (n, k, e) => if e ≠ 0 then (0, (r.1, e)) else ((n : Int), (r.1.drop k, 0))
def rSigned (r : St) : Int × St :=
  if r.2 ≠ 0 then (0, r) else match take 10 r.1 with
    | (n, k, e) => if e ≠ 0 then (0, (r.1, e)) else (zag n, (r.1.drop k, 0))
def rText (most : Int) (r : St) : Bs × St :=
  if r.2 ≠ 0 then ([], r) else match take 9 r.1 with
    | (n, k, e) => if e ≠ 0 then ([], (r.1, e)) else if most < n then ([], (r.1, 12)) else if (r.1.drop k).length < n then ([], (r.1, 3)) else ((r.1.drop k).take n, ((r.1.drop k).drop n, 0))
def rFlag (r : St) : Bool × St :=
  if r.2 ≠ 0 then (false, r) else match r.1 with
    | [] => (false, (r.1, 3))
    | c :: l => if 1 < c.toNat then (false, (r.1, 2)) else (c.toNat == 1, (l, 0))
def rEnd (r : St) : Int := if r.2 = 0 ∧ r.1 ≠ [] then 2 else r.2

/-! with an error nothing is read -/
theorem rNum_err (r : St) (h : r.2 ≠ 0) : rNum r = (0, r) := by unfold rNum; rw [if_pos h]
theorem rSigned_err (r : St) (h : r.2 ≠ 0) : rSigned r = (0, r) := by unfold rSigned; rw [if_pos h]
theorem rText_err (m : Int) (r : St) (h : r.2 ≠ 0) : rText m r = ([], r) := by unfold rText; rw [if_pos h]
theorem rFlag_err (r : St) (h : r.2 ≠ 0) : rFlag r = (false, r) := by unfold rFlag; rw [if_pos h]

/-! what is written is read -/
theorem rNum_put (n : Int) (s : Bs) (h0 : 0 ≤ n) (h : n ≤ 9223372036854775807) : rNum (putI n ++ s, 0) = (n, (s, 0)) := by
  unfold rNum putI
  rw [if_neg (by simp), if_neg (by omega)]
  simp only [take_put9 n.toNat s (by omega)]
  simp [Int.toNat_of_nonneg h0]
theorem rSigned_put (n : Int) (s : Bs) (h : -9223372036854775808 ≤ n ∧ n ≤ 9223372036854775807) : rSigned (put (zig n) ++ s, 0) = (n, (s, 0)) := by
  unfold rSigned
  rw [if_neg (by simp)]
  simp only [take_put10 (zig n) s (zig_lt n h)]
  simp [zag_zig]
theorem rText_put (m : Int) (t s : Bs) (hm : (t.length : Int) ≤ m) (h : t.length < 9223372036854775808) : rText m (text t ++ s, 0) = (t, (s, 0)) := by
  unfold rText text
  rw [if_neg (by simp), List.append_assoc]
  simp only [take_put9 t.length (t ++ s) h]
  rw [if_neg (by simp), if_neg (by omega), if_neg (by simp)]
  simp
theorem rFlag_put (b : Bool) (s : Bs) : rFlag (flag b ++ s, 0) = (b, (s, 0)) := by cases b <;> rfl

/-! what is read was written -/
theorem rNum_back (l l' : Bs) (n : Int) (h : rNum (l, 0) = (n, (l', 0))) : l = putI n ++ l' ∧ 0 ≤ n ∧ n ≤ 9223372036854775807 := by
  unfold rNum at h
  rw [if_neg (by simp)] at h
  rcases ht : take 9 l with ⟨x, k, e⟩
  simp only [ht] at h
  split at h
  · rename_i he; simp only [Prod.mk.injEq] at h; exact absurd h.2.2 he
  · rename_i he
    have he0 : e = 0 := by simpa using he
    subst he0
    simp only [Prod.mk.injEq] at h
    obtain ⟨rfl, rfl, _⟩ := h
    obtain ⟨h1, h2, h3, h4, h5, h6⟩ := take_back 9 (.inl rfl) l x k ht
    have := h6 rfl
    refine ⟨?_, by omega, by omega⟩
    unfold putI; rw [if_neg (by omega), Int.toNat_natCast, ← h4, List.take_append_drop]
theorem rSigned_back (l l' : Bs) (n : Int) (h : rSigned (l, 0) = (n, (l', 0))) : l = put (zig n) ++ l' ∧ -9223372036854775808 ≤ n ∧ n ≤ 9223372036854775807 := by
  unfold rSigned at h
  rw [if_neg (by simp)] at h
  rcases ht : take 10 l with ⟨x, k, e⟩
  simp only [ht] at h
  split at h
  · rename_i he; simp only [Prod.mk.injEq] at h; exact absurd h.2.2 he
  · rename_i he
    have he0 : e = 0 := by simpa using he
    subst he0
    simp only [Prod.mk.injEq] at h
    obtain ⟨rfl, rfl, _⟩ := h
    obtain ⟨h1, h2, h3, h4, h5, _⟩ := take_back 10 (.inr rfl) l x k ht
    refine ⟨?_, zag_in x h5⟩
    rw [zig_zag, ← h4, List.take_append_drop]
theorem rText_back (m : Int) (l l' t : Bs) (h : rText m (l, 0) = (t, (l', 0))) : l = text t ++ l' ∧ (t.length : Int) ≤ m := by
  unfold rText at h
  rw [if_neg (by simp)] at h
  rcases ht : take 9 l with ⟨x, k, e⟩
  simp only [ht] at h
  split at h
  · rename_i he; simp only [Prod.mk.injEq] at h; exact absurd h.2.2 he
  · rename_i he
    have he0 : e = 0 := by simpa using he
    subst he0
    split at h
    · simp at h
    split at h
    · simp at h
    simp only [Prod.mk.injEq] at h
    obtain ⟨rfl, rfl, _⟩ := h
    obtain ⟨h1, h2, h3, h4, h5, h6⟩ := take_back 9 (.inl rfl) l x k ht
    have hl : ((l.drop k).take x).length = x := by rw [List.length_take]; omega
    refine ⟨?_, by rw [hl]; omega⟩
    unfold text
    rw [hl, ← h4, List.append_assoc, List.take_append_drop, List.take_append_drop]
theorem rFlag_back (l l' : Bs) (b : Bool) (h : rFlag (l, 0) = (b, (l', 0))) : l = flag b ++ l' := by
  unfold rFlag at h
  rw [if_neg (by simp)] at h
  cases l with
  | nil => simp at h
  | cons c r =>
    simp only at h
    split at h
    · simp at h
    · rename_i hc
      simp only [Prod.mk.injEq] at h
      obtain ⟨rfl, rfl, _⟩ := h
      have hc' : c.toNat = 0 ∨ c.toNat = 1 := by omega
      rcases hc' with h0 | h0
      · have : c = 0 := UInt8.toNat_inj.1 h0
        subst this; rfl
      · have : c = 1 := UInt8.toNat_inj.1 h0
        subst this; rfl

/-! cut off it is too short -/
theorem takeF_short (n : Nat) : ∀ f k acc u i, n ≤ f → i < (putF n u).length → takeF f k acc ((putF n u).take i) = (0, 0, 3) := by
  induction n with
  | zero => intro f k acc u i _ h; simp [putF] at h
  | succ n ih =>
    intro f k acc u i hf h
    obtain ⟨f, rfl⟩ : ∃ g, f = g + 1 := ⟨f - 1, by omega⟩
    unfold putF at h ⊢
    by_cases hu : u < 128
    · rw [if_pos hu] at h ⊢
      simp only [List.length_cons, List.length_nil] at h
      have : i = 0 := by omega
      subst this; rfl
    · rw [if_neg hu] at h ⊢
      cases i with
      | zero => rfl
      | succ i =>
        simp only [List.take_succ_cons, takeF]
        rw [toNat_lt _ (by omega), if_pos (by omega)]
        exact ih f _ _ _ i (by omega) (by simpa using h)
theorem take_short (lim u i : Nat) (hl : (lim = 9 ∧ u < 9223372036854775808) ∨ lim = 10) (h : i < (put u).length) : take lim ((put u).take i) = (0, 0, 3) := by
  rcases hl with ⟨rfl, hu⟩ | rfl
  · have e : put u = putF 9 u := putF_more 9 u (by omega) (by omega) 1
    rw [e] at h ⊢
    exact takeF_short 9 9 0 0 u i (by omega) h
  · exact takeF_short 10 10 0 0 u i (by omega) h
theorem rNum_short (n : Int) (i : Nat) (h0 : 0 ≤ n) (h : n ≤ 9223372036854775807) (hi : i < (putI n).length) : ∃ l, rNum ((putI n).take i, 0) = (0, (l, 3)) := by
  unfold putI at hi ⊢
  rw [if_neg (by omega)] at hi ⊢
  unfold rNum
  rw [if_neg (by simp)]
  simp only [take_short 9 n.toNat i (.inl ⟨rfl, by omega⟩) hi]
  rw [if_pos (by decide)]; exact ⟨_, rfl⟩
theorem rSigned_short (n : Int) (i : Nat) (hi : i < (put (zig n)).length) : ∃ l, rSigned ((put (zig n)).take i, 0) = (0, (l, 3)) := by
  unfold rSigned
  rw [if_neg (by simp)]
  simp only [take_short 10 (zig n) i (.inr rfl) hi]
  rw [if_pos (by decide)]; exact ⟨_, rfl⟩
theorem rText_short (m : Int) (t : Bs) (i : Nat) (hm : (t.length : Int) ≤ m) (h : t.length < 9223372036854775808) (hi : i < (text t).length) : ∃ l, rText m ((text t).take i, 0) = ([], (l, 3)) := by
  unfold rText
  rw [if_neg (by simp)]
  unfold text at hi ⊢
  by_cases h1 : i < (put t.length).length
  · have e : (put t.length ++ t).take i = (put t.length).take i := by rw [List.take_append_of_le_length (by omega)]
    rw [e]
    simp only [take_short 9 t.length i (.inl ⟨rfl, h⟩) h1]
    rw [if_pos (by decide)]; exact ⟨_, rfl⟩
  · have e : (put t.length ++ t).take i = put t.length ++ t.take (i - (put t.length).length) := by rw [List.take_append, List.take_of_length_le (by omega)]
    rw [e]
    simp only [take_put9 t.length _ h]
    rw [if_neg (by simp), if_neg (by omega), if_pos]
    · exact ⟨_, rfl⟩
    · rw [List.length_append] at hi
      simp; omega
theorem rFlag_short (b : Bool) (i : Nat) (hi : i < (flag b).length) : ∃ l, rFlag ((flag b).take i, 0) = (false, (l, 3)) := by
  have : i = 0 := by cases b <;> simp [flag] at hi <;> exact hi
  subst this
  exact ⟨[], rfl⟩

/-! parts: a kind, a number, a text -/
structure Part where
  kind : Int
  n : Int
  s : Bs
def Part.zero : Part := ⟨0, 0, []⟩
def pbytes (p : Part) : Bs :=
  if p.kind = 1 then putI p.n else if p.kind = 2 then put (zig p.n) else if p.kind = 3 then text p.s else if p.kind = 4 then flag (p.n == 1) else []
def pread (kind most : Int) (r : St) : Part × St :=
  if kind = 1 then (⟨1, (rNum r).1, []⟩, (rNum r).2) else if kind = 2 then (⟨2, (rSigned r).1, []⟩, (rSigned r).2)
  else if kind = 3 then (⟨3, 0, (rText most r).1⟩, (rText most r).2)
  else if kind = 4 then (⟨4, if (rFlag r).1 then 1 else 0, []⟩, (rFlag r).2) else (Part.zero, r)
def bytes (l : List Part) : Bs := (l.map pbytes).flatten
def Good (p : Part) : Prop := 1 ≤ p.kind ∧ p.kind ≤ 4 ∧ (p.kind = 1 → 0 ≤ p.n) ∧ -9223372036854775808 ≤ p.n ∧ p.n ≤ 9223372036854775807 ∧ p.s.length ≤ 300
def Alike (p q : Part) : Prop := (p.kind < 3 → q.n = p.n) ∧ (p.kind = 3 → q.s = p.s) ∧ (p.kind = 4 → (q.n = 1 ↔ p.n = 1))

theorem pread_put (p : Part) (h : Good p) (rest : Bs) : ∃ q, pread p.kind 300 (pbytes p ++ rest, 0) = (q, (rest, 0)) ∧ Alike p q := by
  obtain ⟨h1, h2, h3, h4, h5, h6⟩ := h
  have hk : p.kind = 1 ∨ p.kind = 2 ∨ p.kind = 3 ∨ p.kind = 4 := by omega
  unfold pread pbytes Alike
  rcases hk with h | h | h | h <;> simp only [h, if_true, if_false, (by decide : ¬ (2 : Int) = 1), (by decide : ¬ (3 : Int) = 1), (by decide : ¬ (4 : Int) = 1), (by decide : ¬ (3 : Int) = 2), (by decide : ¬ (4 : Int) = 2), (by decide : ¬ (4 : Int) = 3)]
  · rw [rNum_put p.n rest (h3 h) h5]; exact ⟨_, rfl, by simp⟩
  · rw [rSigned_put p.n rest ⟨h4, h5⟩]; exact ⟨_, rfl, by simp⟩
  · rw [rText_put 300 p.s rest (by omega) (by omega)]; exact ⟨_, rfl, by simp⟩
  · rw [rFlag_put]; refine ⟨_, rfl, by simp, by simp, ?_⟩
    intro _
    by_cases hn : p.n = 1 <;> simp [hn]
theorem pbytes_pos (p : Part) (h : Good p) : 1 ≤ (pbytes p).length := by
  obtain ⟨h1, h2, h3, _⟩ := h
  have hk : p.kind = 1 ∨ p.kind = 2 ∨ p.kind = 3 ∨ p.kind = 4 := by omega
  unfold pbytes
  rcases hk with h | h | h | h <;> simp only [h, if_true, if_false, (by decide : ¬ (2 : Int) = 1), (by decide : ¬ (3 : Int) = 1), (by decide : ¬ (4 : Int) = 1), (by decide : ¬ (3 : Int) = 2), (by decide : ¬ (4 : Int) = 2), (by decide : ¬ (4 : Int) = 3)]
  · unfold putI; have := h3 h; rw [if_neg (by omega)]; exact put_pos _
  · exact put_pos _
  · unfold text; have := put_pos p.s.length; rw [List.length_append]; omega
  · cases (p.n == 1) <;> simp [flag]
theorem bytes_len (l : List Part) (h : ∀ p ∈ l, Good p) : l.length ≤ (bytes l).length := by
  induction l with
  | nil => simp
  | cons p l ih =>
    have := pbytes_pos p (h p (by simp))
    have := ih (fun q hq => h q (by simp [hq]))
    simp only [bytes, List.map_cons, List.flatten_cons, List.length_append, List.length_cons] at *
    omega
/-- the state behind some parts -/
def preads (most : Int) : List Part → St → St
  | [], r => r
  | p :: l, r => preads most l (pread p.kind most r).2
theorem pread_err (k m : Int) (r : St) (h : r.2 ≠ 0) : (pread k m r).2 = r := by
  unfold pread
  rw [rNum_err r h, rSigned_err r h, rText_err m r h, rFlag_err r h]
  split
  · rfl
  split
  · rfl
  split
  · rfl
  split <;> rfl
theorem preads_err (m : Int) (l : List Part) : ∀ r : St, r.2 ≠ 0 → preads m l r = r := by
  induction l with
  | nil => intro r _; rfl
  | cons p l ih => intro r h; simp only [preads]; rw [pread_err _ _ _ h]; exact ih r h
theorem preads_put (l : List Part) (h : ∀ p ∈ l, Good p) : ∀ rest, preads 300 l (bytes l ++ rest, 0) = (rest, 0) := by
  induction l with
  | nil => intro rest; simp [preads, bytes]
  | cons p l ih =>
    intro rest
    have e : bytes (p :: l) = pbytes p ++ bytes l := rfl
    obtain ⟨q, hq, _⟩ := pread_put p (h p (by simp)) (bytes l ++ rest)
    rw [e, List.append_assoc]
    simp only [preads]
    rw [hq]
    exact ih (fun q hq => h q (by simp [hq])) rest
theorem pread_short (p : Part) (h : Good p) (i : Nat) (hi : i < (pbytes p).length) : ∃ l, (pread p.kind 300 ((pbytes p).take i, 0)).2 = (l, 3) := by
  obtain ⟨h1, h2, h3, h4, h5, h6⟩ := h
  have hk : p.kind = 1 ∨ p.kind = 2 ∨ p.kind = 3 ∨ p.kind = 4 := by omega
  unfold pread
  unfold pbytes at hi ⊢
  rcases hk with h | h | h | h <;> simp only [h, if_true, if_false, (by decide : ¬ (2 : Int) = 1), (by decide : ¬ (3 : Int) = 1), (by decide : ¬ (4 : Int) = 1), (by decide : ¬ (3 : Int) = 2), (by decide : ¬ (4 : Int) = 2), (by decide : ¬ (4 : Int) = 3)] at hi ⊢
  · obtain ⟨l, hl⟩ := rNum_short p.n i (h3 h) h5 hi; rw [hl]; exact ⟨l, rfl⟩
  · obtain ⟨l, hl⟩ := rSigned_short p.n i hi; rw [hl]; exact ⟨l, rfl⟩
  · obtain ⟨l, hl⟩ := rText_short 300 p.s i (by omega) (by omega) hi; rw [hl]; exact ⟨l, rfl⟩
  · obtain ⟨l, hl⟩ := rFlag_short _ i hi; rw [hl]; exact ⟨l, rfl⟩
theorem preads_short (l : List Part) (h : ∀ p ∈ l, Good p) : ∀ i, i < (bytes l).length → ∃ r, preads 300 l ((bytes l).take i, 0) = (r, 3) := by
  induction l with
  | nil => intro i hi; simp [bytes] at hi
  | cons p l ih =>
    intro i hi
    have e : bytes (p :: l) = pbytes p ++ bytes l := rfl
    rw [e] at hi ⊢
    simp only [preads]
    by_cases h1 : i < (pbytes p).length
    · rw [List.take_append_of_le_length (by omega)]
      obtain ⟨r, hr⟩ := pread_short p (h p (by simp)) i h1
      rw [hr]
      exact ⟨r, preads_err _ _ _ (by simp)⟩
    · rw [List.take_append, List.take_of_length_le (by omega)]
      obtain ⟨q, hq, _⟩ := pread_put p (h p (by simp)) ((bytes l).take (i - (pbytes p).length))
      rw [hq]
      rw [List.length_append] at hi
      exact ih (fun q hq => h q (by simp [hq])) _ (by omega)
end Go.Proofs.YtcpmicinibfepaaGreatDoor.PackP

namespace Go.Proofs.YtcpmicinibfepaaGreatDoor.CodeP
open VariP PackP


/-- a record -/
structure Sp where
  tr : Int
  id : Int
  pa : Int
  rv : Int
  sv : Bs
  op : Bs
  st : Int
  du : Int
  gn : Bool
deriving DecidableEq
def Sp.zero : Sp := ⟨0, 0, 0, 0, [], [], 0, 0, false⟩
def I64 (n : Int) : Prop := -9223372036854775808 ≤ n ∧ n ≤ 9223372036854775807
def Sp.Ok (x : Sp) : Prop := I64 x.tr ∧ I64 x.id ∧ I64 x.pa ∧ I64 x.rv ∧ I64 x.st ∧ I64 x.du
def named (s : Bs) : Bool := s.all (fun c => 33 ≤ c.toNat && c.toNat ≤ 126) && 1 ≤ s.length && s.length ≤ 24
/-- may a record be? (0: yes; 1: no) -/
def mayB (x : Sp) : Bool := 1 ≤ x.tr && 1 ≤ x.id && 0 ≤ x.pa && 0 ≤ x.rv && named x.sv && named x.op && -4611686018427387904 ≤ x.st && x.st ≤ 4611686018427387903
def may (x : Sp) : Int := if mayB x then 0 else 1
def enc (x : Sp) : Bs := putI x.tr ++ (putI x.id ++ (putI x.pa ++ (putI x.rv ++ (text x.sv ++ (text x.op ++ (put (zig x.st) ++ (put (zig x.du) ++ flag x.gn)))))))
def putS (x : Sp) : Bs × Int := if mayB x then (enc x, 0) else ([], 1)
/-- a record is read: what, and what is left -/
def rSp (r : St) : Sp × St :=
  let a := rNum r
  let b := rNum a.2
  let c := rNum b.2
  let d := rNum c.2
  let e := rText 24 d.2
  let f := rText 24 e.2
  let g := rSigned f.2
  let h := rSigned g.2
  let i := rFlag h.2
  (if i.2.2 ≠ 0 then Sp.zero else ⟨a.1, b.1, c.1, d.1, e.1, f.1, g.1, h.1, i.1⟩, i.2)
def takeS (s : Bs) : Sp × Int :=
  if rEnd (rSp (s, 0)).2 ≠ 0 then (Sp.zero, rEnd (rSp (s, 0)).2) else if mayB (rSp (s, 0)).1 then ((rSp (s, 0)).1, 0) else (Sp.zero, 1)

theorem rSp_err (r : St) (h : r.2 ≠ 0) : rSp r = (Sp.zero, r) := by
  unfold rSp
  simp only [rNum_err r h, rText_err 24 r h, rSigned_err r h, rFlag_err r h]
  rw [if_pos h]

/-- fit for being written so that it is read -/
def Fit (x : Sp) : Prop := 0 ≤ x.tr ∧ 0 ≤ x.id ∧ 0 ≤ x.pa ∧ 0 ≤ x.rv ∧ x.sv.length ≤ 24 ∧ x.op.length ≤ 24 ∧ x.Ok
theorem may_fit (x : Sp) (hx : x.Ok) (h : mayB x = true) : Fit x := by
  simp only [mayB, named, Bool.and_eq_true, decide_eq_true_eq] at h
  obtain ⟨⟨⟨⟨⟨⟨⟨h1, h2⟩, h3⟩, h4⟩, h5⟩, h6⟩, _⟩, _⟩ := h
  exact ⟨by omega, by omega, h3, h4, h5.2, h6.2, hx⟩
theorem rSp_enc (x : Sp) (h : Fit x) (s : Bs) : rSp (enc x ++ s, 0) = (x, (s, 0)) := by
  obtain ⟨h1, h2, h3, h4, h5, h6, ⟨k1, k2, k3, k4, k5, k6⟩⟩ := h
  unfold rSp enc
  simp only [List.append_assoc]
  simp only [rNum_put x.tr _ h1 k1.2, rNum_put x.id _ h2 k2.2, rNum_put x.pa _ h3 k3.2, rNum_put x.rv _ h4 k4.2, rText_put 24 x.sv _ (by omega) (by omega), rText_put 24 x.op _ (by omega) (by omega),
    rSigned_put x.st _ k5, rSigned_put x.du _ k6, rFlag_put]
  rw [if_neg (by simp)]
theorem rNum_0 (r s : St) (n : Int) (h : rNum r = (n, s)) (hs : s.2 = 0) : r.2 = 0 := by
  rcases Decidable.em (r.2 = 0) with h0 | h0
  · exact h0
  · rw [rNum_err r h0] at h; cases h; exact hs
theorem rSigned_0 (r s : St) (n : Int) (h : rSigned r = (n, s)) (hs : s.2 = 0) : r.2 = 0 := by
  rcases Decidable.em (r.2 = 0) with h0 | h0
  · exact h0
  · rw [rSigned_err r h0] at h; cases h; exact hs
theorem rText_0 (m : Int) (r s : St) (n : Bs) (h : rText m r = (n, s)) (hs : s.2 = 0) : r.2 = 0 := by
  rcases Decidable.em (r.2 = 0) with h0 | h0
  · exact h0
  · rw [rText_err m r h0] at h; cases h; exact hs
theorem rFlag_0 (r s : St) (n : Bool) (h : rFlag r = (n, s)) (hs : s.2 = 0) : r.2 = 0 := by
  rcases Decidable.em (r.2 = 0) with h0 | h0
  · exact h0
  · rw [rFlag_err r h0] at h; cases h; exact hs
theorem st_eq (r : St) (h : r.2 = 0) : r = (r.1, 0) := by cases r; simp at h; rw [h]
theorem rSp_back (l l' : Bs) (x : Sp) (h : rSp (l, 0) = (x, (l', 0))) : l = enc x ++ l' ∧ Fit x := by
  unfold rSp at h
  rcases ea : rNum (l, 0) with ⟨a, ra⟩
  rw [ea] at h; simp only at h
  rcases eb : rNum ra with ⟨b, rb⟩
  rw [eb] at h; simp only at h
  rcases ec : rNum rb with ⟨c, rc⟩
  rw [ec] at h; simp only at h
  rcases ed : rNum rc with ⟨d, rd⟩
  rw [ed] at h; simp only at h
  rcases ee : rText 24 rd with ⟨e, re⟩
  rw [ee] at h; simp only at h
  rcases ef : rText 24 re with ⟨f, rf⟩
  rw [ef] at h; simp only at h
  rcases eg : rSigned rf with ⟨g, rg⟩
  rw [eg] at h; simp only at h
  rcases eh : rSigned rg with ⟨hh, rh⟩
  rw [eh] at h; simp only at h
  rcases ei : rFlag rh with ⟨i, ri⟩
  rw [ei] at h; simp only at h
  simp only [Prod.mk.injEq] at h
  obtain ⟨hx, hr⟩ := h
  subst hr
  rw [if_neg (by simp)] at hx
  have zh := rFlag_0 _ _ _ ei rfl
  have zg := rSigned_0 _ _ _ eh zh
  have zf := rSigned_0 _ _ _ eg zg
  have ze := rText_0 _ _ _ _ ef zf
  have zd := rText_0 _ _ _ _ ee ze
  have zc := rNum_0 _ _ _ ed zd
  have zb := rNum_0 _ _ _ ec zc
  have za := rNum_0 _ _ _ eb zb
  rw [st_eq ra za] at ea eb
  rw [st_eq rb zb] at eb ec
  rw [st_eq rc zc] at ec ed
  rw [st_eq rd zd] at ed ee
  rw [st_eq re ze] at ee ef
  rw [st_eq rf zf] at ef eg
  rw [st_eq rg zg] at eg eh
  rw [st_eq rh zh] at eh ei
  obtain ⟨b1, c1, c2⟩ := rNum_back _ _ _ ea
  obtain ⟨b2, c3, c4⟩ := rNum_back _ _ _ eb
  obtain ⟨b3, c5, c6⟩ := rNum_back _ _ _ ec
  obtain ⟨b4, c7, c8⟩ := rNum_back _ _ _ ed
  obtain ⟨b5, c9⟩ := rText_back _ _ _ _ ee
  obtain ⟨b6, c10⟩ := rText_back _ _ _ _ ef
  obtain ⟨b7, c11⟩ := rSigned_back _ _ _ eg
  obtain ⟨b8, c12⟩ := rSigned_back _ _ _ eh
  have b9 := rFlag_back _ _ _ ei
  subst hx
  have q1 : e.length ≤ 24 := by omega
  have q2 : f.length ≤ 24 := by omega
  have lo : ∀ n : Int, 0 ≤ n → -9223372036854775808 ≤ n := fun n hn => by omega
  refine ⟨?_, c1, c3, c5, c7, q1, q2, ⟨lo _ c1, c2⟩, ⟨lo _ c3, c4⟩, ⟨lo _ c5, c6⟩, ⟨lo _ c7, c8⟩, c11, c12⟩
  rw [b1, b2, b3, b4, b5, b6, b7, b8, b9]
  simp [enc]
theorem takeS_putS (x : Sp) (hx : x.Ok) (h : mayB x = true) : takeS (enc x) = (x, 0) := by
  have e := rSp_enc x (may_fit x hx h) []
  rw [List.append_nil] at e
  unfold takeS
  rw [e, if_neg (by simp [rEnd]), if_pos h]
theorem takeS_back (s : Bs) (x : Sp) (h : takeS s = (x, 0)) : s = enc x ∧ mayB x = true ∧ x.Ok := by
  unfold takeS at h
  split at h
  · rename_i he; simp only [Prod.mk.injEq] at h; exact absurd h.2 he
  · rename_i he
    split at h
    · rename_i hm
      rcases hr : rSp (s, 0) with ⟨y, l, e⟩
      rw [hr] at h he hm
      simp only [Prod.mk.injEq] at h
      obtain ⟨rfl, _⟩ := h
      have he' : rEnd (l, e) = 0 := Decidable.of_not_not he
      unfold rEnd at he'
      split at he'
      · simp at he'
      · rename_i hn
        simp only at he' hn
        subst he'
        have hl : l = [] := by
          rcases Decidable.em (l = []) with h0 | h0
          · exact h0
          · exact absurd ⟨rfl, h0⟩ hn
        subst hl
        obtain ⟨h1, h2⟩ := rSp_back _ _ _ hr
        exact ⟨by simpa using h1, hm, h2.2.2.2.2.2.2⟩
    · simp at h
theorem takeS_err (s : Bs) (h : (takeS s).2 ≠ 0) : (takeS s).1 = Sp.zero := by
  unfold takeS at h ⊢
  split
  · rfl
  · rename_i he
    rw [if_neg he] at h
    split
    · rename_i hm; rw [if_pos hm] at h; simp at h
    · rfl
theorem enc_inj (x y : Sp) (hx : Fit x) (hy : Fit y) (h : enc x = enc y) : x = y := by
  have e1 := rSp_enc x hx []
  have e2 := rSp_enc y hy []
  rw [h, e2] at e1
  exact (congrArg Prod.fst e1).symm
theorem enc_pos (x : Sp) : 1 ≤ (enc x).length := by
  unfold enc
  simp only [List.length_append]
  have := put_pos (zig x.st)
  omega
end Go.Proofs.YtcpmicinibfepaaGreatDoor.CodeP
