/- Plain mathematics of names (layer 8; no program in sight): decimal digits, a name's kind and number. -/
import Derived.Lib.ItoaNum
import Derived.Lib.Strings
namespace Go.Proofs.YtcpmicinibfepaaGreatDoor.NameP
open Go.Lib


abbrev Bs := List UInt8
def isDig (c : UInt8) : Bool := decide (48 ≤ c.toNat ∧ c.toNat ≤ 57)
def val (l : Bs) : Nat := l.foldl (fun n c => n * 10 + (c.toNat - 48)) 0
theorem val_snoc (l : Bs) (c : UInt8) : val (l ++ [c]) = val l * 10 + (c.toNat - 48) := by unfold val; rw [List.foldl_append]; rfl
/-- digits of a number above 0, as few as may be -/
def okN (l : Bs) : Bool := decide (l ≠ []) && (decide (l.length ≤ 18) && (decide (l.head? ≠ some 48) && l.all isDig))
theorem okN_iff {l : Bs} : okN l = true ↔ l ≠ [] ∧ l.length ≤ 18 ∧ l.head? ≠ some 48 ∧ ∀ c ∈ l, isDig c = true := by
  unfold okN
  simp only [Bool.and_eq_true, decide_eq_true_eq, List.all_eq_true]
theorem dig_toNat (k : Nat) (h : k < 10) : (UInt8.ofNat (48 + k)).toNat = 48 + k := by
  rw [UInt8.toNat_ofNat']
  omega
theorem dig_back {c : UInt8} (h : isDig c = true) : UInt8.ofNat (48 + (c.toNat - 48)) = c := by
  have : 48 ≤ c.toNat ∧ c.toNat ≤ 57 := by unfold isDig at h; simpa using h
  rw [show 48 + (c.toNat - 48) = c.toNat by omega, UInt8.ofNat_toNat]
theorem snoc_ind {α : Type} {p : List α → Prop} (h0 : p []) (h1 : ∀ l x, p l → p (l ++ [x])) (l : List α) : p l := by
  have : ∀ n (l : List α), l.length = n → p l := by
    intro n
    induction n with
    | zero => intro l hl; rw [List.eq_nil_of_length_eq_zero hl]; exact h0
    | succ n ih =>
      intro l hl
      have hne : l ≠ [] := by rintro rfl; simp at hl
      rw [← List.dropLast_concat_getLast hne]
      exact h1 _ _ (ih _ (by rw [List.length_dropLast]; omega))
  exact this _ l rfl
theorem head_app {l : Bs} (h : l ≠ []) (r : Bs) : (l ++ r).head? = l.head? := by
  cases l with
  | nil => exact absurd rfl h
  | cons x l => rfl
theorem val_dec (n : Nat) : val (decDigits n) = n := by
  induction n using Nat.strongRecOn with
  | _ n ih =>
    rw [decDigits]
    split
    · rename_i h
      show val ([] ++ [UInt8.ofNat (48 + n)]) = n
      rw [val_snoc, dig_toNat n h]
      simp [val]
    · rename_i h
      rw [val_snoc, ih (n / 10) (by omega), dig_toNat _ (by omega)]
      omega
theorem dec_dig (n : Nat) : ∀ c ∈ decDigits n, isDig c = true := by
  induction n using Nat.strongRecOn with
  | _ n ih =>
    rw [decDigits]
    split
    · rename_i h
      intro c hc
      rw [List.mem_singleton.1 hc]
      unfold isDig
      rw [dig_toNat n h]
      simp; omega
    · rename_i h
      intro c hc
      rcases List.mem_append.1 hc with hc | hc
      · exact ih (n / 10) (by omega) c hc
      · rw [List.mem_singleton.1 hc]
        unfold isDig
        rw [dig_toNat _ (by omega)]
        simp; omega
theorem dec_ne (n : Nat) : decDigits n ≠ [] := by
  rw [decDigits]
  split <;> simp
theorem dec_head (n : Nat) (h : 1 ≤ n) : (decDigits n).head? ≠ some 48 := by
  induction n using Nat.strongRecOn with
  | _ n ih =>
    rw [decDigits]
    split
    · rename_i h9
      intro e
      have e2 : UInt8.ofNat (48 + n) = 48 := by simpa using e
      have := congrArg UInt8.toNat e2
      rw [dig_toNat n h9] at this
      have h48 : (48 : UInt8).toNat = 48 := rfl
      omega
    · rename_i h9
      rw [head_app (dec_ne _)]
      exact ih (n / 10) (by omega) (by omega)
theorem nDigits_le (n k : Nat) : nDigits n ≤ k + 1 ↔ n < 10 ^ (k + 1) := by
  induction k generalizing n with
  | zero =>
    rw [nDigits]
    split
    · rename_i h; simp; omega
    · rename_i h
      have : 1 ≤ nDigits (n / 10) := by rw [nDigits]; split <;> omega
      simp; omega
  | succ k ih =>
    rw [nDigits]
    split
    · rename_i h
      have : 10 ≤ 10 ^ (k + 1 + 1) := by
        have := Nat.pow_le_pow_right (show 0 < 10 by omega) (show 1 ≤ k + 1 + 1 by omega)
        simpa using this
      omega
    · rename_i h
      have := ih (n / 10)
      rw [Nat.pow_succ]
      omega
theorem dec_len (n : Nat) : (decDigits n).length ≤ 18 ↔ n ≤ 999999999999999999 := by
  rw [decDigits_length]
  have := nDigits_le n 17
  rw [show (17 : Nat) + 1 = 18 by rfl] at this
  rw [this]
  have h : (10 : Nat) ^ 18 = 1000000000000000000 := by decide
  omega
theorem okN_dec {n : Nat} (h : 1 ≤ n) (h2 : n ≤ 999999999999999999) : okN (decDigits n) = true := okN_iff.2 ⟨dec_ne n, (dec_len n).2 h2, dec_head n h, dec_dig n⟩
theorem val_pos {l : Bs} (hne : l ≠ []) (hh : l.head? ≠ some 48) (hd : ∀ c ∈ l, isDig c = true) : 1 ≤ val l := by
  induction l using snoc_ind with
  | h0 => exact absurd rfl hne
  | h1 l x ih =>
    rw [val_snoc]
    by_cases hl : l = []
    · subst hl
      have hx := hd x (by simp)
      have : x ≠ 48 := fun e => hh (by simp [e])
      have h48 : x.toNat ≠ 48 := fun e => this (by rw [← UInt8.ofNat_toNat (x := x), e]; rfl)
      unfold isDig at hx
      simp at hx
      omega
    · have := ih hl (by rwa [head_app hl] at hh) (fun c hc => hd c (List.mem_append_left _ hc))
      omega
theorem dec_val {l : Bs} (hne : l ≠ []) (hh : l.head? ≠ some 48) (hd : ∀ c ∈ l, isDig c = true) : decDigits (val l) = l := by
  induction l using snoc_ind with
  | h0 => exact absurd rfl hne
  | h1 l x ih =>
    have hx := hd x (by simp)
    have hx2 : 48 ≤ x.toNat ∧ x.toNat ≤ 57 := by unfold isDig at hx; simpa using hx
    rw [val_snoc]
    by_cases hl : l = []
    · subst hl
      have e : val [] * 10 + (x.toNat - 48) = x.toNat - 48 := by simp [val]
      rw [e, decDigits_one (by omega), dig_back hx]
      rfl
    · have hh' : l.head? ≠ some 48 := by rwa [head_app hl] at hh
      have hd' : ∀ c ∈ l, isDig c = true := fun c hc => hd c (List.mem_append_left _ hc)
      have hp := val_pos hl hh' hd'
      rw [decDigits, dif_neg (by omega)]
      have e1 : (val l * 10 + (x.toNat - 48)) / 10 = val l := by omega
      have e2 : (val l * 10 + (x.toNat - 48)) % 10 = x.toNat - 48 := by omega
      rw [e1, e2, ih hl hh' hd', dig_back hx]
theorem okN_val {l : Bs} (h : okN l = true) : 1 ≤ val l ∧ val l ≤ 999999999999999999 ∧ decDigits (val l) = l := by
  obtain ⟨h1, h2, h3, h4⟩ := okN_iff.1 h
  have hd := dec_val h1 h3 h4
  exact ⟨val_pos h1 h3 h4, (dec_len _).1 (by rw [hd]; exact h2), hd⟩
/-- what is put together of digits alone is those digits' number -/
theorem okN_of_dec {l : Bs} {n : Nat} (hn : 1 ≤ n) (hl : l.length ≤ 18) (h : decDigits n = l) : okN l = true ∧ val l = n := by
  subst h
  exact ⟨okN_dec hn ((dec_len n).1 hl), val_dec n⟩
def logS : Bs := [108, 111, 103, 46]
def imgS : Bs := [105, 109, 97, 103, 101, 46]
def mainS : Bs := [109, 97, 105, 110]
def freshS : Bs := [109, 97, 105, 110, 46, 110, 101, 119]
def digS (n : Int) : Bs := if 1 ≤ n ∧ n ≤ 999999999999999999 then decDigits n.toNat else []
def withS (first : Bs) (n : Int) : Bs := if digS n = [] then [] else first ++ digS n
def ofS (kind n : Int) : Bs := if kind = 1 then withS logS n else if kind = 2 then withS imgS n else if kind = 3 then mainS else if kind = 4 then freshS else []
def numS (first s : Bs) : Option Nat := if hasPrefix s first = true ∧ okN (s.drop first.length) = true then some (val (s.drop first.length)) else none
def kindS (s : Bs) : Int × Int := if s = mainS then (3, 0) else if s = freshS then (4, 0) else match numS logS s with
  | some n => (1, (n : Int))
  | none => match numS imgS s with
    | some n => (2, (n : Int))
    | none => (0, 0)
theorem digS_ne {n : Int} : digS n ≠ [] ↔ 1 ≤ n ∧ n ≤ 999999999999999999 := by
  unfold digS
  split
  · rename_i h; exact ⟨fun _ => h, fun _ => dec_ne _⟩
  · rename_i h; exact ⟨fun h' => absurd rfl h', fun h' => absurd h' h⟩
theorem digS_len (n : Int) : (digS n).length ≤ 18 := by
  unfold digS
  split
  · rename_i h; exact (dec_len _).2 (by omega)
  · simp
theorem numS_with {first : Bs} {n : Int} (h : digS n ≠ []) : numS first (first ++ digS n) = some n.toNat := by
  have hr := digS_ne.1 h
  have e : digS n = decDigits n.toNat := by unfold digS; rw [if_pos hr]
  have hp : hasPrefix (first ++ digS n) first = true := by unfold hasPrefix; simp
  unfold numS
  rw [List.drop_left, e, if_pos ⟨by rw [← e]; exact hp, okN_dec (by omega) (by omega)⟩, val_dec]
theorem numS_other (d : Bs) : numS logS (imgS ++ d) = none := by
  unfold numS
  rw [if_neg]
  rintro ⟨h, _⟩
  simp [hasPrefix, logS, imgS, List.isPrefixOf] at h
/-- the kind and the number of a name -/
theorem kind_of (kind n : Int) (h : ofS kind n ≠ []) : kindS (ofS kind n) = (kind, if kind = 1 ∨ kind = 2 then n else 0) := by
  unfold ofS at h ⊢
  by_cases h1 : kind = 1
  · subst h1
    rw [if_pos rfl] at h ⊢
    unfold withS at h ⊢
    by_cases hd : digS n = []
    · rw [if_pos hd] at h; exact absurd rfl h
    · rw [if_neg hd]
      unfold kindS
      have e1 : logS ++ digS n ≠ mainS := by intro e; have := congrArg List.head? e; simp [logS, mainS] at this
      have e2 : logS ++ digS n ≠ freshS := by intro e; have := congrArg List.head? e; simp [logS, freshS] at this
      rw [if_neg e1, if_neg e2, numS_with hd]
      have := digS_ne.1 hd
      simp
      omega
  · rw [if_neg h1] at h ⊢
    by_cases h2 : kind = 2
    · subst h2
      rw [if_pos rfl] at h ⊢
      unfold withS at h ⊢
      by_cases hd : digS n = []
      · rw [if_pos hd] at h; exact absurd rfl h
      · rw [if_neg hd]
        unfold kindS
        have e1 : imgS ++ digS n ≠ mainS := by intro e; have := congrArg List.head? e; simp [imgS, mainS] at this
        have e2 : imgS ++ digS n ≠ freshS := by intro e; have := congrArg List.head? e; simp [imgS, freshS] at this
        rw [if_neg e1, if_neg e2, numS_other, numS_with hd]
        have := digS_ne.1 hd
        simp
        omega
    · rw [if_neg h2] at h ⊢
      by_cases h3 : kind = 3
      · subst h3
        rw [if_pos rfl]
        unfold kindS
        rw [if_pos rfl]
        simp
      · rw [if_neg h3] at h ⊢
        by_cases h4 : kind = 4
        · subst h4
          rw [if_pos rfl]
          unfold kindS
          rw [if_neg (by decide), if_pos rfl]
          simp
        · rw [if_neg h4] at h
          exact absurd rfl h
theorem numS_some {first s : Bs} {n : Nat} (h : numS first s = some n) : s = first ++ digS (n : Int) ∧ digS (n : Int) ≠ [] := by
  unfold numS at h
  split at h
  · rename_i hc
    obtain ⟨hp, ho⟩ := hc
    obtain ⟨v1, v2, v3⟩ := okN_val ho
    obtain rfl := Option.some.inj h
    have e : digS ((val (s.drop first.length) : Nat) : Int) = s.drop first.length := by
      unfold digS
      rw [if_pos ⟨by omega, by omega⟩, Int.toNat_natCast, v3]
    rw [e]
    refine ⟨?_, (okN_iff.1 ho).1⟩
    unfold hasPrefix at hp
    obtain ⟨t, rfl⟩ := List.isPrefixOf_iff_prefix.1 hp
    rw [List.drop_left]
  · cases h
/-- the name of a kind and a number is the name -/
theorem of_kind (s : Bs) (h : (kindS s).1 ≠ 0) : ofS (kindS s).1 (kindS s).2 = s := by
  unfold kindS at h ⊢
  split
  · rename_i e; rw [e]; rfl
  · split
    · rename_i e; rw [e]; rfl
    · split
      · rename_i n hn
        obtain ⟨e, hd⟩ := numS_some hn
        show ofS 1 n = s
        unfold ofS withS
        rw [if_pos rfl, if_neg hd, e]
      · split
        · rename_i n hn
          obtain ⟨e, hd⟩ := numS_some hn
          show ofS 2 n = s
          unfold ofS withS
          rw [if_neg (by decide), if_pos rfl, if_neg hd, e]
        · rename_i a1 a2 _ a3 _ a4
          simp [a1, a2, a3, a4] at h
theorem kind_range (s : Bs) : 0 ≤ (kindS s).1 ∧ (kindS s).1 ≤ 4 := by
  unfold kindS
  split
  · decide
  · split
    · decide
    · split
      · simp
      · split <;> simp
end Go.Proofs.YtcpmicinibfepaaGreatDoor.NameP
