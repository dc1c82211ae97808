/- Plain mathematics of parts that are written and read one behind the other (no program in sight). -/
import Derived.Test.YtmkaijjakcjflaaVariP
namespace Go.Proofs.Ytmkaijjakcjflaa.PackP
open VariP

abbrev Bs := List UInt8
/-- what is left, and the first error -/
abbrev St := Bs × Int

def text (s : Bs) : Bs := put s.length ++ s
def flag (b : Bool) : Bs := if b then [1] else [0]

def rNum (r : St) : Int × St :=
  if r.2 ≠ 0 then (0, r) else match take 9 r.1 with
    | (n, k, e) => if e ≠ 0 then (0, (r.1, e)) else ((n : Int), (r.1.drop k, 0))
def rSigned (r : St) : Int × St :=
  if r.2 ≠ 0 then (0, r) else match take 10 r.1 with
    | (n, k, e) => if e ≠ 0 then (0, (r.1, e)) else (zag n, (r.1.drop k, 0))
def rText (most : Int) (r : St) : Bs × St :=
  if r.2 ≠ 0 then ([], r) else match take 9 r.1 with
    | (n, k, e) => if e ≠ 0 then ([], (r.1, e)) else if most < n then ([], (r.1, 12)) else if (r.1.drop k).length < n then ([], (r.1, 3)) else ((r.1.drop k).take n, ((r.1.drop k).drop n, 0))
def rFlag (r : St) : Bool × St :=
  if r.2 ≠ 0 then (false, r) else match r.1 with
    | [] => (false, (r.1, 3))
    | c :: l => if 1 < c.toNat then (false, (r.1, 2)) else (c.toNat == 1, (l, 0))
def rEnd (r : St) : Int := if r.2 = 0 ∧ r.1 ≠ [] then 2 else r.2

/-! with an error nothing is read -/
theorem rNum_err (r : St) (h : r.2 ≠ 0) : rNum r = (0, r) := by unfold rNum; rw [if_pos h]
theorem rSigned_err (r : St) (h : r.2 ≠ 0) : rSigned r = (0, r) := by unfold rSigned; rw [if_pos h]
theorem rText_err (m : Int) (r : St) (h : r.2 ≠ 0) : rText m r = ([], r) := by unfold rText; rw [if_pos h]
theorem rFlag_err (r : St) (h : r.2 ≠ 0) : rFlag r = (false, r) := by unfold rFlag; rw [if_pos h]

/-! what is written is read -/
theorem rNum_put (n : Int) (s : Bs) (h0 : 0 ≤ n) (h : n ≤ 9223372036854775807) : rNum (putI n ++ s, 0) = (n, (s, 0)) := by
  unfold rNum putI
  rw [if_neg (by simp), if_neg (by omega)]
  simp only [take_put9 n.toNat s (by omega)]
  simp [Int.toNat_of_nonneg h0]
theorem rSigned_put (n : Int) (s : Bs) (h : -9223372036854775808 ≤ n ∧ n ≤ 9223372036854775807) : rSigned (put (zig n) ++ s, 0) = (n, (s, 0)) := by
  unfold rSigned
  rw [if_neg (by simp)]
  simp only [take_put10 (zig n) s (zig_lt n h)]
  simp [zag_zig]
theorem rText_put (m : Int) (t s : Bs) (hm : (t.length : Int) ≤ m) (h : t.length < 9223372036854775808) : rText m (text t ++ s, 0) = (t, (s, 0)) := by
  unfold rText text
  rw [if_neg (by simp), List.append_assoc]
  simp only [take_put9 t.length (t ++ s) h]
  rw [if_neg (by simp), if_neg (by omega), if_neg (by simp)]
  simp
theorem rFlag_put (b : Bool) (s : Bs) : rFlag (flag b ++ s, 0) = (b, (s, 0)) := by cases b <;> rfl

/-! what is read was written -/
theorem rNum_back (l l' : Bs) (n : Int) (h : rNum (l, 0) = (n, (l', 0))) : l = putI n ++ l' ∧ 0 ≤ n ∧ n ≤ 9223372036854775807 := by
  unfold rNum at h
  rw [if_neg (by simp)] at h
  rcases ht : take 9 l with ⟨x, k, e⟩
  simp only [ht] at h
  split at h
  · rename_i he; simp only [Prod.mk.injEq] at h; exact absurd h.2.2 he
  · rename_i he
    have he0 : e = 0 := by simpa using he
    subst he0
    simp only [Prod.mk.injEq] at h
    obtain ⟨rfl, rfl, _⟩ := h
    obtain ⟨h1, h2, h3, h4, h5, h6⟩ := take_back 9 (.inl rfl) l x k ht
    have := h6 rfl
    refine ⟨?_, by omega, by omega⟩
    unfold putI; rw [if_neg (by omega), Int.toNat_natCast, ← h4, List.take_append_drop]
theorem rSigned_back (l l' : Bs) (n : Int) (h : rSigned (l, 0) = (n, (l', 0))) : l = put (zig n) ++ l' ∧ -9223372036854775808 ≤ n ∧ n ≤ 9223372036854775807 := by
  unfold rSigned at h
  rw [if_neg (by simp)] at h
  rcases ht : take 10 l with ⟨x, k, e⟩
  simp only [ht] at h
  split at h
  · rename_i he; simp only [Prod.mk.injEq] at h; exact absurd h.2.2 he
  · rename_i he
    have he0 : e = 0 := by simpa using he
    subst he0
    simp only [Prod.mk.injEq] at h
    obtain ⟨rfl, rfl, _⟩ := h
    obtain ⟨h1, h2, h3, h4, h5, _⟩ := take_back 10 (.inr rfl) l x k ht
    refine ⟨?_, zag_in x h5⟩
    rw [zig_zag, ← h4, List.take_append_drop]
theorem rText_back (m : Int) (l l' t : Bs) (h : rText m (l, 0) = (t, (l', 0))) : l = text t ++ l' ∧ (t.length : Int) ≤ m := by
  unfold rText at h
  rw [if_neg (by simp)] at h
  rcases ht : take 9 l with ⟨x, k, e⟩
  simp only [ht] at h
  split at h
  · rename_i he; simp only [Prod.mk.injEq] at h; exact absurd h.2.2 he
  · rename_i he
    have he0 : e = 0 := by simpa using he
    subst he0
    split at h
    · simp at h
    split at h
    · simp at h
    simp only [Prod.mk.injEq] at h
    obtain ⟨rfl, rfl, _⟩ := h
    obtain ⟨h1, h2, h3, h4, h5, h6⟩ := take_back 9 (.inl rfl) l x k ht
    have hl : ((l.drop k).take x).length = x := by rw [List.length_take]; omega
    refine ⟨?_, by rw [hl]; omega⟩
    unfold text
    rw [hl, ← h4, List.append_assoc, List.take_append_drop, List.take_append_drop]
theorem rFlag_back (l l' : Bs) (b : Bool) (h : rFlag (l, 0) = (b, (l', 0))) : l = flag b ++ l' := by
  unfold rFlag at h
  rw [if_neg (by simp)] at h
  cases l with
  | nil => simp at h
  | cons c r =>
    simp only at h
    split at h
    · simp at h
    · rename_i hc
      simp only [Prod.mk.injEq] at h
      obtain ⟨rfl, rfl, _⟩ := h
      have hc' : c.toNat = 0 ∨ c.toNat = 1 := by omega
      rcases hc' with h0 | h0
      · have : c = 0 := UInt8.toNat_inj.1 h0
        subst this; rfl
      · have : c = 1 := UInt8.toNat_inj.1 h0
        subst this; rfl

/-! cut off it is too short -/
theorem takeF_short (n : Nat) : ∀ f k acc u i, n ≤ f → i < (putF n u).length → takeF f k acc ((putF n u).take i) = (0, 0, 3) := by
  induction n with
  | zero => intro f k acc u i _ h; simp [putF] at h
  | succ n ih =>
    intro f k acc u i hf h
    obtain ⟨f, rfl⟩ : ∃ g, f = g + 1 := ⟨f - 1, by omega⟩
    unfold putF at h ⊢
    by_cases hu : u < 128
    · rw [if_pos hu] at h ⊢
      simp only [List.length_cons, List.length_nil] at h
      have : i = 0 := by omega
      subst this; rfl
    · rw [if_neg hu] at h ⊢
      cases i with
      | zero => rfl
      | succ i =>
        simp only [List.take_succ_cons, takeF]
        rw [toNat_lt _ (by omega), if_pos (by omega)]
        exact ih f _ _ _ i (by omega) (by simpa using h)
theorem take_short (lim u i : Nat) (hl : (lim = 9 ∧ u < 9223372036854775808) ∨ lim = 10) (h : i < (put u).length) : take lim ((put u).take i) = (0, 0, 3) := by
  rcases hl with ⟨rfl, hu⟩ | rfl
  · have e : put u = putF 9 u := putF_more 9 u (by omega) (by omega) 1
    rw [e] at h ⊢
    exact takeF_short 9 9 0 0 u i (by omega) h
  · exact takeF_short 10 10 0 0 u i (by omega) h
theorem rNum_short (n : Int) (i : Nat) (h0 : 0 ≤ n) (h : n ≤ 9223372036854775807) (hi : i < (putI n).length) : ∃ l, rNum ((putI n).take i, 0) = (0, (l, 3)) := by
  unfold putI at hi ⊢
  rw [if_neg (by omega)] at hi ⊢
  unfold rNum
  rw [if_neg (by simp)]
  simp only [take_short 9 n.toNat i (.inl ⟨rfl, by omega⟩) hi]
  rw [if_pos (by decide)]; exact ⟨_, rfl⟩
theorem rSigned_short (n : Int) (i : Nat) (hi : i < (put (zig n)).length) : ∃ l, rSigned ((put (zig n)).take i, 0) = (0, (l, 3)) := by
  unfold rSigned
  rw [if_neg (by simp)]
  simp only [take_short 10 (zig n) i (.inr rfl) hi]
  rw [if_pos (by decide)]; exact ⟨_, rfl⟩
theorem rText_short (m : Int) (t : Bs) (i : Nat) (hm : (t.length : Int) ≤ m) (h : t.length < 9223372036854775808) (hi : i < (text t).length) : ∃ l, rText m ((text t).take i, 0) = ([], (l, 3)) := by
  unfold rText
  rw [if_neg (by simp)]
  unfold text at hi ⊢
  by_cases h1 : i < (put t.length).length
  · have e : (put t.length ++ t).take i = (put t.length).take i := by rw [List.take_append_of_le_length (by omega)]
    rw [e]
    simp only [take_short 9 t.length i (.inl ⟨rfl, h⟩) h1]
    rw [if_pos (by decide)]; exact ⟨_, rfl⟩
  · have e : (put t.length ++ t).take i = put t.length ++ t.take (i - (put t.length).length) := by rw [List.take_append, List.take_of_length_le (by omega)]
    rw [e]
    simp only [take_put9 t.length _ h]
    rw [if_neg (by simp), if_neg (by omega), if_pos]
    · exact ⟨_, rfl⟩
    · rw [List.length_append] at hi
      simp; omega
theorem rFlag_short (b : Bool) (i : Nat) (hi : i < (flag b).length) : ∃ l, rFlag ((flag b).take i, 0) = (false, (l, 3)) := by
  have : i = 0 := by cases b <;> simp [flag] at hi <;> exact hi
  subst this
  exact ⟨[], rfl⟩

/-! parts: a kind, a number, a text -/
structure Part where
  kind : Int
  n : Int
  s : Bs
def Part.zero : Part := ⟨0, 0, []⟩
def pbytes (p : Part) : Bs :=
  if p.kind = 1 then putI p.n else if p.kind = 2 then put (zig p.n) else if p.kind = 3 then text p.s else if p.kind = 4 then flag (p.n == 1) else []
def pread (kind most : Int) (r : St) : Part × St :=
  if kind = 1 then (⟨1, (rNum r).1, []⟩, (rNum r).2) else if kind = 2 then (⟨2, (rSigned r).1, []⟩, (rSigned r).2)
  else if kind = 3 then (⟨3, 0, (rText most r).1⟩, (rText most r).2)
  else if kind = 4 then (⟨4, if (rFlag r).1 then 1 else 0, []⟩, (rFlag r).2) else (Part.zero, r)
def bytes (l : List Part) : Bs := (l.map pbytes).flatten
def Good (p : Part) : Prop := 1 ≤ p.kind ∧ p.kind ≤ 4 ∧ (p.kind = 1 → 0 ≤ p.n) ∧ -9223372036854775808 ≤ p.n ∧ p.n ≤ 9223372036854775807 ∧ p.s.length ≤ 300
def Alike (p q : Part) : Prop := (p.kind < 3 → q.n = p.n) ∧ (p.kind = 3 → q.s = p.s) ∧ (p.kind = 4 → (q.n = 1 ↔ p.n = 1))

theorem pread_put (p : Part) (h : Good p) (rest : Bs) : ∃ q, pread p.kind 300 (pbytes p ++ rest, 0) = (q, (rest, 0)) ∧ Alike p q := by
  obtain ⟨h1, h2, h3, h4, h5, h6⟩ := h
  have hk : p.kind = 1 ∨ p.kind = 2 ∨ p.kind = 3 ∨ p.kind = 4 := by omega
  unfold pread pbytes Alike
  rcases hk with h | h | h | h <;> simp only [h, if_true, if_false, (by decide : ¬ (2 : Int) = 1), (by decide : ¬ (3 : Int) = 1), (by decide : ¬ (4 : Int) = 1), (by decide : ¬ (3 : Int) = 2), (by decide : ¬ (4 : Int) = 2), (by decide : ¬ (4 : Int) = 3)]
  · rw [rNum_put p.n rest (h3 h) h5]; exact ⟨_, rfl, by simp⟩
  · rw [rSigned_put p.n rest ⟨h4, h5⟩]; exact ⟨_, rfl, by simp⟩
  · rw [rText_put 300 p.s rest (by omega) (by omega)]; exact ⟨_, rfl, by simp⟩
  · rw [rFlag_put]; refine ⟨_, rfl, by simp, by simp, ?_⟩
    intro _
    by_cases hn : p.n = 1 <;> simp [hn]
theorem pbytes_pos (p : Part) (h : Good p) : 1 ≤ (pbytes p).length := by
  obtain ⟨h1, h2, h3, _⟩ := h
  have hk : p.kind = 1 ∨ p.kind = 2 ∨ p.kind = 3 ∨ p.kind = 4 := by omega
  unfold pbytes
  rcases hk with h | h | h | h <;> simp only [h, if_true, if_false, (by decide : ¬ (2 : Int) = 1), (by decide : ¬ (3 : Int) = 1), (by decide : ¬ (4 : Int) = 1), (by decide : ¬ (3 : Int) = 2), (by decide : ¬ (4 : Int) = 2), (by decide : ¬ (4 : Int) = 3)]
  · unfold putI; have := h3 h; rw [if_neg (by omega)]; exact put_pos _
  · exact put_pos _
  · unfold text; have := put_pos p.s.length; rw [List.length_append]; omega
  · cases (p.n == 1) <;> simp [flag]
theorem bytes_len (l : List Part) (h : ∀ p ∈ l, Good p) : l.length ≤ (bytes l).length := by
  induction l with
  | nil => simp
  | cons p l ih =>
    have := pbytes_pos p (h p (by simp))
    have := ih (fun q hq => h q (by simp [hq]))
    simp only [bytes, List.map_cons, List.flatten_cons, List.length_append, List.length_cons] at *
    omega
/-- the state behind some parts -/
def preads (most : Int) : List Part → St → St
  | [], r => r
  | p :: l, r => preads most l (pread p.kind most r).2
theorem pread_err (k m : Int) (r : St) (h : r.2 ≠ 0) : (pread k m r).2 = r := by
  unfold pread
  rw [rNum_err r h, rSigned_err r h, rText_err m r h, rFlag_err r h]
  split
  · rfl
  split
  · rfl
  split
  · rfl
  split <;> rfl
theorem preads_err (m : Int) (l : List Part) : ∀ r : St, r.2 ≠ 0 → preads m l r = r := by
  induction l with
  | nil => intro r _; rfl
  | cons p l ih => intro r h; simp only [preads]; rw [pread_err _ _ _ h]; exact ih r h
theorem preads_put (l : List Part) (h : ∀ p ∈ l, Good p) : ∀ rest, preads 300 l (bytes l ++ rest, 0) = (rest, 0) := by
  induction l with
  | nil => intro rest; simp [preads, bytes]
  | cons p l ih =>
    intro rest
    have e : bytes (p :: l) = pbytes p ++ bytes l := rfl
    obtain ⟨q, hq, _⟩ := pread_put p (h p (by simp)) (bytes l ++ rest)
    rw [e, List.append_assoc]
    simp only [preads]
    rw [hq]
    exact ih (fun q hq => h q (by simp [hq])) rest
theorem pread_short (p : Part) (h : Good p) (i : Nat) (hi : i < (pbytes p).length) : ∃ l, (pread p.kind 300 ((pbytes p).take i, 0)).2 = (l, 3) := by
  obtain ⟨h1, h2, h3, h4, h5, h6⟩ := h
  have hk : p.kind = 1 ∨ p.kind = 2 ∨ p.kind = 3 ∨ p.kind = 4 := by omega
  unfold pread
  unfold pbytes at hi ⊢
  rcases hk with h | h | h | h <;> simp only [h, if_true, if_false, (by decide : ¬ (2 : Int) = 1), (by decide : ¬ (3 : Int) = 1), (by decide : ¬ (4 : Int) = 1), (by decide : ¬ (3 : Int) = 2), (by decide : ¬ (4 : Int) = 2), (by decide : ¬ (4 : Int) = 3)] at hi ⊢
  · obtain ⟨l, hl⟩ := rNum_short p.n i (h3 h) h5 hi; rw [hl]; exact ⟨l, rfl⟩
  · obtain ⟨l, hl⟩ := rSigned_short p.n i hi; rw [hl]; exact ⟨l, rfl⟩
  · obtain ⟨l, hl⟩ := rText_short 300 p.s i (by omega) (by omega) hi; rw [hl]; exact ⟨l, rfl⟩
  · obtain ⟨l, hl⟩ := rFlag_short _ i hi; rw [hl]; exact ⟨l, rfl⟩
theorem preads_short (l : List Part) (h : ∀ p ∈ l, Good p) : ∀ i, i < (bytes l).length → ∃ r, preads 300 l ((bytes l).take i, 0) = (r, 3) := by
  induction l with
  | nil => intro i hi; simp [bytes] at hi
  | cons p l ih =>
    intro i hi
    have e : bytes (p :: l) = pbytes p ++ bytes l := rfl
    rw [e] at hi ⊢
    simp only [preads]
    by_cases h1 : i < (pbytes p).length
    · rw [List.take_append_of_le_length (by omega)]
      obtain ⟨r, hr⟩ := pread_short p (h p (by simp)) i h1
      rw [hr]
      exact ⟨r, preads_err _ _ _ (by simp)⟩
    · rw [List.take_append, List.take_of_length_le (by omega)]
      obtain ⟨q, hq, _⟩ := pread_put p (h p (by simp)) ((bytes l).take (i - (pbytes p).length))
      rw [hq]
      rw [List.length_append] at hi
      exact ih (fun q hq => h q (by simp [hq])) _ (by omega)
end Go.Proofs.Ytmkaijjakcjflaa.PackP
