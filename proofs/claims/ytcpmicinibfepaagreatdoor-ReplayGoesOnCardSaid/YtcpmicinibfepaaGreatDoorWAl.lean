/- Plain mathematics of ranks (no program in sight): which record is newer; the newest of some · Plain mathematics of a disk's files (no program in sight): they rise by their names; where a file is or belongs. -/
import Derived.Test.YtcpmicinibfepaaGreatDoorWAa
import Derived.Lib.Bytealg
namespace Go.Proofs.YtcpmicinibfepaaGreatDoor.RankP
open VariP PackP CodeP Go.Lib


/-! texts in order -/
theorem cmp_self (a : Bs) : compareBytes a a = 0 := by
  induction a with
  | nil => rfl
  | cons x a ih => unfold compareBytes; rw [if_neg (UInt8.lt_irrefl x), if_neg (UInt8.lt_irrefl x)]; exact ih
theorem cmp_vals (a : Bs) : ∀ b, compareBytes a b = -1 ∨ compareBytes a b = 0 ∨ compareBytes a b = 1 := by
  induction a with
  | nil => intro b; cases b <;> simp [compareBytes]
  | cons x a ih =>
    intro b
    cases b with
    | nil => simp [compareBytes]
    | cons y b =>
      unfold compareBytes
      split
      · simp
      split
      · simp
      exact ih b
theorem cmp_anti (a : Bs) : ∀ b, compareBytes b a = - compareBytes a b := by
  induction a with
  | nil => intro b; cases b <;> simp [compareBytes]
  | cons x a ih =>
    intro b
    cases b with
    | nil => simp [compareBytes]
    | cons y b =>
      unfold compareBytes
      by_cases h : x < y
      · rw [if_neg (UInt8.lt_asymm h), if_pos h, if_pos h]; rfl
      · by_cases h2 : y < x
        · rw [if_pos h2, if_neg h, if_pos h2]
        · rw [if_neg h2, if_neg h, if_neg h, if_neg h2]; exact ih b
theorem cmp_zero (a : Bs) : ∀ b, compareBytes a b = 0 → a = b := by
  induction a with
  | nil => intro b; cases b <;> simp [compareBytes]
  | cons x a ih =>
    intro b
    cases b with
    | nil => simp [compareBytes]
    | cons y b =>
      unfold compareBytes
      split
      · simp
      split
      · simp
      rename_i h1 h2
      intro h
      have : x = y := UInt8.le_antisymm (UInt8.not_lt.1 h2) (UInt8.not_lt.1 h1)
      rw [this, ih b h]
theorem cmp_trans (a : Bs) : ∀ b c, 0 ≤ compareBytes a b → 0 ≤ compareBytes b c → 0 ≤ compareBytes a c ∧ (0 < compareBytes a b ∨ 0 < compareBytes b c → 0 < compareBytes a c) := by
  induction a with
  | nil =>
    intro b c h1 h2
    cases b with
    | nil => exact ⟨h2, fun h => h.elim (fun h => absurd h (by simp [compareBytes])) id⟩
    | cons y b => simp [compareBytes] at h1
  | cons x a ih =>
    intro b c h1 h2
    cases b with
    | nil =>
      cases c with
      | nil => simp [compareBytes]
      | cons z c => simp [compareBytes] at h2
    | cons y b =>
      cases c with
      | nil => simp [compareBytes]
      | cons z c =>
        unfold compareBytes at h1 h2 ⊢
        by_cases q1 : x < y
        · rw [if_pos q1] at h1; simp at h1
        by_cases q2 : y < z
        · rw [if_pos q2] at h2; simp at h2
        rw [if_neg q1] at h1
        rw [if_neg q2] at h2
        have l1 := UInt8.not_lt.1 q1
        have l2 := UInt8.not_lt.1 q2
        have q3 : ¬ x < z := UInt8.not_lt.2 (UInt8.le_trans l2 l1)
        rw [if_neg q3, if_neg q1, if_neg q2]
        by_cases p1 : y < x
        · have p3 : z < x := UInt8.lt_of_le_of_lt l2 p1
          rw [if_pos p3]; simp
        · by_cases p2 : z < y
          · have p3 : z < x := UInt8.lt_of_lt_of_le p2 l1
            rw [if_pos p3]; simp
          · rw [if_neg p1] at h1 ⊢
            rw [if_neg p2] at h2 ⊢
            have e1 : x = y := UInt8.le_antisymm (UInt8.not_lt.1 p1) l1
            have e2 : y = z := UInt8.le_antisymm (UInt8.not_lt.1 p2) l2
            subst e1; subst e2
            rw [if_neg (UInt8.lt_irrefl _)]
            exact ih b c h1 h2

/-! records -/
def keptP (x : Sp) : Sp := { x with du := max 0 (min x.du 4611686018427387904) }
def keyB (x : Sp) : Bs := (putS (keptP x)).1
def ordI (x y : Sp) : Int := if x.rv < y.rv then -1 else if y.rv < x.rv then 1 else compareBytes (keyB x) (keyB y)
def newer (x y : Sp) : Bool := decide (0 < ordI x y)
theorem ord_self (x : Sp) : ordI x x = 0 := by unfold ordI; rw [if_neg (by omega), if_neg (by omega)]; exact cmp_self _
theorem ord_anti (x y : Sp) : ordI y x = - ordI x y := by
  unfold ordI
  by_cases h : x.rv < y.rv
  · rw [if_neg (show ¬ y.rv < x.rv by omega), if_pos h, if_pos h]; rfl
  · by_cases h2 : y.rv < x.rv
    · rw [if_pos h2, if_neg h, if_pos h2]
    · rw [if_neg h2, if_neg h, if_neg h, if_neg h2]; exact cmp_anti _ _
theorem ord_trans (x y z : Sp) (h1 : 0 ≤ ordI x y) (h2 : 0 ≤ ordI y z) : 0 ≤ ordI x z ∧ (0 < ordI x y ∨ 0 < ordI y z → 0 < ordI x z) := by
  unfold ordI at h1 h2 ⊢
  by_cases q1 : x.rv < y.rv
  · rw [if_pos q1] at h1; omega
  by_cases q2 : y.rv < z.rv
  · rw [if_pos q2] at h2; omega
  rw [if_neg q1] at h1
  rw [if_neg q2] at h2
  rw [if_neg q1, if_neg q2, if_neg (show ¬ x.rv < z.rv by omega)]
  by_cases p1 : y.rv < x.rv
  · rw [if_pos (show z.rv < x.rv by omega)]; omega
  · by_cases p2 : z.rv < y.rv
    · rw [if_pos (show z.rv < x.rv by omega)]; omega
    · rw [if_neg p1] at h1 ⊢
      rw [if_neg p2] at h2 ⊢
      rw [if_neg (show ¬ z.rv < x.rv by omega)]
      exact cmp_trans _ _ _ h1 h2
theorem newer_self (x : Sp) : newer x x = false := by unfold newer; rw [ord_self]; rfl
theorem newer_asymm (x y : Sp) (h : newer x y = true) : newer y x = false := by
  unfold newer at *
  rw [decide_eq_true_eq] at h
  rw [decide_eq_false_iff_not, ord_anti]; omega
theorem newer_trans (x y z : Sp) (h1 : newer x y = true) (h2 : newer y z = true) : newer x z = true := by
  unfold newer at *
  rw [decide_eq_true_eq] at *
  exact (ord_trans x y z (by omega) (by omega)).2 (.inl h1)
theorem not_newer_trans (x y z : Sp) (h1 : newer x y = false) (h2 : newer y z = false) : newer x z = false := by
  unfold newer at *
  rw [decide_eq_false_iff_not] at *
  have a1 := ord_anti x y
  have a2 := ord_anti y z
  have a3 := ord_anti x z
  have := (ord_trans z y x (by omega) (by omega)).1
  omega
theorem newer_of (x y z : Sp) (h1 : newer x y = true) (h2 : newer z y = false) : newer x z = true := by
  cases h : newer x z with
  | true => rfl
  | false => exact absurd (not_newer_trans x z y h h2) (by simp [h1])
theorem keptP_Ok (x : Sp) (hx : x.Ok) : (keptP x).Ok := ⟨hx.1, hx.2.1, hx.2.2.1, hx.2.2.2.1, hx.2.2.2.2.1, by unfold keptP CodeP.I64; simp only; omega⟩
theorem mayB_kept (x : Sp) : mayB (keptP x) = mayB x := rfl
/-- the same when kept: of one rank -/
theorem same_ord (x y : Sp) (h : keptP x = keptP y) : ordI x y = 0 := by
  have hr : x.rv = y.rv := by have := congrArg Sp.rv h; exact this
  unfold ordI keyB
  rw [if_neg (by omega), if_neg (by omega), h]; exact cmp_self _
/-- of one rank, and both may be: the same when kept -/
theorem ord_same (x y : Sp) (hx : x.Ok) (hy : y.Ok) (mx : mayB x = true) (my : mayB y = true) (h : ordI x y = 0) : keptP x = keptP y := by
  unfold ordI at h
  split at h
  · simp at h
  split at h
  · simp at h
  have hk := cmp_zero _ _ h
  unfold keyB putS at hk
  rw [mayB_kept, mayB_kept, if_pos mx, if_pos my] at hk
  exact enc_inj _ _ (may_fit _ (keptP_Ok x hx) (by rw [mayB_kept]; exact mx)) (may_fit _ (keptP_Ok y hy) (by rw [mayB_kept]; exact my)) hk
theorem newer_or (x y : Sp) : (newer x y || newer y x) = decide (ordI x y ≠ 0) := by
  unfold newer
  rw [ord_anti x y]
  by_cases h : 0 < ordI x y
  · rw [decide_eq_true h, decide_eq_true (show ordI x y ≠ 0 by omega)]; rfl
  · rw [decide_eq_false h]
    by_cases h2 : ordI x y = 0
    · rw [h2]; rfl
    · rw [decide_eq_true (show 0 < - ordI x y by omega), decide_eq_true h2]; rfl

/-! the newest -/
def bestF (b : Sp) (l : List Sp) : Sp := l.foldl (fun b x => if newer x b then x else b) b
theorem bestF_snoc (b : Sp) (l : List Sp) (x : Sp) : bestF b (l ++ [x]) = if newer x (bestF b l) then x else bestF b l := by unfold bestF; rw [List.foldl_append]; rfl
/-- a place: the first of those above which there is none -/
def FirstTop (l : List Sp) (i : Nat) (x : Sp) : Prop := l[i]? = some x ∧ (∀ y ∈ l, newer y x = false) ∧ ∀ j y, j < i → l[j]? = some y → newer x y = true
theorem snoc_ind {α : Type} {p : List α → Prop} (h0 : p []) (h1 : ∀ l x, p l → p (l ++ [x])) (l : List α) : p l := by
  have h : ∀ m : List α, p m.reverse := by
    intro m
    induction m with
    | nil => exact h0
    | cons x m ih => rw [List.reverse_cons]; exact h1 _ _ ih
  have := h l.reverse
  rwa [List.reverse_reverse] at this
theorem bestF_top (b : Sp) (l : List Sp) : ∃ i, FirstTop (b :: l) i (bestF b l) := by
  refine snoc_ind (p := fun l => ∃ i, FirstTop (b :: l) i (bestF b l)) ?_ ?_ l
  · exact ⟨0, rfl, fun y hy => by simp at hy; subst hy; exact newer_self _, fun j y hj => by omega⟩
  · intro l x ih
    obtain ⟨i, h1, h2, h3⟩ := ih
    rw [bestF_snoc]
    have hi : i < (b :: l).length := (List.getElem?_eq_some_iff.1 h1).1
    by_cases h : newer x (bestF b l) = true
    · rw [if_pos h]
      refine ⟨l.length + 1, by simp, fun y hy => ?_, fun j y hj hy => ?_⟩
      · rw [← List.cons_append, List.mem_append] at hy
        rcases hy with hy | hy
        · exact not_newer_trans _ _ _ (h2 y hy) (newer_asymm _ _ h)
        · simp at hy; subst hy; exact newer_self _
      · rw [← List.cons_append, List.getElem?_append_left (by simp; omega)] at hy
        exact newer_of _ _ _ h (h2 y (List.mem_of_getElem? hy))
    · have h' : newer x (bestF b l) = false := by simpa using h
      rw [if_neg h]
      refine ⟨i, by rw [← List.cons_append, List.getElem?_append_left hi]; exact h1, fun y hy => ?_, fun j y hj hy => ?_⟩
      · rw [← List.cons_append, List.mem_append] at hy
        rcases hy with hy | hy
        · exact h2 y hy
        · simp at hy; subst hy; exact h'
      · rw [← List.cons_append, List.getElem?_append_left (by omega)] at hy
        exact h3 j y hj hy
theorem top_unique {l : List Sp} {i j : Nat} {x y : Sp} (h1 : FirstTop l i x) (h2 : FirstTop l j y) : i = j ∧ x = y := by
  have hij : i = j := by
    rcases Nat.lt_trichotomy i j with h | h | h
    · have := h2.2.2 i x h h1.1
      rw [h1.2.1 y (List.mem_of_getElem? h2.1)] at this
      exact absurd this (by simp)
    · exact h
    · have := h1.2.2 j y h h2.1
      rw [h2.2.1 x (List.mem_of_getElem? h1.1)] at this
      exact absurd this (by simp)
  subst hij
  have := h1.1.symm.trans h2.1
  exact ⟨rfl, by simpa using this⟩
end Go.Proofs.YtcpmicinibfepaaGreatDoor.RankP

namespace Go.Proofs.YtcpmicinibfepaaGreatDoor.DiskP
open Go.Lib


/-- a file: its name, its bytes, and how many of the first are sure -/
structure Fl where
  nm : ByteArray
  all : ByteArray
  su : Nat
/-- a disk -/
structure DS where
  fs : List Fl
  room : Int
  made : Bool
  on : Bool
  fuse : Int
  ops : Int
def cmpN (a b : ByteArray) : Int := compareBytes a.data.toList b.data.toList
theorem cmpN_self (a : ByteArray) : cmpN a a = 0 := RankP.cmp_self _
theorem cmpN_anti (a b : ByteArray) : cmpN b a = - cmpN a b := RankP.cmp_anti _ _
theorem cmpN_zero {a b : ByteArray} (h : cmpN a b = 0) : a = b := by
  have := RankP.cmp_zero _ _ h
  obtain ⟨⟨a⟩⟩ := a
  obtain ⟨⟨b⟩⟩ := b
  simp only at this
  rw [this]
theorem cmpN_trans {a b c : ByteArray} (h1 : cmpN a b < 0) (h2 : cmpN b c < 0) : cmpN a c < 0 := by
  have h1' := cmpN_anti a b
  have h2' := cmpN_anti b c
  have h3' := cmpN_anti a c
  obtain ⟨_, h4⟩ := RankP.cmp_trans c.data.toList b.data.toList a.data.toList (by show 0 ≤ cmpN c b; omega) (by show 0 ≤ cmpN b a; omega)
  have : 0 < cmpN c a := h4 (.inl (by show 0 < cmpN c b; omega))
  omega
/-- they rise by their names -/
def Sorted (fs : List Fl) : Prop := List.Pairwise (fun f g => cmpN f.nm g.nm < 0) fs
/-- where a name is, or belongs -/
def pos (fs : List Fl) (nm : ByteArray) : Nat := (fs.takeWhile (fun f => decide (cmpN f.nm nm < 0))).length
def has (fs : List Fl) (nm : ByteArray) : Bool := match fs[pos fs nm]? with
  | some f => cmpN f.nm nm == 0
  | none => false
def used (fs : List Fl) : Nat := (fs.map (·.all.size)).sum
theorem pos_le (fs : List Fl) (nm : ByteArray) : pos fs nm ≤ fs.length := by
  unfold pos
  exact (List.takeWhile_sublist _).length_le
theorem pos_uniq {fs : List Fl} {nm : ByteArray} {i : Nat} (hi : i ≤ fs.length) (h1 : ∀ k f, k < i → fs[k]? = some f → cmpN f.nm nm < 0) (h2 : ∀ f, fs[i]? = some f → 0 ≤ cmpN f.nm nm) : pos fs nm = i := by
  unfold pos
  induction fs generalizing i with
  | nil => simp at hi ⊢; omega
  | cons x fs ih =>
    cases i with
    | zero =>
      have := h2 x rfl
      rw [List.takeWhile_cons_of_neg (by simpa using this)]
      rfl
    | succ i =>
      have h0 := h1 0 x (by omega) rfl
      rw [List.takeWhile_cons_of_pos (by simpa using h0), List.length_cons]
      rw [ih (i := i) (by simpa using hi) (fun k f hk hf => h1 (k + 1) f (by omega) hf) (fun f hf => h2 f hf)]
theorem pos_lt {fs : List Fl} {nm : ByteArray} {k : Nat} {f : Fl} (hk : k < pos fs nm) (hf : fs[k]? = some f) : cmpN f.nm nm < 0 := by
  unfold pos at hk
  induction fs generalizing k with
  | nil => simp at hk
  | cons x fs ih =>
    by_cases hx : cmpN x.nm nm < 0
    · rw [List.takeWhile_cons_of_pos (by simpa using hx), List.length_cons] at hk
      cases k with
      | zero => obtain rfl : x = f := by simpa using hf
                exact hx
      | succ k => exact ih (by omega) hf
    · rw [List.takeWhile_cons_of_neg (by simpa using hx)] at hk
      simp at hk
theorem pos_ge {fs : List Fl} {nm : ByteArray} {f : Fl} (hf : fs[pos fs nm]? = some f) : 0 ≤ cmpN f.nm nm := by
  unfold pos at hf
  induction fs with
  | nil => simp at hf
  | cons x fs ih =>
    by_cases hx : cmpN x.nm nm < 0
    · rw [List.takeWhile_cons_of_pos (by simpa using hx), List.length_cons] at hf
      exact ih hf
    · rw [List.takeWhile_cons_of_neg (by simpa using hx)] at hf
      obtain rfl : x = f := by simpa using hf
      omega
theorem sorted_lt {fs : List Fl} (h : Sorted fs) {i j : Nat} {f g : Fl} (hij : i < j) (hf : fs[i]? = some f) (hg : fs[j]? = some g) : cmpN f.nm g.nm < 0 := by
  obtain ⟨h1, h2⟩ := List.getElem?_eq_some_iff.1 hf
  obtain ⟨h3, h4⟩ := List.getElem?_eq_some_iff.1 hg
  have := List.pairwise_iff_getElem.1 h i j h1 h3 hij
  rw [h2, h4] at this
  exact this
/-- a round of the search: below -/
theorem search_lt {fs : List Fl} (h : Sorted fs) {nm : ByteArray} {m : Nat} {f : Fl} (hf : fs[m]? = some f) (hc : cmpN f.nm nm < 0) : ∀ k g, k < m + 1 → fs[k]? = some g → cmpN g.nm nm < 0 := fun k g hk hg => by
  rcases Nat.lt_or_ge k m with h1 | h1
  · exact cmpN_trans (sorted_lt h h1 hg hf) hc
  · obtain rfl : k = m := by omega
    rw [hf] at hg
    obtain rfl := Option.some.inj hg
    exact hc
/-- a round of the search: not below -/
theorem search_ge {fs : List Fl} (h : Sorted fs) {nm : ByteArray} {m : Nat} {f : Fl} (hf : fs[m]? = some f) (hc : ¬ cmpN f.nm nm < 0) : ∀ k g, m ≤ k → fs[k]? = some g → 0 ≤ cmpN g.nm nm := fun k g hk hg => by
  rcases Nat.lt_or_ge m k with h1 | h1
  · have h2 := sorted_lt h h1 hf hg
    by_cases h3 : cmpN g.nm nm < 0
    · exact absurd (cmpN_trans h2 h3) hc
    · omega
  · obtain rfl : k = m := by omega
    rw [hf] at hg
    obtain rfl := Option.some.inj hg
    omega
theorem has_some {fs : List Fl} {nm : ByteArray} (h : has fs nm = true) : ∃ f, fs[pos fs nm]? = some f ∧ f.nm = nm := by
  unfold has at h
  split at h
  · rename_i f hf
    exact ⟨f, hf, cmpN_zero (by simpa using h)⟩
  · cases h
end Go.Proofs.YtcpmicinibfepaaGreatDoor.DiskP
