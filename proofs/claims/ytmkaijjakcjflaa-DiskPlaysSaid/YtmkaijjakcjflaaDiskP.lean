/- Plain mathematics of a disk's files (no program in sight): they rise by their names; where a file is or belongs. -/
import Derived.Test.YtmkaijjakcjflaaRankP
namespace Go.Proofs.Ytmkaijjakcjflaa.DiskP
open Go.Lib

/-- a file: its name, its bytes, and how many of the first are sure -/
structure Fl where
  nm : ByteArray
  all : ByteArray
  su : Nat
/-- a disk -/
structure DS where
  fs : List Fl
  room : Int
  made : Bool
  on : Bool
  fuse : Int
  ops : Int
def cmpN (a b : ByteArray) : Int := compareBytes a.data.toList b.data.toList
theorem cmpN_self (a : ByteArray) : cmpN a a = 0 := RankP.cmp_self _
theorem cmpN_anti (a b : ByteArray) : cmpN b a = - cmpN a b := RankP.cmp_anti _ _
theorem cmpN_zero {a b : ByteArray} (h : cmpN a b = 0) : a = b := by
  have := RankP.cmp_zero _ _ h
  obtain ⟨⟨a⟩⟩ := a
  obtain ⟨⟨b⟩⟩ := b
  simp only at this
  rw [this]
theorem cmpN_trans {a b c : ByteArray} (h1 : cmpN a b < 0) (h2 : cmpN b c < 0) : cmpN a c < 0 := by
  have h1' := cmpN_anti a b
  have h2' := cmpN_anti b c
  have h3' := cmpN_anti a c
  obtain ⟨_, h4⟩ := RankP.cmp_trans c.data.toList b.data.toList a.data.toList (by show 0 ≤ cmpN c b; omega) (by show 0 ≤ cmpN b a; omega)
  have : 0 < cmpN c a := h4 (.inl (by show 0 < cmpN c b; omega))
  omega
/-- they rise by their names -/
def Sorted (fs : List Fl) : Prop := List.Pairwise (fun f g => cmpN f.nm g.nm < 0) fs
/-- where a name is, or belongs -/
def pos (fs : List Fl) (nm : ByteArray) : Nat := (fs.takeWhile (fun f => decide (cmpN f.nm nm < 0))).length
def has (fs : List Fl) (nm : ByteArray) : Bool := match fs[pos fs nm]? with
  | some f => cmpN f.nm nm == 0
  | none => false
def used (fs : List Fl) : Nat := (fs.map (·.all.size)).sum
theorem pos_le (fs : List Fl) (nm : ByteArray) : pos fs nm ≤ fs.length := by
  unfold pos
  exact (List.takeWhile_sublist _).length_le
theorem pos_uniq {fs : List Fl} {nm : ByteArray} {i : Nat} (hi : i ≤ fs.length) (h1 : ∀ k f, k < i → fs[k]? = some f → cmpN f.nm nm < 0) (h2 : ∀ f, fs[i]? = some f → 0 ≤ cmpN f.nm nm) : pos fs nm = i := by
  unfold pos
  induction fs generalizing i with
  | nil => simp at hi ⊢; omega
  | cons x fs ih =>
    cases i with
    | zero =>
      have := h2 x rfl
      rw [List.takeWhile_cons_of_neg (by simpa using this)]
      rfl
    | succ i =>
      have h0 := h1 0 x (by omega) rfl
      rw [List.takeWhile_cons_of_pos (by simpa using h0), List.length_cons]
      rw [ih (i := i) (by simpa using hi) (fun k f hk hf => h1 (k + 1) f (by omega) hf) (fun f hf => h2 f hf)]
theorem pos_lt {fs : List Fl} {nm : ByteArray} {k : Nat} {f : Fl} (hk : k < pos fs nm) (hf : fs[k]? = some f) : cmpN f.nm nm < 0 := by
  unfold pos at hk
  induction fs generalizing k with
  | nil => simp at hk
  | cons x fs ih =>
    by_cases hx : cmpN x.nm nm < 0
    · rw [List.takeWhile_cons_of_pos (by simpa using hx), List.length_cons] at hk
      cases k with
      | zero => obtain rfl : x = f := by simpa using hf
                exact hx
      | succ k => exact ih (by omega) hf
    · rw [List.takeWhile_cons_of_neg (by simpa using hx)] at hk
      simp at hk
theorem pos_ge {fs : List Fl} {nm : ByteArray} {f : Fl} (hf : fs[pos fs nm]? = some f) : 0 ≤ cmpN f.nm nm := by
  unfold pos at hf
  induction fs with
  | nil => simp at hf
  | cons x fs ih =>
    by_cases hx : cmpN x.nm nm < 0
    · rw [List.takeWhile_cons_of_pos (by simpa using hx), List.length_cons] at hf
      exact ih hf
    · rw [List.takeWhile_cons_of_neg (by simpa using hx)] at hf
      obtain rfl : x = f := by simpa using hf
      omega
theorem sorted_lt {fs : List Fl} (h : Sorted fs) {i j : Nat} {f g : Fl} (hij : i < j) (hf : fs[i]? = some f) (hg : fs[j]? = some g) : cmpN f.nm g.nm < 0 := by
  obtain ⟨h1, h2⟩ := List.getElem?_eq_some_iff.1 hf
  obtain ⟨h3, h4⟩ := List.getElem?_eq_some_iff.1 hg
  have := List.pairwise_iff_getElem.1 h i j h1 h3 hij
  rw [h2, h4] at this
  exact this
/-- a round of the search: below -/
theorem search_lt {fs : List Fl} (h : Sorted fs) {nm : ByteArray} {m : Nat} {f : Fl} (hf : fs[m]? = some f) (hc : cmpN f.nm nm < 0) : ∀ k g, k < m + 1 → fs[k]? = some g → cmpN g.nm nm < 0 := fun k g hk hg => by
  rcases Nat.lt_or_ge k m with h1 | h1
  · exact cmpN_trans (sorted_lt h h1 hg hf) hc
  · obtain rfl : k = m := by omega
    rw [hf] at hg
    obtain rfl := Option.some.inj hg
    exact hc
/-- a round of the search: not below -/
theorem search_ge {fs : List Fl} (h : Sorted fs) {nm : ByteArray} {m : Nat} {f : Fl} (hf : fs[m]? = some f) (hc : ¬ cmpN f.nm nm < 0) : ∀ k g, m ≤ k → fs[k]? = some g → 0 ≤ cmpN g.nm nm := fun k g hk hg => by
  rcases Nat.lt_or_ge m k with h1 | h1
  · have h2 := sorted_lt h h1 hf hg
    by_cases h3 : cmpN g.nm nm < 0
    · exact absurd (cmpN_trans h2 h3) hc
    · omega
  · obtain rfl : k = m := by omega
    rw [hf] at hg
    obtain rfl := Option.some.inj hg
    omega
theorem has_some {fs : List Fl} {nm : ByteArray} (h : has fs nm = true) : ∃ f, fs[pos fs nm]? = some f ∧ f.nm = nm := by
  unfold has at h
  split at h
  · rename_i f hf
    exact ⟨f, hf, cmpN_zero (by simpa using h)⟩
  · cases h
end Go.Proofs.Ytmkaijjakcjflaa.DiskP
