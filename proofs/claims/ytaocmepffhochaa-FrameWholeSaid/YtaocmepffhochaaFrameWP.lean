/- Plain mathematics of frames one behind the other, cut off anywhere: the whole ones are told. -/
import Derived.Test.YtaocmepffhochaaFrameAP
namespace Go.Proofs.Ytaocmepffhochaa.FrameP

/-- frames that may be -/
def Good (f : Fr) : Prop := 1 ≤ f.1 ∧ f.1 < 9223372036854775808 ∧ f.2.length ≤ 65536
/-- frames one behind the other -/
def encs (l : List Fr) : Bs := l.flatMap fun f => enc f.1.toNat f.2
theorem encs_length (l : List Fr) : (encs l).length = bytes l := by
  induction l with
  | nil => rfl
  | cons f r ih => rw [bytes_cons, ← ih, ← enc_length f.1.toNat f.2]; simp [encs]
theorem encs_snoc (l : List Fr) (f : Fr) : encs (l ++ [f]) = encs l ++ enc f.1.toNat f.2 := by simp [encs]
/-- how many are whole in so many bytes -/
def cnt : List Fr → Nat → Nat
  | [], _ => 0
  | f :: r, k => if 16 + f.2.length ≤ k then cnt r (k - (16 + f.2.length)) + 1 else 0
theorem cnt_le (l : List Fr) : ∀ k, cnt l k ≤ l.length := by
  induction l with
  | nil => intro k; exact Nat.le_refl _
  | cons f r ih => intro k; unfold cnt; split <;> simp; exact ih _
theorem cnt_in (l : List Fr) : ∀ k j, j ≤ cnt l k → bytes (l.take j) ≤ k := by
  induction l with
  | nil => intro k j _; simp [bytes]
  | cons f r ih =>
    intro k j h
    unfold cnt at h
    split at h
    · cases j with
      | zero => simp [bytes]
      | succ j =>
        have := ih (k - (16 + f.2.length)) j (by omega)
        rw [List.take_succ_cons, bytes_cons]; omega
    · obtain rfl : j = 0 := by omega
      simp [bytes]
theorem cnt_out (l : List Fr) : ∀ k, cnt l k < l.length → k < bytes (l.take (cnt l k + 1)) := by
  induction l with
  | nil => intro k h; simp at h
  | cons f r ih =>
    intro k h
    unfold cnt at h ⊢
    split at h
    · rename_i h1
      rw [if_pos h1, List.take_succ_cons, bytes_cons]
      have := ih (k - (16 + f.2.length)) (by simp at h; omega)
      omega
    · rename_i h1
      rw [if_neg h1, List.take_succ_cons, bytes_cons]; omega
theorem bytes_take_le (l : List Fr) : ∀ j, bytes (l.take j) ≤ bytes l := by
  induction l with
  | nil => intro j; simp [bytes]
  | cons f r ih =>
    intro j
    cases j with
    | zero => simp [bytes]
    | succ j => rw [List.take_succ_cons, bytes_cons, bytes_cons]; have := ih j; omega
theorem all_cut (l : List Fr) : (∀ f ∈ l, Good f) → ∀ k, k ≤ bytes l → all ((encs l).take k) = (l.take (cnt l k), bytes (l.take (cnt l k)), if bytes (l.take (cnt l k)) = k then 0 else 3) := by
  induction l with
  | nil =>
    intro _ k h
    obtain rfl : k = 0 := by simp [bytes] at h; exact h
    simp [encs, all_nil, cnt, bytes]
  | cons f r ih =>
    intro hg k hk
    obtain ⟨g1, g2, g3⟩ := hg f (List.mem_cons_self)
    have hz : ((f.1.toNat : Nat) : Int) = f.1 := by omega
    have he : encs (f :: r) = enc f.1.toNat f.2 ++ encs r := by simp [encs]
    have hl := enc_length f.1.toNat f.2
    rw [bytes_cons] at hk
    unfold cnt
    by_cases h1 : 16 + f.2.length ≤ k
    · rw [if_pos h1, he, List.take_append, hl, List.take_of_length_le (by omega)]
      have ht : take (enc f.1.toNat f.2 ++ (encs r).take (k - (16 + f.2.length))) = (f, 16 + f.2.length, 0) := by
        rw [take_enc _ _ _ (by omega) (by omega) g3, hz]
      rw [all_ok _ f (16 + f.2.length) (fun h => by have := congrArg List.length h; rw [List.length_append, hl] at this; simp at this) ht, List.drop_append_of_le_length (by omega), ← hl, List.drop_length, List.nil_append, hl,
        ih (fun x hx => hg x (List.mem_cons_of_mem _ hx)) (k - (16 + f.2.length)) (by omega), List.take_succ_cons, bytes_cons]
      simp only [Prod.mk.injEq, true_and]
      by_cases h2 : bytes (r.take (cnt r (k - (16 + f.2.length)))) = k - (16 + f.2.length)
      · rw [if_pos h2, if_pos (by omega)]
      · rw [if_neg h2, if_neg (by omega)]
    · rw [if_neg h1, he, List.take_append_of_le_length (by omega)]
      by_cases h0 : k = 0
      · subst h0
        simp [all_nil, bytes]
      · rw [all_bad _ (0, []) 0 3 (fun h => by have := congrArg List.length h; rw [List.length_take, hl] at this; simp at this; omega) (take_cut f.1.toNat f.2 g3 k (by omega)) (by decide)]
        simp [bytes]
        exact fun h => h0 h.symm
end Go.Proofs.Ytaocmepffhochaa.FrameP
