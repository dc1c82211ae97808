/- Plain mathematics of frames one behind the other: how many bytes they have, and what stands behind them. -/
import Derived.Test.YtaocmepffhochaaFrameP
namespace Go.Proofs.Ytaocmepffhochaa.FrameP

theorem all_bad (s : Bs) (x : Fr) (m : Nat) (er : Int) (hs : s ≠ []) (ht : take s = (x, m, er)) (he : er ≠ 0) : all s = ([], 0, er) := by
  rw [all_cons s hs, ht]; simp only [if_pos he]
theorem all_ok (s : Bs) (x : Fr) (m : Nat) (hs : s ≠ []) (ht : take s = (x, m, 0)) : all s = (x :: (all (s.drop m)).1, m + (all (s.drop m)).2.1, (all (s.drop m)).2.2) := by
  rw [all_cons s hs, ht]
  simp
/-- how many bytes frames have -/
def bytes (l : List Fr) : Nat := (l.map fun f => 16 + f.2.length).sum
theorem bytes_cons (f : Fr) (l : List Fr) : bytes (f :: l) = (16 + f.2.length) + bytes l := by simp [bytes]
theorem bytes_snoc (l : List Fr) (f : Fr) : bytes (l ++ [f]) = bytes l + (16 + f.2.length) := by simp [bytes]
theorem take_len (s : Bs) (x : Fr) (m : Nat) (ht : take s = (x, m, 0)) : m = 16 + x.2.length ∧ m ≤ s.length := ⟨(take_ok s x m ht).1, (take_ok s x m ht).2.1⟩
theorem all_facts (n : Nat) : ∀ s : Bs, s.length ≤ n → bytes (all s).1 = (all s).2.1 ∧ (all s).2.1 ≤ s.length ∧ 16 * (all s).1.length ≤ (all s).2.1 ∧
    ((all s).2.1 = s.length → (all s).2.2 = 0) ∧ ((all s).2.1 < s.length → (take (s.drop (all s).2.1)).2.2 = (all s).2.2 ∧ (all s).2.2 ≠ 0) := by
  induction n with
  | zero =>
    intro s h
    obtain rfl := List.eq_nil_of_length_eq_zero (Nat.le_zero.1 h)
    rw [all_nil]; simp [bytes]
  | succ n ih =>
    intro s h
    by_cases hs : s = []
    · subst hs; rw [all_nil]; simp [bytes]
    · rcases ht : take s with ⟨x, m, er⟩
      by_cases he : er = 0
      · subst he
        obtain ⟨h1, h2⟩ := take_len s x m ht
        rw [all_ok s x m hs ht]
        obtain ⟨i1, i2, i3, i4, i5⟩ := ih (s.drop m) (by rw [List.length_drop]; omega)
        rw [List.length_drop] at i2 i4 i5
        simp only
        refine ⟨by rw [bytes_cons, i1, h1], by omega, by rw [List.length_cons]; omega, fun e => i4 (by omega), fun e => ?_⟩
        rw [← List.drop_drop]
        exact i5 (by omega)
      · rw [all_bad s x m er hs ht he]
        have hl : 0 < s.length := List.length_pos_iff.2 hs
        refine ⟨by simp [bytes], by simp, by simp, fun e => by simp at e; omega, fun _ => ?_⟩
        rw [List.drop_zero, ht]
        exact ⟨rfl, he⟩
end Go.Proofs.Ytaocmepffhochaa.FrameP
