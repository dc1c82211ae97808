/- A region that draws its order and holds calls that turn what it loads later: what only computes or loads is taken first, piece by piece of the text; the calls one by one; and what holds of the world may be said anew on the way. -/
import Derived.Deep.RegionHeld3
import Derived.WalkKit
namespace Go.Proofs.YtcpmicinibfepaaGreatDoor
open Go.RowKit


/-- marks k .. k + m - 1 as done -/
def setSeg (listed : Array Bool) (k : Nat) : Nat → Array Bool
  | 0 => listed
  | m + 1 => setSeg (listed.setIfInBounds k true) (k + 1) m
def segB (md : Region.Mode) (ops : Array Oper) : Nat → Nat → Array Bool → Bool
  | _, 0, _ => true
  | k, m + 1, listed => Region.free md ops listed k && (Region.ready md ops listed).contains k && segB md ops (k + 1) m (listed.setIfInBounds k true)
section
variable {P : Program} {md : Region.Mode} {Q : Exit → Act → World → Prop} {S S' : World → Prop}
def wpTake (P : Program) (ops : Array Oper) (S : World → Prop) (L : Act → Prop) : List Oper → Act → Prop
  | [], a => L a
  | o :: l, a => ∃ v, YieldsIf P ops S o v a ∧ wpTake P ops S L l (a.put o.dst v)
theorem wpTake_cons {ops : Array Oper} {L : Act → Prop} {o : Oper} {l : List Oper} {a : Act} {v : Value} (h1 : Region.wanted o (yielded ops a.tmps) = true) (h2 : ∀ w, S w → (execOp a.eval o).run P w = .ok (.value v) w)
    (h : wpTake P ops S L l (a.put o.dst v)) : wpTake P ops S L (o :: l) a := ⟨v, .inl ⟨h1, h2⟩, h⟩
theorem wpTake_skip {ops : Array Oper} {L : Act → Prop} {o : Oper} {l : List Oper} {a : Act} (h1 : Region.wanted o (yielded ops a.tmps) = false) (h : wpTake P ops S L l (a.put o.dst undef)) : wpTake P ops S L (o :: l) a := ⟨undef, .inr ⟨h1, rfl⟩, h⟩
theorem wpTake_nil {ops : Array Oper} {L : Act → Prop} {a : Act} (h : L a) : wpTake P ops S L [] a := h
/-- a piece of the text, operation by operation, ahead of all others -/
theorem wpAnyH_seg {l : List Oper} (hs : Region.noSelect l.toArray = true) (hQ : ∀ c (a : Act) d v w, Q (.panic c) (a.put d v) w → Q (.panic c) a w) {w : World} (hS : S w) (f : Nat) :
    ∀ (m k : Nat) (listed : Array Bool) (a : Act), k + m ≤ l.length → segB md l.toArray k m listed = true →
      wpTake P l.toArray S (fun a' => wpAnyH P md l.toArray Q S f (setSeg listed k m) a' w) ((l.drop k).take m) a → wpAnyH P md l.toArray Q S (f + m) listed a w := by
  intro m
  induction m with
  | zero => intro k listed a _ _ h; simpa [wpTake, setSeg] using h
  | succ m ih =>
    intro k listed a hk hB h
    have hkl : k < l.length := by omega
    rw [List.drop_eq_getElem_cons hkl, List.take_succ_cons] at h
    obtain ⟨v, hy, h⟩ := h
    simp only [segB, Bool.and_eq_true] at hB
    refine wpAnyH_take (i := k) (oi := l[k]) (v := v) (by simp [hkl]) hs hB.1.1 hB.1.2 (fun c a w h => hQ c a _ _ w h) hy hS ?_
    exact ih (k + 1) (listed.setIfInBounds k true) _ (by omega) hB.2 h
/-- what holds of the world, said anew: more of it -/
theorem wpAnyH_more {ops : Array Oper} (hSS : ∀ w, S' w → S w) : ∀ (f : Nat) (listed : Array Bool) (a : Act) (w : World), wpAnyH P md ops Q S' f listed a w → wpAnyH P md ops Q S f listed a w
  | 0, _, _, _, h => h
  | f + 1, _, _, _, h => ⟨h.1, fun i hi => wpOp_mono (fun a' w' h' => ⟨hSS w' h'.1, wpAnyH_more hSS f _ a' w' h'.2⟩) (h.2 i hi)⟩
/-- the one operation that may come up -/
theorem wpAnyH_one {l : List Oper} {o : Oper} (i : Nat) {f : Nat} {listed : Array Bool} {a : Act} {w : World} (hr : Region.ready md l.toArray listed = [i]) (ho : (l.drop i).head? = some o)
    (h : ∀ K' : Act → World → Prop, Shut (∀ a w, S w → (S w → wpAnyH P md l.toArray Q S f (listed.setIfInBounds i true) a w) → K' a w) → if Region.wanted o (yielded l.toArray a.tmps) = true then Oper.wp P o a w K' Q else K' (a.put o.dst undef) w) : wpAnyH P md l.toArray Q S (f + 1) listed a w :=
  wpAnyH_ready (rs := [i]) hr (by simp) (AllReadyH.cons (by rw [List.head?_drop] at ho; simpa using ho) h AllReadyH.nil)
end
end Go.Proofs.YtcpmicinibfepaaGreatDoor
