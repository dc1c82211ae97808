/- A region that draws its order, walked once over all worlds that keep an invariant. -/
import Derived.Test.YtmkaijjakcjflaaRegion
namespace Go.Proofs.Ytmkaijjakcjflaa
open Go.RowKit

structure Cls where
  I : World → Prop
  w0 : World
  h0 : I w0
structure In (c : Cls) where
  w : World
  h : c.I w
instance in_nonempty (c : Cls) : Nonempty (In c) := ⟨⟨c.w0, c.h0⟩⟩
theorem wp_region_inv {P : Program} {id : Nat} {Q : Exit → Act → World → Prop} {a : Act} {W : World} {l : List Oper} (I : World → Prop) (h0 : I W) (hd : ∀ w, I w → I w.drew) (hm : P.follows .mixedOrders = true) (hB : Region.lexB .any l.toArray = true)
    (h : ∀ c : Cls, (∀ w, c.I w ↔ I w) → wpQuiet P l.toArray (fun w' => ∃ u : In c, w' = u.w) (fun a' => ∀ w', (∃ u : In c, w' = u.w) → Q .normal a' w') l a) : (Code.region id l.toArray true).wp P Q a W :=
  wp_region_quiet (C := fun w' => ∃ u : In ⟨I, W, h0⟩, w' = u.w) hm hB ⟨⟨W.drew, hd W h0⟩, rfl⟩ (by simpa using h ⟨I, W, h0⟩ (fun _ => Iff.rfl))
theorem wp_region_inv_tail {P : Program} {id : Nat} {Q : Exit → Act → World → Prop} {a : Act} {W : World} {l : List Oper} (n : Nat) (I : World → Prop) (h0 : I W) (hd : ∀ w, I w → I w.drew) (hm : P.follows .mixedOrders = true) (hB : Region.lexTailB .any l.toArray n = true)
    (h : ∀ c : Cls, (∀ w, c.I w ↔ I w) → wpQuiet P l.toArray (fun w' => ∃ u : In c, w' = u.w) (fun a' => ∀ w', (∃ u : In c, w' = u.w) → wpList P l.toArray Q (l.drop n) a' w') (l.take n) a) : (Code.region id l.toArray true).wp P Q a W :=
  wp_region_cls_tail (C := fun w' => ∃ u : In ⟨I, W, h0⟩, w' = u.w) n hm hB ⟨⟨W.drew, hd W h0⟩, rfl⟩ (h ⟨I, W, h0⟩ (fun _ => Iff.rfl))
/-- a callee's contract, met in a world of the class -/
theorem inv_of {P : Program} {f : FuncId} {args : Array Value} {v : Value} {I : World → Prop} {c : Cls} (hc : ∀ w, c.I w ↔ I w) {w : World}
    (h : Calls P f args w fun e w' => e = .returned v ∧ I w') : Calls P f args w fun e w'' => e = .returned v ∧ ∃ u' : In c, w'' = u'.w :=
  h.mono fun _ w'' ⟨he, hb⟩ => ⟨he, ⟨w'', (hc w'').2 hb⟩, rfl⟩
theorem inv_of_below {P : Program} {f : FuncId} {args : Array Value} {v : Value} {I : World → Prop} {c : Cls} (hc : ∀ w, c.I w ↔ I w) (hI : ∀ w w', I w → Below w.heap.size w w' → I w') (u : In c)
    (h : Calls P f args u.w fun e w' => e = .returned v ∧ Below u.w.heap.size u.w w') : Calls P f args u.w fun e w'' => e = .returned v ∧ ∃ u' : In c, w'' = u'.w :=
  h.mono fun _ w'' ⟨he, hb⟩ => ⟨he, ⟨w'', (hc w'').2 (hI _ _ ((hc u.w).1 u.h) hb)⟩, rfl⟩
theorem inv_of_same {P : Program} {f : FuncId} {args : Array Value} {v : Value} {c : Cls} (u : In c)
    (h : Calls P f args u.w fun e w' => e = .returned v ∧ u.w = w') : Calls P f args u.w fun e w'' => e = .returned v ∧ ∃ u' : In c, w'' = u'.w :=
  h.mono fun _ _ ⟨he, hb⟩ => ⟨he, u, hb.symm⟩
end Go.Proofs.Ytmkaijjakcjflaa
