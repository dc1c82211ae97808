/- A slice of structs whose fields have one cell each, opened: over any program. -/
import Derived.Test.YtmkaijjakcjflaaReads
import Derived.Deep.Slices
namespace Go.Proofs.Ytmkaijjakcjflaa
open Go.ChangeShapes Go.WideShapes Go.ChangeAt Go.RowKit Go.Deep

section
variable {H : Type} {enc : TypeId × Value → H} {P : Program} {w : World} {base : Nat} {spare : Nat → Bool} {held : Bool}
theorem open_structs {t e : TypeId} {fs : Array Field} {v : Value} {d : DataW H} {p : List MemPlace} (ht : P.underlying t = some (.slice e)) (he : P.underlying e = some (.struct fs)) (hone : oneCellFields P fs = true)
    (hC : P.cellsOf e = fs.size) (hpos : 0 < fs.size) (hcs : v.cells = #[v]) (h : DataW.Trod enc P w base spare held t v d p) (hl : ∀ x ∈ p, x.block < w.heap.size) :
    v = .slice none 0 0 ∨ ∃ a len cap, v = .slice (some a) len cap ∧ len ≤ cap ∧ cap ≤ maxLen ∧ ∀ i, i < len → a.block < w.heap.size ∧
      ∃ cs : List Value, cs.length = fs.size ∧ (∀ j, j < fs.size → w.cell? (a.add (i * fs.size + j)) = cs[j]?) ∧
        ∀ (j : Nat) (f : Field), fs[j]? = some f → ∃ (c : Value) (y : DataW H × List MemPlace) (n : Nat), cs[j]? = some c ∧ DataW.trod enc P w base spare held n f.type [c] = some y := by
  obtain ⟨fuel, hf⟩ := h
  rw [hcs] at hf
  rcases open_slice ht hf with ⟨h0, _⟩ | ⟨a, len, cap, m, n, D, Pl, h0, hb, hlc, hm, hmm, hx, hall⟩
  · exact .inl (by simpa using h0)
  · right
    have hlm : len ≤ m := by rw [hmm]; split <;> omega
    refine ⟨a, len, cap, by simpa using h0, hlc, hm, fun i hi => ⟨?_, ?_⟩⟩
    · have hmp : 0 < m * P.cellsOf e := Nat.mul_pos (by omega) (by rw [hC]; exact hpos)
      refine row_block hmp (fun x hx' => hl x ?_)
      rw [(Prod.mk.inj hx).2]
      exact List.mem_append_left _ hx'
    · obtain ⟨cs', h1, h2⟩ := hall i (by omega)
      obtain ⟨_, hlen, hcell⟩ := World.cells?_some h1
      obtain ⟨xs, k, _, _, _, hxl, hg⟩ := DataW.trod_struct he h2
      rw [hC] at hlen hcell
      refine ⟨cs', hlen, fun j hj => (congrArg w.cell? (add_add a (i * fs.size) j).symm).trans (hcell j hj), fun j f hf => ?_⟩
      obtain ⟨o, q⟩ := hone_of hone j f hf
      have hj : j < fs.size := (Array.getElem?_eq_some_iff.1 hf).1
      have h3 := hg j f hf
      rw [o, q] at h3
      have e1 : (cs'.drop j).take 1 = [cs'[j]'(by omega)] := by
        rw [List.drop_eq_getElem_cons (show j < cs'.length by omega), List.take_succ_cons, List.take_zero]
      rw [e1, List.getElem?_eq_getElem (by omega)] at h3
      exact ⟨cs'[j]'(by omega), _, k, List.getElem?_eq_getElem (by omega), h3⟩
end
theorem at_off (a : Addr) (n : Nat) : (a.add n).off = a.off + n := by unfold Addr.add; split <;> simp_all
/-- the cell behind an element's first -/
theorem at_next (a : Addr) (n j : Nat) : a.add (n + (j + 1)) = ⟨(a.add n).block, (a.add n).off + (j + 1), none⟩ := by
  rw [show n + (j + 1) = (n + j) + 1 by omega, Addr.add_succ', addr_add_block, at_off]
  simp
end Go.Proofs.Ytmkaijjakcjflaa
