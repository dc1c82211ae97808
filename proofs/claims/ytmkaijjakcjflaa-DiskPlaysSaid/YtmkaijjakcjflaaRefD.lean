/- The document's disk (layer 7): without. -/
import Derived.Test.YtmkaijjakcjflaaRefC
namespace Go.Proofs.Ytmkaijjakcjflaa
open Go.ChangeShapes Go.WideShapes Go.ChangeAt Go.RowKit Go.Deep DiskP

def outX (L : List Fl) (nm : ByteArray) : List Fl := L.filter fun f => decide (f.nm ≠ nm)
theorem outX_len (L : List Fl) (nm : ByteArray) : (outX L nm).length ≤ L.length := List.length_filter_le _ _
theorem outX_snoc (L : List Fl) (nm : ByteArray) (f : Fl) : outX (L ++ [f]) nm = if f.nm = nm then outX L nm else outX L nm ++ [f] := by
  unfold outX
  rw [List.filter_append]
  split
  · rename_i h; simp [h]
  · rename_i h; simp [h]

set_option maxRecDepth 100000 in
set_option maxHeartbeats 4000000 in
theorem ref7_without' (x : Nat) (A : Option Addr) (c : Nat) (S : DS) (hl : S.fs.length ≤ 1000) (nm : ByteArray) (w : World) (h : Rk x A c S w) :
    Calls Try.prog 54 #[.pointer (some ⟨x, 0, none⟩), .string nm] w fun e w' => e = .returned (.tuple #[]) ∧ ∃ A' c', Rk x A' c' { S with fs := outX S.fs nm } w' ∧ RKeep x none w w' ∧ ∀ g, Value.ownBlock (.slice A' (outX S.fs nm).length c') = some g → w.heap.size ≤ g := by
  have hsz := h.lt
  have x0 := bx_cells h.box 0
  have HR := Lib.hid (RdFl_own h.row)
  have HX := Lib.hid h.box
  have HT0 := Lib.hid h
  clear h
  obtain ⟨i0, hi, hz0, hz1, hz2⟩ := info_parts' info_rfile
  have HI := Lib.hid (And.intro hi (And.intro hz0 (And.intro hz1 hz2)))
  clear hi hz0 hz1 hz2
  have HCELL := Lib.hid (fun (W : World) (hb : Below w.heap.size w W) => bx_kept HX.out hb)
  go_enter Try.func54, Try.ntmps54
  go_wp2_with fail
  go_loopw [4, 5] (fun vn i wr => ∃ k : Nat, k ≤ S.fs.length ∧ i = .int .i64 k ∧ wr.ownsRow w.heap.size 54 3 vn (outX (S.fs.take k) nm).length ((outX (S.fs.take k) nm).flatMap fC) ∧ Below w.heap.size w wr) (fun _ i _ => S.fs.length - (intOf i).toNat)
  case atStart => exact ⟨0, by omega, rfl, World.ownsRow_nil _ _ _ _, Below.refl _ _⟩
  case round =>
    obtain ⟨k, hk, rfl, hown, hb⟩ := hrel
    have HO := Lib.hid hown
    have bx := HCELL.out _ hb
    have y0 := bx_cells bx 0
    have hbz := hb.size
    by_cases hlt : k < S.fs.length
    · obtain ⟨f, hk'⟩ : ∃ f, S.fs[k]? = some f := ⟨S.fs[k], List.getElem?_eq_getElem hlt⟩
      obtain ⟨ad, rfl, hadl, c0, c1, c2⟩ := HR.out.below hb k f hk'
      have HS := Lib.hid (fl_take hk')
      have hml : (outX (S.fs.take k) nm).length ≤ k := Nat.le_trans (outX_len (S.fs.take k) nm) (by rw [List.length_take]; omega)
      have hi1 : (k : Int) < (S.fs.length : Int) := by omega
      clear hk' hown bx
      obtain ⟨f1, f2, f3⟩ := f
      simp only at c0 c1 c2
      by_cases he : f1 = nm
      · subst he
        go_wp2_with fail
        refine ⟨⟨k + 1, by omega, by go_num, ?_, hb⟩, by show S.fs.length - ((k : Int) + 1).toNat < S.fs.length - ((k : Int)).toNat; omega⟩
        rw [HS.out, outX_snoc, if_pos rfl]
        exact HO.out
      · have he2 := str_ne he
        have HE := Lib.hid he
        clear he
        obtain ⟨M, hM⟩ : ∃ M, outX (S.fs.take k) nm = M := ⟨_, rfl⟩
        rw [hM] at HO hml
        have HM := Lib.hid hM
        clear hM
        go_wp2_with (at_builtin; refine wpList_append_two rfl _ _ _ (by rfl) w.heap.size 54 i0 _ 3 40 Try.underlying47 HI.out.1 HI.out.2.1 HI.out.2.2.1 HI.out.2.2.2 rfl (by decide) (by decide) _ _ _ (by rfl) wr HO.out _ _ rfl (by rfl) (by rfl) (by simp [Value.oneCell']) (by omega) hbz ?_; intro g1 cap1 w1 hA1; have b1 := hb.grown hA1.gb hbz (fun k e => (HO.out.lt k e).1))
        refine ⟨⟨k + 1, by omega, by go_num, ?_, b1⟩, by show S.fs.length - ((k : Int) + 1).toNat < S.fs.length - ((k : Int)).toNat; omega⟩
        rw [HS.out, outX_snoc, if_neg HE.out, HM.out]
        have := hA1.own
        have el : (M ++ [(⟨f1, f2, f3⟩ : Fl)]).length = M.length + 1 := by simp
        rw [el, List.flatMap_append]
        simpa [fC] using this
    · obtain rfl : k = S.fs.length := by omega
      rw [List.take_length] at hown HO
      obtain ⟨B1, d1, rfl⟩ := bx_shape hown
      have f0 := bx_free bx 0
      have HBX := Lib.hid (bx_set bx 0 (.slice B1 (outX S.fs nm).length d1))
      clear bx hown
      go_wp2_with fail
      go_end0
      refine ⟨rfl, B1, d1, ⟨by simpa using HBX.out, ?_⟩, (RKeep.of_below hb (by omega)).trans (rkeep_set _), fun g hg => (HO.out.lt g hg).1⟩
      exact own_mono (own_at HO.out fun g hg => by
          have := (HO.out.lt g hg).1
          rw [heap_setCell_other _ ⟨x, 0, none⟩ g _ (by show g ≠ x; omega)]) (by omega)
theorem TKeep.of_rkeep {T : TypeId} {d : Nat} {w w' : World} (h : RKeep d none w w') : TKeep T d w w' := ⟨h.below, fun b hb hs _ => h.others b hb hs (by simp)⟩
end Go.Proofs.Ytmkaijjakcjflaa
