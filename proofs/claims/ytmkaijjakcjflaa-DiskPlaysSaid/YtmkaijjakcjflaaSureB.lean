/- Layer 7: the files of which something must be there: drop and set. -/
import Derived.Test.YtmkaijjakcjflaaSure
namespace Go.Proofs.Ytmkaijjakcjflaa
open Go.ChangeShapes Go.WideShapes Go.ChangeAt Go.RowKit Go.Deep DiskP

/-- two rows that grow together, apart -/
structure Two (B : Nat) (v1 v2 : Value) (M : List (ByteArray × ByteArray)) (w : World) : Prop where
  a : w.ownsRow B 9 1 v1 M.length (M.map fun p => Value.string p.1)
  b : w.ownsRow B 9 1 v2 M.length (M.map fun p => Value.string p.2)
  apart : ∀ g, v1.ownBlock = some g → v2.ownBlock ≠ some g
theorem Two.b_after {B g cap : Nat} {v1 v2 : Value} {M : List (ByteArray × ByteArray)} {w w1 : World} {cs : Array Value} (h : Two B v1 v2 M w) (hA : Appended2 B 9 1 w v1 M.length (M.map fun p => Value.string p.1) cs g cap w1) :
    w1.ownsRow B 9 1 v2 M.length (M.map fun p => Value.string p.2) ∧ v2.ownBlock ≠ some g := by
  refine ⟨h.b.kept hA.gb ?_, fun e => ?_⟩
  · cases he : v2.ownBlock with
    | none => exact .inl rfl
    | some x => exact .inr fun e => h.apart x e.symm he
  · rcases hA.fresh with hf | hf
    · exact h.apart g hf e
    · have := (h.b.lt g e).2; omega
theorem Two.next {B g1 g2 cap1 cap2 : Nat} {v1 v2 : Value} {M : List (ByteArray × ByteArray)} {w w1 w2 : World} {x1 x2 : ByteArray} (h : Two B v1 v2 M w)
    (hA : Appended2 B 9 1 w v1 M.length (M.map fun p => Value.string p.1) #[.string x1] g1 cap1 w1) (hB : Appended2 B 9 1 w1 v2 M.length (M.map fun p => Value.string p.2) #[.string x2] g2 cap2 w2) :
    Two B (.slice (some ⟨g1, 0, none⟩) (M.length + 1) cap1) (.slice (some ⟨g2, 0, none⟩) (M.length + 1) cap2) (M ++ [(x1, x2)]) w2 := by
  obtain ⟨_, hne⟩ := h.b_after hA
  refine ⟨?_, ?_, ?_⟩
  · have := hA.own.kept hB.gb (.inr (by show some g1 ≠ v2.ownBlock; exact fun e => hne e.symm))
    simpa using this
  · simpa using hB.own
  · intro g e1 e2
    have e1' : g1 = g := by simpa [Value.ownBlock] using e1
    have e2' : g2 = g := by simpa [Value.ownBlock] using e2
    subst e1'
    rcases hB.fresh with hf | hf
    · rw [hf] at hne; exact hne (by rw [e2'])
    · have := hA.lt; omega
theorem own_mono {w : World} {base base' n sz : Nat} {e : TypeId} {v : Value} {xs : List Value} (h : w.ownsRow base e sz v n xs) (hb : base' ≤ base) : w.ownsRow base' e sz v n xs := by
  refine ⟨h.1, ?_⟩
  rcases h.2 with hn | ⟨g, cap, cur, h1, h2, h3⟩
  · exact .inl hn
  · exact .inr ⟨g, cap, cur, h1, by omega, h3⟩
theorem app_below {B g cap n b0 : Nat} {v : Value} {xs : List Value} {e : TypeId} {w w1 W : World} {cs : Array Value} (hb : Below b0 W w) (h0 : w.ownsRow B e 1 v n xs) (hB : b0 ≤ B) (hs : b0 ≤ w.heap.size) (hA : Appended2 B e 1 w v n xs cs g cap w1) : Below b0 W w1 :=
  hb.grown hA.gb hs (fun k e => by have := (h0.lt k e).1; omega)

set_option maxRecDepth 100000 in
set_option maxHeartbeats 4000000 in
theorem sure_drop (s c1 c2 : Nat) (A1 A2 : Option Addr) (L : List (ByteArray × ByteArray)) (hl : L.length ≤ 1000) (nm : ByteArray) (w : World) (h : Sr s A1 A2 c1 c2 L w) :
    Calls Try.prog 33 #[.pointer (some ⟨s, 0, none⟩), .string nm] w fun e w' => e = .returned (.tuple #[]) ∧ ∃ A1 A2 c1 c2, Sr s A1 A2 c1 c2 (dropL L nm) w' ∧ TKeep 9 s w w' := by
  have hsz := h.lt
  have x0 := bx_cells h.box 0
  have x1 := bx_cells h.box 1
  have HN := Lib.hid h.names
  have HB := Lib.hid h.bytes
  have HX := Lib.hid h.box
  clear h
  obtain ⟨i0, hi, hz0, hz1, hz2⟩ := info_parts' info_str
  have HI := Lib.hid (And.intro hi (And.intro hz0 (And.intro hz1 hz2)))
  clear hi hz0 hz1 hz2
  have HCELL := Lib.hid (fun (W : World) (hb : Below w.heap.size w W) => bx_kept HX.out hb)
  go_enter Try.func33, Try.ntmps33
  go_wp2_with fail
  go_loopw [4, 5, 6] (fun vn va i wr => ∃ k : Nat, k ≤ L.length ∧ i = .int .i64 k ∧ Two w.heap.size vn va (dropL (L.take k) nm) wr ∧ Below w.heap.size w wr) (fun _ _ i _ => L.length - (intOf i).toNat)
  case atStart => exact ⟨0, by omega, rfl, ⟨World.ownsRow_nil _ _ _ _, World.ownsRow_nil _ _ _ _, by simp [Value.ownBlock]⟩, Below.refl _ _⟩
  case round =>
    obtain ⟨k, hk, rfl, htw, hb⟩ := hrel
    have HTW := Lib.hid htw
    have bx := HCELL.out _ hb
    have y0 := bx_cells bx 0
    have y1 := bx_cells bx 1
    by_cases hlt : k < L.length
    · obtain ⟨p, hk'⟩ : ∃ f, L[k]? = some f := ⟨L[k], List.getElem?_eq_getElem hlt⟩
      have RN := Rd.ownAt (own_below HN.out hb) hk'
      have RB := Rd.ownAt (own_below HB.out hb) hk'
      obtain ⟨a1, rfl, l1, z1⟩ := RN
      obtain ⟨a2, rfl, l2, z2⟩ := RB
      have HS := Lib.hid (ataken L k p hk')
      have hml : (dropL (L.take k) nm).length ≤ k := Nat.le_trans (drop_len (L.take k) nm) (by rw [List.length_take]; omega)
      have hi1 : (k : Int) < (L.length : Int) := by omega
      have hbz := hb.size
      have HRB := Lib.hid (fun (W : World) (hb : Below w.heap.size w W) => Rd.ownAt (own_below HB.out hb) hk')
      clear hk' htw bx
      obtain ⟨p1, p2⟩ := p
      simp only at z1 z2
      by_cases he : p1 = nm
      · subst he
        go_wp2_with fail
        refine ⟨⟨k + 1, by omega, by go_num, ?_, hb⟩, by show L.length - ((k : Int) + 1).toNat < L.length - ((k : Int)).toNat; omega⟩
        rw [HS.out, drop_snoc, if_pos rfl]
        exact HTW.out
      · have he2 := str_ne he
        have HE := Lib.hid he
        clear he
        go_wp2_with (first
          | (at_builtin; refine wpList_append_two rfl _ _ _ (by rfl) w.heap.size 9 i0 _ 1 16 Try.underlying28 HI.out.1 HI.out.2.1 HI.out.2.2.1 HI.out.2.2.2 rfl (by decide) (by decide) _ _ _ (by rfl) wr HTW.out.a _ _ rfl (by rfl) (by rfl) (by simp [Value.oneCell']) (by omega) hbz ?_; intro g1 cap1 w1 hA1; have b1 := app_below hb HTW.out.a (Nat.le_refl _) hbz hA1; have b1z := b1.size; have u0 := bx_cells (HCELL.out _ b1) 1; obtain ⟨a2', e2, _, u2⟩ := HRB.out _ b1; obtain rfl : a2 = a2' := Option.some.inj e2; clear e2)
          | (at_builtin; refine wpList_append_two rfl _ _ _ (by rfl) w.heap.size 9 i0 _ 1 16 Try.underlying28 HI.out.1 HI.out.2.1 HI.out.2.2.1 HI.out.2.2.2 rfl (by decide) (by decide) _ _ _ (by rfl) w1 (HTW.out.b_after hA1).1 _ _ rfl (by rfl) (by rfl) (by simp [Value.oneCell']) (by omega) b1z ?_; intro g2 cap2 w2 hA2; have b2 := app_below b1 (HTW.out.b_after hA1).1 (Nat.le_refl _) b1z hA2))
        refine ⟨⟨k + 1, by omega, by go_num, ?_, b2⟩, by show L.length - ((k : Int) + 1).toNat < L.length - ((k : Int)).toNat; omega⟩
        rw [HS.out, drop_snoc, if_neg HE.out]
        have hn := HTW.out.next hA1 hA2
        have el : (dropL (L.take k) nm ++ [(p1, p2)]).length = (dropL (L.take k) nm).length + 1 := by simp
        refine ⟨?_, ?_, hn.apart⟩
        · have := hn.a; rw [el] at this ⊢; exact this
        · have := hn.b; rw [el] at this ⊢; exact this
    · obtain rfl : k = L.length := by omega
      rw [List.take_length] at htw HTW
      obtain ⟨B1, d1, rfl⟩ := bx_shape htw.a
      obtain ⟨B2, d2, rfl⟩ := bx_shape htw.b
      have f0 := bx_free bx 0
      have bx2 := bx_set bx 0 (.slice B1 (dropL L nm).length d1)
      have f1 := bx_free bx2 1
      have y1' := bx_cells bx2 1
      have bx3 := bx_set bx2 1 (.slice B2 (dropL L nm).length d2)
      have HBX := Lib.hid bx3
      clear bx bx2 bx3 htw
      go_wp2_with fail
      go_end0
      have key : ∀ {v : Value} {xs : List Value}, wr.ownsRow w.heap.size 9 1 v (dropL L nm).length xs → ((wr.setCell ⟨s, 0, none⟩ (.slice B1 (dropL L nm).length d1)).setCell ⟨s, 1, none⟩ (.slice B2 (dropL L nm).length d2)).ownsRow (s + 1) 9 1 v (dropL L nm).length xs := fun ho =>
        own_mono (own_at ho fun g hg => by
          have := (ho.lt g hg).1
          rw [heap_setCell_other _ ⟨s, 1, none⟩ g _ (by show g ≠ s; omega), heap_setCell_other _ ⟨s, 0, none⟩ g _ (by show g ≠ s; omega)]) (by omega)
      refine ⟨rfl, B1, B2, d1, d2, ⟨by simpa using HBX.out, key HTW.out.a, key HTW.out.b, HTW.out.apart⟩, ?_⟩
      exact ((TKeep.of_below hb (by omega)).trans (TKeep.set _)).trans (TKeep.set _)
set_option maxRecDepth 100000 in
set_option maxHeartbeats 4000000 in
theorem sure_set (s c1 c2 : Nat) (A1 A2 : Option Addr) (L : List (ByteArray × ByteArray)) (hl : L.length ≤ 1000) (nm x : ByteArray) (w : World) (h : Sr s A1 A2 c1 c2 L w) :
    Calls Try.prog 31 #[.pointer (some ⟨s, 0, none⟩), .string nm, .string x] w fun e w' => e = .returned (.tuple #[]) ∧ ∃ A1 A2 c1 c2, Sr s A1 A2 c1 c2 (dropL L nm ++ [(nm, x)]) w' ∧ TKeep 9 s w w' := by
  have HD := Lib.hid (sure_drop s c1 c2 A1 A2 L hl nm w h)
  have hml := drop_len L nm
  obtain ⟨M, hM⟩ : ∃ M, dropL L nm = M := ⟨_, rfl⟩
  rw [hM] at HD hml ⊢
  obtain ⟨i0, hi, hz0, hz1, hz2⟩ := info_parts' info_str
  have HI := Lib.hid (And.intro hi (And.intro hz0 (And.intro hz1 hz2)))
  clear hi hz0 hz1 hz2 h hM
  go_enter Try.func31, Try.ntmps31
  go_wp2_with (first
    | (go_at_call 33; (with_reducible refine (HD.out).mono ?_); rintro e w1 ⟨rfl, B1, B2, e1, e2, q1, k1⟩; have hs1 := q1.lt; have y0 := bx_cells q1.box 0; have HQ := Lib.hid q1; have HTW := Lib.hid (Two.mk q1.names q1.bytes q1.apart); clear q1)
    | (at_builtin; refine wpList_append_two rfl _ _ _ (by rfl) (s + 1) 9 i0 _ 1 16 Try.underlying28 HI.out.1 HI.out.2.1 HI.out.2.2.1 HI.out.2.2.2 rfl (by decide) (by decide) _ _ _ (by rfl) w1 HQ.out.names _ _ rfl (by rfl) (by rfl) (by simp [Value.oneCell']) (by omega) (by omega) ?_; intro g1 cap1 w2 hA1; have t2 := TKeep.grown HQ.out.names hA1.gb (Nat.le_of_lt hs1); have s2 := hA1.gb.size; obtain ⟨r2, n2⟩ := HTW.out.b_after hA1; have bx2 := (hA1.gb.block s hs1 (fun e => by have := (HQ.out.names.lt s e.symm).1; omega)).trans HQ.out.box; have z0 := bx_cells bx2 0; have f0 := bx_free bx2 0; have bx3 := bx_set bx2 0 (.slice (some ⟨g1, 0, none⟩) (M.length + 1) cap1); have z1 := bx_cells bx3 1; have r3 := dk_row_other (j := 0) r2 (.slice (some ⟨g1, 0, none⟩) (M.length + 1) cap1); have HB3 := Lib.hid bx3; have HR3 := Lib.hid r3; clear bx2 bx3 r2 r3)
    | (at_builtin; refine wpList_append_two rfl _ _ _ (by rfl) (s + 1) 9 i0 _ 1 16 Try.underlying28 HI.out.1 HI.out.2.1 HI.out.2.2.1 HI.out.2.2.2 rfl (by decide) (by decide) _ _ _ (by rfl) (w2.setCell ⟨s, 0, none⟩ (.slice (some ⟨g1, 0, none⟩) (M.length + 1) cap1)) HR3.out _ w2.heap.size (by simp) (by rfl) (by rfl) (by simp [Value.oneCell']) (by omega) (by simp; omega) ?_; intro g2 cap2 w4 hA2; have t4 := TKeep.grown HR3.out hA2.gb (by simp; omega); have bx4 := (hA2.gb.block s (by simp; omega) (fun e => by have := (HR3.out.lt s e.symm).1; omega)).trans HB3.out; have v0 := bx_cells bx4 1; have f1 := bx_free bx4 1; have HB5 := Lib.hid (bx_set bx4 1 (.slice (some ⟨g2, 0, none⟩) (M.length + 1) cap2)); clear bx4))
  go_end0
  have hs4 := (HR3.out.lt)
  have n1 := hA1.own.kept (w' := w2.setCell ⟨s, 0, none⟩ (.slice (some ⟨g1, 0, none⟩) (M.length + 1) cap1)) (row := some s) ⟨rfl, rfl, rfl, by simp, fun k _ hk => heap_setCell_other w2 ⟨s, 0, none⟩ k _ (fun e => hk (by rw [e]))⟩ (.inr fun e => by have := (hA1.own.lt _ e).1; omega)
  have hTW : Two (s + 1) (.slice (some ⟨g1, 0, none⟩) (M.length + 1) cap1) (.slice (some ⟨g2, 0, none⟩) (M.length + 1) cap2) (M ++ [(nm, x)]) w4 := by
    refine ⟨?_, ?_, ?_⟩
    · have := n1.kept hA2.gb (.inr (by show some g1 ≠ Value.ownBlock (.slice B2 M.length e2); exact fun e => n2 e.symm))
      simpa using this
    · simpa using hA2.own
    · intro g q1 q2
      have q1' : g1 = g := by simpa [Value.ownBlock] using q1
      have q2' : g2 = g := by simpa [Value.ownBlock] using q2
      subst q1'
      rcases hA2.fresh with hf | hf
      · rw [hf] at n2; exact n2 (by rw [q2'])
      · have := hA1.lt
        rw [World.size_setCell] at hf
        omega
  have el : (M ++ [(nm, x)]).length = M.length + 1 := by simp
  refine ⟨rfl, some ⟨g1, 0, none⟩, some ⟨g2, 0, none⟩, cap1, cap2, ⟨?_, ?_, ?_, ?_⟩, ?_⟩
  · rw [el]; simpa using HB5.out
  · rw [el]
    have := hTW.a
    rw [el] at this
    exact dk_row_other this _
  · rw [el]
    have := hTW.b
    rw [el] at this
    exact dk_row_other this _
  · rw [el]; exact hTW.apart
  · exact (((k1.trans t2).trans (TKeep.set _)).trans t4).trans (TKeep.set _)
end Go.Proofs.Ytmkaijjakcjflaa
