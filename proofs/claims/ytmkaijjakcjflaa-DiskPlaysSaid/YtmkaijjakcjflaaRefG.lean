/- The document's disk (layer 7): Up. -/
import Derived.Test.YtmkaijjakcjflaaRefF
namespace Go.Proofs.Ytmkaijjakcjflaa
open Go.ChangeShapes Go.WideShapes Go.ChangeAt Go.RowKit Go.Deep DiskP

/-- how many unsure bytes are kept -/
def keepX (ks : List Int) (at_ rest : Nat) : Nat := match ks[at_]? with
  | some x => (max 0 (min x (rest : Int))).toNat
  | none => 0
def upF (f : Fl) (n : Nat) : Fl := ⟨f.nm, f.all.extract 0 (f.su + n), f.su + n⟩
def upX1 (ks : List Int) (st : List Fl × Nat) (nm : ByteArray) : List Fl × Nat := match st.1[fnd st.1 nm]? with
  | none => st
  | some f => if f.all.size = f.su then st else (st.1.set (fnd st.1 nm) (upF f (keepX ks st.2 (f.all.size - f.su))), st.2 + 1)
def upXL (L : List Fl) (ks : List Int) (nms : List ByteArray) : List Fl × Nat := nms.foldl (upX1 ks) (L, 0)
theorem upXL_snoc (L : List Fl) (ks : List Int) (nms : List ByteArray) (nm : ByteArray) : upXL L ks (nms ++ [nm]) = upX1 ks (upXL L ks nms) nm := by unfold upXL; rw [List.foldl_append]; rfl
/-- what stays as it is -/
structure UpInv (L : List Fl) (i : Nat) (st : List Fl × Nat) : Prop where
  nms : names st.1 = names L
  sure : ∀ f ∈ st.1, f.su ≤ f.all.size
  big : ∀ f ∈ st.1, f.all.size ≤ 100000000
  at_ : st.2 ≤ i
theorem keepX_le (ks : List Int) (a r : Nat) : keepX ks a r ≤ r := by
  unfold keepX
  split
  · omega
  · omega
theorem upX1_inv {L : List Fl} {i : Nat} {st : List Fl × Nat} (h : UpInv L i st) (ks : List Int) (nm : ByteArray) : UpInv L (i + 1) (upX1 ks st nm) := by
  have h4 := h.at_
  unfold upX1
  split
  · exact ⟨h.nms, h.sure, h.big, by omega⟩
  · rename_i f hf
    split
    · exact ⟨h.nms, h.sure, h.big, by omega⟩
    · have hs := h.sure f (List.mem_of_getElem? hf)
      have hb := h.big f (List.mem_of_getElem? hf)
      have hk := keepX_le ks st.2 (f.all.size - f.su)
      refine ⟨by rw [← h.nms]; exact names_set hf rfl, fun g hg => ?_, fun g hg => ?_, by simp only; omega⟩
      · rcases mem_set hg with rfl | hg
        · unfold upF; simp only [ByteArray.size_extract]; omega
        · exact h.sure g hg
      · rcases mem_set hg with rfl | hg
        · unfold upF; simp only [ByteArray.size_extract]; omega
        · exact h.big g hg
theorem upXL_inv {L : List Fl} (hs : ∀ f ∈ L, f.su ≤ f.all.size) (hb : ∀ f ∈ L, f.all.size ≤ 100000000) (ks : List Int) (nms : List ByteArray) : UpInv L nms.length (upXL L ks nms) := by
  induction nms using RankP.snoc_ind with
  | h0 => exact ⟨rfl, hs, hb, Nat.le_refl _⟩
  | h1 l x ih => rw [upXL_snoc, List.length_append]; exact upX1_inv ih ks x
theorem fnd_lt {L : List Fl} {nm : ByteArray} (h : nm ∈ names L) : fnd L nm < L.length := by
  obtain ⟨f, hf, e⟩ := List.mem_map.1 h
  exact List.findIdx_lt_length_of_exists ⟨f, hf, by simpa using e⟩
theorem insN_mem {out : List ByteArray} {nm a : ByteArray} : a ∈ insN out nm ↔ a = nm ∨ a ∈ out := by
  unfold insN
  constructor
  · intro h
    rcases List.mem_append.1 h with h | h
    · exact .inr (List.mem_of_mem_take h)
    · rcases List.mem_cons.1 h with h | h
      · exact .inl h
      · exact .inr (List.mem_of_mem_drop h)
  · rintro (h | h)
    · exact List.mem_append_right _ (by rw [h]; exact List.mem_cons_self)
    · rw [← List.take_append_drop (posN out nm) out] at h
      rcases List.mem_append.1 h with h | h
      · exact List.mem_append_left _ h
      · exact List.mem_append_right _ (List.mem_cons_of_mem _ h)
theorem namesX_mem {L : List Fl} {a : ByteArray} : a ∈ namesX L ↔ a ∈ names L := by
  induction L using RankP.snoc_ind with
  | h0 => rfl
  | h1 l x ih =>
    rw [namesX_snoc, insN_mem, ih]
    unfold names
    rw [List.map_append, List.mem_append, List.map_cons, List.map_nil, List.mem_singleton]
    exact Or.comm
def upX (S : DS) (ks : List Int) : DS := { S with fs := (upXL S.fs ks (namesX S.fs)).1, on := true, fuse := -1 }
theorem tkeep_row {T e : TypeId} {x n sz base : Nat} {v : Value} {xs : List Value} {w w' : World} (h : TKeep T x w w') (ho : w.ownsRow base e sz v n xs) (hb : x < base) (he : e ≠ T) : w'.ownsRow base e sz v n xs := own_at ho fun g hg => by
  obtain ⟨cur, hc⟩ := own_type ho hg
  have h1 := ho.lt g hg
  exact h.others g (by omega) h1.2 (fun cs z e' => by rw [hc] at e'; exact he (by simpa using congrArg (fun o => match o with | some (Obj.cells _ T _) => T | _ => 0) e'))

set_option maxRecDepth 100000 in
set_option maxHeartbeats 8000000 in
theorem ref7_Up (x : Nat) (A : Option Addr) (c : Nat) (S : DS) (hS : OkX S) (Ak : Option Addr) (ck : Nat) (ks : List Int) (hkl : ks.length ≤ 1000) (w : World) (h : Rk x A c S w) (hks : Rd w x Ak (ks.map (Value.int .i64))) :
    Calls Try.prog 38 #[.pointer (some ⟨x, 0, none⟩), .slice Ak ks.length ck] w (RPost x (upX S ks) (.tuple #[]) w) := by
  have hm := hS.many
  have hU := hS.size
  have HINV := Lib.hid (fun i => upXL_inv (L := S.fs) hS.sure (fun f hf => by obtain ⟨k, hk, e⟩ := List.getElem_of_mem hf; have := used_mem (fs := S.fs) (k := k) (f := f) (by rw [List.getElem?_eq_getElem hk, e]); omega) ks ((namesX S.fs).take i))
  have HNM := Lib.hid (ref7_Names x A c S (by omega) w h)
  have HMEM := Lib.hid (fun a => (namesX_mem (L := S.fs) (a := a)).1)
  have hnl := namesX_len S.fs
  have HD := Lib.hid h
  have HKS := Lib.hid hks
  have hlt := h.lt
  unfold upX
  obtain ⟨nms, hnms⟩ : ∃ nms, namesX S.fs = nms := ⟨_, rfl⟩
  rw [hnms] at HINV HNM HMEM hnl ⊢
  clear h hks hS hnms
  go_enter Try.func38, Try.ntmps38
  go_wp2_with (go_at_call 20; (with_reducible refine (HNM.out).mono ?_); rintro e w1 ⟨A1, c1, rfl, ho1, b1⟩)
  have hd1 := HD.out.kept b1
  have hk1 := TKeep.of_below (T := 54) (d := x) b1 (Nat.le_of_lt hlt)
  have HN1 := Lib.hid ho1
  clear ho1
  go_loopw [5, 6] (fun va vi wr => ∃ i : Nat, i ≤ S.fs.length ∧ vi = .int .i64 i ∧ va = .int .i64 ((upXL S.fs ks (nms.take i)).2 : Nat) ∧ Rk x A c { S with fs := (upXL S.fs ks (nms.take i)).1 } wr ∧ TKeep 54 x w1 wr) (fun _ vi _ => S.fs.length - (intOf vi).toNat)
  case atStart => exact ⟨0, by omega, rfl, rfl, hd1, TKeep.refl _ _ _⟩
  case round =>
    obtain ⟨i, hi, rfl, rfl, hd, hkp⟩ := hrel
    have hinv := HINV.out i
    rw [List.length_take] at hinv
    have hrow := tkeep_row hkp HN1.out (by omega) (by decide)
    have HSN := Lib.hid (fun nm (hn : nms[i]? = some nm) => (show upXL S.fs ks (nms.take (i + 1)) = upX1 ks (upXL S.fs ks (nms.take i)) nm by rw [btaken _ _ _ hn, upXL_snoc]))
    have hll : (upXL S.fs ks (nms.take i)).1.length = S.fs.length := by have := congrArg List.length hinv.nms; simpa [names] using this
    have hat := hinv.at_
    by_cases hlt2 : i < S.fs.length
    · obtain ⟨nm, hnm⟩ : ∃ nm, nms[i]? = some nm := ⟨nms[i], List.getElem?_eq_getElem (by omega)⟩
      obtain ⟨a1, rfl, hl1, y1⟩ := Rd.own hrow i (.string nm) (by rw [List.getElem?_map, hnm]; rfl)
      have hs1 := HSN.out nm hnm
      have hp : fnd (upXL S.fs ks (nms.take i)).1 nm < (upXL S.fs ks (nms.take i)).1.length := fnd_lt (by rw [hinv.nms]; exact HMEM.out nm (List.mem_of_getElem? hnm))
      obtain ⟨L, at_, hst⟩ : ∃ L at_, upXL S.fs ks (nms.take i) = (L, at_) := ⟨_, _, rfl⟩
      rw [hst] at hinv hd hs1 hp hll hat ⊢
      simp only at hinv hd hs1 hp hll hat ⊢
      have HFI := Lib.hid (ref7_Find x A c { S with fs := L } nm (by simp only; omega) wr hd)
      obtain ⟨f, hf⟩ : ∃ f, L[fnd L nm]? = some f := ⟨L[fnd L nm], List.getElem?_eq_getElem hp⟩
      have hfi : fndI L nm = ((fnd L nm : Nat) : Int) := by unfold fndI; rw [if_pos hp]
      simp only [hfi] at HFI
      have hx1 : upX1 ks (L, at_) nm = if f.all.size = f.su then (L, at_) else (L.set (fnd L nm) (upF f (keepX ks at_ (f.all.size - f.su))), at_ + 1) := by unfold upX1; simp only [hf]
      rw [hx1] at hs1
      obtain ⟨p, hpp⟩ : ∃ p, fnd L nm = p := ⟨_, rfl⟩
      rw [hpp] at HFI hf hp hs1
      have hsu := hinv.sure f (List.mem_of_getElem? hf)
      have hbg := hinv.big f (List.mem_of_getElem? hf)
      obtain ⟨g, rfl, hxg, hgl⟩ := row_some' hd.row (by simp only; omega)
      have z0 := bx_cells hd.box 0
      have z1 := hd.row.cells (g := g) rfl (p * 3) (.string f.nm) (by have := fC_at _ p f hf 0 (by omega); rw [Nat.add_zero] at this; rw [this]; rfl)
      have z2 := hd.row.cells (g := g) rfl (p * 3 + 1) (.string f.all) (by rw [fC_at _ p f hf 1 (by omega)]; rfl)
      have z3 := hd.row.cells (g := g) rfl (p * 3 + 2) (.int .i64 (f.su : Int)) (by rw [fC_at _ p f hf 2 (by omega)]; rfl)
      rw [fl_add_0] at z1 z2 z3
      simp only [hll] at z0
      have hi1 : (p : Int) < (S.fs.length : Int) := by omega
      have hi2 : (i : Int) < (S.fs.length : Int) := by omega
      have hSF := fun (W : World) (hd : Rk x (some ⟨g, 0, none⟩) c { S with fs := L } W) (f' : Fl) => hd.set_file3 (k := p) (f := f) (f' := f') hf
      have HSF := Lib.hid hSF
      have HZ := Lib.hid (fun (W : World) (hd : Rk x (some ⟨g, 0, none⟩) c { S with fs := L } W) => And.intro ((by
        have := hd.row.cells (g := g) rfl (p * 3) (.string f.nm) (by have := fC_at _ p f hf 0 (by omega); rw [Nat.add_zero] at this; rw [this]; rfl)
        rwa [fl_add_0] at this : W.cell? ⟨g, p * 3, none⟩ = some (.string f.nm))) (And.intro ((by
        have := hd.row.cells (g := g) rfl (p * 3 + 1) (.string f.all) (by rw [fC_at _ p f hf 1 (by omega)]; rfl)
        rwa [fl_add_0] at this : W.cell? ⟨g, p * 3 + 1, none⟩ = some (.string f.all))) ((by
        have := hd.row.cells (g := g) rfl (p * 3 + 2) (.int .i64 (f.su : Int)) (by rw [fC_at _ p f hf 2 (by omega)]; rfl)
        rwa [fl_add_0] at this : W.cell? ⟨g, p * 3 + 2, none⟩ = some (.int .i64 (f.su : Int))))))
      have HS1 := Lib.hid hs1
      have HLL := Lib.hid hll
      have HHD := Lib.hid hd
      clear hf hs1 hx1 hst hpp hfi hSF hnm hll hinv hrow hd hd1
      by_cases hr0 : f.all.size = f.su
      · have e5 : ((f.all.size : Int) - (f.su : Int) == 0) = true := by rw [beq_iff_eq]; omega
        have hH := HS1.out
        rw [if_pos hr0] at hH
        have HH := Lib.hid hH
        clear hH
        go_wp2_with (go_at_call 39; (with_reducible refine (HFI.out).mono ?_); rintro e w2 ⟨rfl, rfl⟩)
        exact ⟨⟨i + 1, by omega, by go_num, by rw [HH.out], by rw [HH.out]; exact HHD.out.kept (alloc_kept _ _), hkp.trans (TKeep.of_below (alloc_kept _ _) (Nat.le_of_lt HHD.out.lt))⟩, by show S.fs.length - ((i : Int) + 1).toNat < S.fs.length - ((i : Int)).toNat; omega⟩
      · have e5 : ((f.all.size : Int) - (f.su : Int) == 0) = false := by rw [beq_eq_false_iff_ne]; omega
        have hH := HS1.out
        rw [if_neg hr0] at hH
        have hl0 := HHD.out.lt
        have hat2 : at_ ≤ i := by omega
        by_cases hka : at_ < ks.length
        · obtain ⟨v, hv⟩ : ∃ v, ks[at_]? = some v := ⟨ks[at_], List.getElem?_eq_getElem hka⟩
          obtain ⟨t, ht⟩ : ∃ t, min v ((f.all.size : Int) - (f.su : Int)) = t := ⟨_, rfl⟩
          obtain ⟨kk, hkk⟩ : ∃ kk : Nat, max 0 t = (kk : Int) := ⟨(max 0 t).toNat, by omega⟩
          have hke : keepX ks at_ (f.all.size - f.su) = kk := by
            unfold keepX
            rw [hv]
            simp only
            rw [show ((f.all.size - f.su : Nat) : Int) = (f.all.size : Int) - (f.su : Int) by omega, ht, hkk]
            rfl
          rw [hke] at hH
          have hkr : f.su + kk ≤ f.all.size := by omega
          obtain ⟨q, hqe⟩ : ∃ q, f.su + kk = q := ⟨_, rfl⟩
          have hu : upF f kk = ⟨f.nm, f.all.extract 0 q, q⟩ := by unfold upF; rw [hqe]
          rw [hu] at hH
          have hqi : (f.su : Int) + (kk : Int) = (q : Int) := by omega
          have hq2 : (q : Int) ≤ (f.all.size : Int) := by omega
          have HH := Lib.hid hH
          obtain ⟨ak, rfl, hakl, hak⟩ := (HKS.out.below (hk1.trans hkp).below) at_ (.int .i64 v) (by rw [List.getElem?_map, hv]; rfl)
          have hj1 : (at_ : Int) < (ks.length : Int) := by omega
          have hakl2 := (World.cell?_alloc_lt wr (.cells #[.string f.nm, .string f.all, .int .i64 (f.su : Int)] 54) (ak.add at_) (by rw [addr_add_block]; omega)).trans hak
          have HKK := Lib.hid (And.intro hkr hqe)
          clear hH hke hv hu hkr hqe HS1
          go_wp2_with (go_at_call 39; (with_reducible refine (HFI.out).mono ?_); rintro e w2 ⟨rfl, rfl⟩)
          have hd7 := HHD.out.kept (alloc_kept wr (.cells #[.string f.nm, .string f.all, .int .i64 (f.su : Int)] 54))
          have hk7 := hkp.trans (TKeep.of_below (T := 54) (d := x) (alloc_kept wr (.cells #[.string f.nm, .string f.all, .int .i64 (f.su : Int)] 54)) (Nat.le_of_lt hl0))
          have hb7 := heap_alloc_new wr (.cells #[.string f.nm, .string f.all, .int .i64 (f.su : Int)] 54)
          generalize wr.alloc (.cells #[.string f.nm, .string f.all, .int .i64 (f.su : Int)] 54) = W7 at hd7 hk7 hb7 ⊢
          have v0 := bx_cells hd7.box 0
          simp only [HLL.out] at v0
          obtain ⟨t1, t2, t3⟩ := HZ.out _ hd7
          have v1 := bx_cells hb7 0
          have v2 := bx_cells hb7 1
          have v3 := bx_cells hb7 2
          have z4 := hd7.row.frozenAt (p * 3)
          have z5 := hd7.row.frozenAt (p * 3 + 1)
          have z6 := hd7.row.frozenAt (p * 3 + 2)
          refine wp_region_quiet_tail 20 (by kernel_rfl) (by kernel_rfl) ?_
          simp only [List.take_succ_cons, List.take_zero, List.drop_succ_cons, List.drop_zero]
          repeat (go_big_quiet_step (fail))
          refine wpQuiet_nil ?_
          rintro _ ⟨n2, rfl⟩
          obtain ⟨hd8, hk8⟩ := HSF.out (W7.drewN n2) ⟨hd7.box, hd7.row⟩ ⟨f.nm, f.all.extract 0 q, q⟩
          have hk9 := (hk7.trans (TKeep.of_below (T := 54) (d := x) (below_drewN (Below.refl _ W7) n2) (Nat.le_of_lt hd7.lt))).trans hk8
          go_wp2_with fail
          exact ⟨⟨i + 1, by omega, by go_num, by rw [HH.out]; go_num, by rw [HH.out]; exact hd8, hk9⟩, by show S.fs.length - ((i : Int) + 1).toNat < S.fs.length - ((i : Int)).toNat; omega⟩
        · have hke : keepX ks at_ (f.all.size - f.su) = 0 := by
            unfold keepX
            rw [List.getElem?_eq_none (by omega)]
          rw [hke] at hH
          have hu : upF f 0 = ⟨f.nm, f.all.extract 0 f.su, f.su⟩ := rfl
          rw [hu] at hH
          have hq2 : (f.su : Int) ≤ (f.all.size : Int) := by omega
          have HH := Lib.hid hH
          have hj1 : ¬ (at_ : Int) < (ks.length : Int) := by omega
          clear hH hke hu HS1
          go_wp2_with (go_at_call 39; (with_reducible refine (HFI.out).mono ?_); rintro e w2 ⟨rfl, rfl⟩)
          have hd7 := HHD.out.kept (alloc_kept wr (.cells #[.string f.nm, .string f.all, .int .i64 (f.su : Int)] 54))
          have hk7 := hkp.trans (TKeep.of_below (T := 54) (d := x) (alloc_kept wr (.cells #[.string f.nm, .string f.all, .int .i64 (f.su : Int)] 54)) (Nat.le_of_lt hl0))
          have hb7 := heap_alloc_new wr (.cells #[.string f.nm, .string f.all, .int .i64 (f.su : Int)] 54)
          generalize wr.alloc (.cells #[.string f.nm, .string f.all, .int .i64 (f.su : Int)] 54) = W7 at hd7 hk7 hb7 ⊢
          have v0 := bx_cells hd7.box 0
          simp only [HLL.out] at v0
          obtain ⟨t1, t2, t3⟩ := HZ.out _ hd7
          have v1 := bx_cells hb7 0
          have v2 := bx_cells hb7 1
          have v3 := bx_cells hb7 2
          have z4 := hd7.row.frozenAt (p * 3)
          have z5 := hd7.row.frozenAt (p * 3 + 1)
          have z6 := hd7.row.frozenAt (p * 3 + 2)
          refine wp_region_quiet_tail 20 (by kernel_rfl) (by kernel_rfl) ?_
          simp only [List.take_succ_cons, List.take_zero, List.drop_succ_cons, List.drop_zero]
          repeat (go_big_quiet_step (fail))
          refine wpQuiet_nil ?_
          rintro _ ⟨n2, rfl⟩
          obtain ⟨hd8, hk8⟩ := HSF.out (W7.drewN n2) ⟨hd7.box, hd7.row⟩ ⟨f.nm, f.all.extract 0 f.su, f.su⟩
          have hk9 := (hk7.trans (TKeep.of_below (T := 54) (d := x) (below_drewN (Below.refl _ W7) n2) (Nat.le_of_lt hd7.lt))).trans hk8
          go_wp2_with fail
          exact ⟨⟨i + 1, by omega, by go_num, by rw [HH.out]; go_num, by rw [HH.out]; exact hd8, hk9⟩, by show S.fs.length - ((i : Int) + 1).toNat < S.fs.length - ((i : Int)).toNat; omega⟩
    · obtain rfl : i = S.fs.length := by omega
      rw [List.take_of_length_le (by omega)] at hd
      have q1 := (hd.set_on true).set_fuse (-1)
      have q2 := bx_cells hd.box 2
      have q3 := bx_free hd.box 2
      have q4 := bx_cells (hd.set_on true).box 3
      have q5 := bx_free (hd.set_on true).box 3
      have q6 := (hk1.trans hkp).trans ((TKeep.set (w := wr) (d := x) (j := 2) (.bool true)).trans (TKeep.set (j := 3) (.int .i64 (-1))))
      obtain ⟨Ar, cr, hAr⟩ := bx_shape hrow
      clear HSN hinv hat hrow hll
      go_wp2_with fail
      go_end0
      exact ⟨rfl, A, c, q1, q6⟩
end Go.Proofs.Ytmkaijjakcjflaa
