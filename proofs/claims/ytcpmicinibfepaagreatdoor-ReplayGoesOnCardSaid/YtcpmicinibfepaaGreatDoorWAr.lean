/- Walks of layer 7 (disk): Up. -/
import Derived.Test.YtcpmicinibfepaaGreatDoorWAp
import Derived.Test.YtcpmicinibfepaaGreatDoorWAj
namespace Go.Proofs.YtcpmicinibfepaaGreatDoor
open Go.ChangeShapes Go.WideShapes Go.ChangeAt Go.RowKit Go.Deep DiskP


/-- a file behind an Up, and the numbers that are left -/
def upOne (f : Fl) (ks : List Int) : Fl × List Int :=
  if f.su = f.all.size then (f, ks)
  else match ks with
    | [] => ({ f with all := f.all.extract 0 f.su, su := f.su }, [])
    | x :: r => let q := f.su + (max 0 (min x ((f.all.size : Int) - (f.su : Int)))).toNat
      ({ f with all := f.all.extract 0 q, su := q }, r)
def upL (fs : List Fl) (ks : List Int) : List Fl × List Int := fs.foldl (fun st f => (st.1 ++ [(upOne f st.2).1], (upOne f st.2).2)) ([], ks)
theorem upL_snoc (fs : List Fl) (f : Fl) (ks : List Int) : upL (fs ++ [f]) ks = ((upL fs ks).1 ++ [(upOne f (upL fs ks).2).1], (upOne f (upL fs ks).2).2) := by simp [upL, List.foldl_append]
theorem upL_length (fs : List Fl) (ks : List Int) : (upL fs ks).1.length = fs.length := by
  suffices h : ∀ (fs : List Fl) (st : List Fl × List Int), (fs.foldl (fun st f => (st.1 ++ [(upOne f st.2).1], (upOne f st.2).2)) st).1.length = st.1.length + fs.length by
    simpa [upL] using h fs ([], ks)
  intro fs
  induction fs with
  | nil => intro st; simp
  | cons f fs ih => intro st; rw [List.foldl_cons, ih]; simp; omega
theorem up_take {fs : List Fl} {k : Nat} {f : Fl} (hk : fs[k]? = some f) (ks : List Int) : (upL (fs.take (k + 1)) ks).1 = (upL (fs.take k) ks).1 ++ [(upOne f (upL (fs.take k) ks).2).1] ∧ (upL (fs.take (k + 1)) ks).2 = (upOne f (upL (fs.take k) ks).2).2 := by
  rw [fl_take hk, upL_snoc]
  exact ⟨rfl, rfl⟩
/-- the files in the midst of an Up -/
def upAt (fs : List Fl) (ks : List Int) (k : Nat) : List Fl := (upL (fs.take k) ks).1 ++ fs.drop k
theorem upAt_len (fs : List Fl) (ks : List Int) (k : Nat) (hk : k ≤ fs.length) : (upAt fs ks k).length = fs.length := by
  unfold upAt
  rw [List.length_append, upL_length, List.length_take, List.length_drop]; omega
theorem upAt_get {fs : List Fl} {k : Nat} {f : Fl} (hk : fs[k]? = some f) (ks : List Int) : (upAt fs ks k)[k]? = some f := by
  have hl := (List.getElem?_eq_some_iff.1 hk).1
  unfold upAt
  have h1 : (upL (fs.take k) ks).1.length = k := by rw [upL_length, List.length_take]; omega
  rw [List.getElem?_append_right (by omega), h1, List.getElem?_drop, Nat.sub_self, Nat.add_zero, hk]
theorem upAt_set {fs : List Fl} {k : Nat} {f : Fl} (hk : fs[k]? = some f) (ks : List Int) : (upAt fs ks k).set k (upOne f (upL (fs.take k) ks).2).1 = upAt fs ks (k + 1) := by
  have hl := (List.getElem?_eq_some_iff.1 hk).1
  unfold upAt
  have h1 : (upL (fs.take k) ks).1.length = k := by rw [upL_length, List.length_take]; omega
  rw [List.set_append_right _ _ (by omega), h1, Nat.sub_self, List.drop_eq_getElem_cons hl, List.set_cons_zero, (up_take hk ks).1]
  simp
def upD (S : DS) (ks : List Int) : DS := { S with fs := (upL S.fs ks).1, on := true, fuse := -1 }
theorem dkeep_drew {d : Nat} {w : World} (hd : d ≤ w.heap.size) : DKeep d w w.drew := DKeep.of_below (Below.refl _ w).drew hd
theorem dkeep_drew3 {d : Nat} {w : World} (hd : d ≤ w.heap.size) : DKeep d w w.drew.drew.drew := DKeep.of_below (Below.refl _ w).drew.drew.drew hd
set_option maxRecDepth 100000 in
set_option maxHeartbeats 8000000 in
theorem disk_Up (d : Nat) (A : Option Addr) (c : Nat) (S : DS) (hS : OkD S) (hmade : S.made = true) (Ak : Option Addr) (ck : Nat) (ks : List Int) (hkc : ks.length ≤ ck) (hkl : ks.length ≤ 1000) (w : World) (h : Dk d A c S w)
    (hks : ∀ W, DKeep d w W → Rd W W.heap.size Ak (ks.map (Value.int .i64))) :
    Calls Tryz.prog 23 #[.pointer (some ⟨d, 0, none⟩), .slice Ak ks.length ck] w (DPost d (upD S ks) (.tuple #[]) w) := by
  have x0 := bx_cells h.box 0
  have x2 := bx_cells h.box 2
  have hm := hS.many
  have HS := Lib.hid hS
  have HD := Lib.hid h
  have HK := Lib.hid hks
  clear hks h hS
  rw [hmade] at x2
  go_enter Tryz.func23, Tryz.ntmps23
  go_wp2_with fail
  go_loopw [1, 21] (fun vk vi wr => ∃ (k : Nat) (A' : Option Addr) (c' : Nat) (ks' : List Int), k ≤ S.fs.length ∧ vi = .int .i64 k ∧ vk = .slice A' ks'.length c' ∧ ks' = (upL (S.fs.take k) ks).2 ∧ ks'.length ≤ c' ∧ ks'.length ≤ 1000 ∧ (∀ W, DKeep d w W → Rd W W.heap.size A' (ks'.map (Value.int .i64))) ∧ Dk d A c { S with fs := upAt S.fs ks k } wr ∧ DKeep d w wr) (fun _ vi _ => S.fs.length - (intOf vi).toNat)
  case atStart => exact ⟨0, Ak, ck, ks, by omega, rfl, rfl, rfl, hkc, hkl, HK.out, HD.out, DKeep.refl d w⟩
  case round =>
    obtain ⟨k, A', c', ks', hk, rfl, rfl, hks', hkc', hkl', hrd, hd, hkp⟩ := hrel
    have HKS := Lib.hid hks'
    have HRD := Lib.hid hrd
    clear hks' hrd
    have hlen := upAt_len S.fs ks k hk
    by_cases hlt : k < S.fs.length
    · obtain ⟨f, hf⟩ : ∃ f, S.fs[k]? = some f := ⟨S.fs[k], List.getElem?_eq_getElem hlt⟩
      have hfs := HS.out.sure f (List.mem_of_getElem? hf)
      have hfz := used_mem hf
      have hU := HS.out.size
      have hat := upAt_get hf ks
      have HSET := Lib.hid (upAt_set hf ks)
      have HT2 := Lib.hid (up_take hf ks).2
      rw [← HKS.out] at HSET HT2
      obtain ⟨g, rfl, hdg, hgl⟩ := row_some hd.row (by rw [hlen]; omega)
      have y0 := bx_cells hd.box 0
      have y1 := hd.row.cells (g := g) rfl (k * 3 + 1) (.string f.all) (by rw [fC_at _ k f hat 1 (by omega)]; rfl)
      have y2 := hd.row.cells (g := g) rfl (k * 3 + 2) (.int .i64 (f.su : Int)) (by rw [fC_at _ k f hat 2 (by omega)]; rfl)
      rw [fl_add_0] at y1 y2
      have y3 := hd.row.frozenAt (k * 3 + 1)
      have y4 := hd.row.frozenAt (k * 3 + 2)
      have hi1 : (k : Int) < (S.fs.length : Int) := by omega
      have hi2 : (k : Int) < ((upAt S.fs ks k).length : Int) := by omega
      have hi3 : k < (upAt S.fs ks k).length := by omega
      by_cases hsu : f.su = f.all.size
      · have e5 : ((f.su : Int) == (f.all.size : Int)) = true := by rw [beq_iff_eq]; omega
        go_wp2_with fail
        go_region
        go_wp2_with fail
        have hone : upOne f ks' = (f, ks') := by unfold upOne; rw [if_pos hsu]
        have hsame : upAt S.fs ks (k + 1) = upAt S.fs ks k := by
          rw [← HSET.out, hone]
          obtain ⟨h1, h2⟩ := List.getElem?_eq_some_iff.1 hat
          rw [← h2, List.set_getElem_self]
        refine ⟨⟨k + 1, A', c', ks', by omega, by go_num, rfl, by rw [HT2.out, hone], hkc', hkl', HRD.out, ⟨by rw [hsame]; exact hd.box, by rw [hsame]; exact hd.row.drew⟩, hkp.trans (dkeep_drew (Nat.le_of_lt hd.lt))⟩, by simp [intOf]; omega⟩
      · have e5 : ((f.su : Int) == (f.all.size : Int)) = false := by rw [beq_eq_false_iff_ne]; omega
        cases ks' with
        | nil =>
          have hone : upOne f [] = ({ f with all := f.all.extract 0 f.su, su := f.su }, []) := by unfold upOne; rw [if_neg hsu]
          obtain ⟨q1, q2⟩ := hd.set_file2 (k := k) (a := f.all.extract 0 f.su) (m := f.su) hat
          have hq : (f.all.extract 0 f.su).size = f.su := by rw [ByteArray.size_extract]; omega
          have hi5 : (f.su : Int) ≤ (f.all.size : Int) := by omega
          have hmin : min f.su f.all.size = f.su := by omega
          go_wp2_with fail
          go_region
          go_wp2_with fail
          go_region
          go_wp2_with fail
          have hs2 := HSET.out
          rw [hone] at hs2
          simp only at hs2
          rw [hs2] at q1
          have K2 := hkp.trans (q2.trans ((dkeep_drew (Nat.le_of_lt q1.lt)).trans (dkeep_drew (Nat.le_of_lt q1.lt))))
          refine ⟨⟨k + 1, A', c', [], by omega, by go_num, rfl, by rw [HT2.out, hone], by simp, by simp, HRD.out, ⟨q1.box, q1.row⟩, K2⟩, by simp [intOf]; omega⟩
        | cons x r =>
          obtain ⟨ad, rfl, hadl, hxc⟩ := HRD.out wr hkp 0 (.int .i64 x) rfl
          rw [show ad.add 0 = ad by simp [Addr.add]] at hxc
          obtain ⟨t, ht⟩ : ∃ t, min x ((f.all.size : Int) - (f.su : Int)) = t := ⟨_, rfl⟩
          obtain ⟨kk, hkk⟩ : ∃ kk : Nat, max 0 t = (kk : Int) := ⟨(max 0 t).toNat, by omega⟩
          have hone : upOne f (x :: r) = ({ f with all := f.all.extract 0 (f.su + kk), su := f.su + kk }, r) := by unfold upOne; rw [if_neg hsu]; simp only [ht, hkk, Int.toNat_natCast]
          have hqk : f.su + kk ≤ f.all.size := by omega
          obtain ⟨q, hqe⟩ : ∃ q, f.su + kk = q := ⟨_, rfl⟩
          rw [hqe] at hone hqk
          obtain ⟨q1, q2⟩ := hd.set_file2 (k := k) (a := f.all.extract 0 q) (m := q) hat
          have hs2 := HSET.out
          rw [hone] at hs2
          simp only at hs2
          rw [hs2] at q1
          have HH := Lib.hid (And.intro HT2.out hone)
          have HKK := Lib.hid (And.intro ht hkk)
          have hqi : (f.su : Int) + (kk : Int) = (q : Int) := by omega
          have hmin : min q f.all.size = q := by omega
          have hi5 : (q : Int) ≤ (f.all.size : Int) := by omega
          have K2 := fun (X : World) (hX : X.heap = ((wr.setCell ⟨g, k * 3 + 1, none⟩ (.string (f.all.extract 0 q))).setCell ⟨g, k * 3 + 2, none⟩ (.int .i64 (q : Int))).heap) => hX
          have HQ := Lib.hid (And.intro q1 (hkp.trans q2))
          have HT := Lib.hid (fun (W : World) (kw : DKeep d w W) (j : Nat) (u : Value) (hj : (r.map (Value.int .i64))[j]? = some u) => HRD.out W kw (j + 1) u (by simpa using hj))
          have hi6 : (1 : Int) ≤ (r.length : Int) + 1 := by omega
          have hrl : r.length + 1 ≤ 1000 := by simpa using hkl'
          have hrc : r.length + 1 ≤ c' := by simpa using hkc'
          clear hone hqe q1 q2 hs2 HSET HT2 K2
          by_cases hc1 : c' = 1
          · subst hc1
            obtain rfl : r = [] := List.eq_nil_of_length_eq_zero (by omega)
            go_wp2_with fail
            go_region
            go_wp2_with fail
            go_region
            go_wp2_with fail
            go_region
            go_wp2_with fail
            have hdl := HQ.out.1.lt
            have K3 := HQ.out.2.trans (dkeep_drew3 (Nat.le_of_lt hdl))
            refine ⟨⟨k + 1, some ad, 0, [], by omega, by go_num, rfl, by rw [HH.out.1, HH.out.2], by simp, by simp, fun W _ => Rd.nil, ⟨HQ.out.1.box, HQ.out.1.row⟩, K3⟩, by simp [intOf]; omega⟩
          · have hb4 : ¬ (c' = 1) := hc1
            go_wp2_with fail
            go_region
            go_wp2_with fail
            go_region
            go_wp2_with fail
            go_region
            go_wp2_with fail
            have hdl := HQ.out.1.lt
            have K3 := HQ.out.2.trans (dkeep_drew3 (Nat.le_of_lt hdl))
            refine ⟨⟨k + 1, some ⟨ad.block, ad.off + 1, none⟩, c' - 1, r, by omega, by go_num, rfl, by rw [HH.out.1, HH.out.2], by omega, by omega, fun W kw j u hj => ?_, ⟨HQ.out.1.box, HQ.out.1.row⟩, K3⟩, by simp [intOf]; omega⟩
            obtain ⟨ad2, e2, hl2, hc2⟩ := HT.out W kw j u hj
            obtain rfl := Option.some.inj e2
            refine ⟨_, rfl, hl2, ?_⟩
            rw [show (⟨ad.block, ad.off + 1, none⟩ : Addr) = ad.add 1 by unfold Addr.add; rw [if_neg (by decide)], Deep.add_add, Nat.add_comm 1 j]
            exact hc2
    · obtain rfl : k = S.fs.length := by omega
      have hfin : upAt S.fs ks S.fs.length = (upL S.fs ks).1 := by unfold upAt; rw [List.take_length, List.drop_length, List.append_nil]
      rw [hfin] at hd
      have q1 := (hd.set_on true).set_fuse (-1)
      have q2 := bx_cells hd.box 3
      have q3 := bx_free hd.box 3
      have q4 := bx_cells (hd.set_on true).box 4
      have q5 := bx_free (hd.set_on true).box 4
      have q6 := hkp.trans ((dkeep_set (w := wr) (d := d) (j := 3) (.bool true)).trans (dkeep_set (j := 4) (.int .i64 (-1))))
      go_wp2_with fail
      go_end0
      exact ⟨rfl, A, c, q1, q6⟩
end Go.Proofs.YtcpmicinibfepaaGreatDoor
