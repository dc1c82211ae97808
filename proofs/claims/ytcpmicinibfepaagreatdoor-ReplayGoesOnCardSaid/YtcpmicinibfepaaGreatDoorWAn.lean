/- Walks of layer 7 (disk): slices.Insert of a file · Walks of layer 7 (disk): slices.Insert of a file where there is no room; and in all cases. -/
import Derived.Test.YtcpmicinibfepaaGreatDoorWAm
import Derived.Shelf.Spec.SlicesInsertGrow
namespace Go.Proofs.YtcpmicinibfepaaGreatDoor
open Go.ChangeShapes Go.WideShapes Go.ChangeAt Go.RowKit Go.Deep DiskP


theorem dk_copy (w : World) (dT sT ty elem : TypeId) (sz g o dLen dCap : Nat) (a : Addr) (sLen sCap : Nat) (cur : Array Value) (t : TypeId) (cs : List Value)
    (hu : Tryz.prog.underlying dT = some (.slice elem)) (hs : (Tryz.prog.info? elem).map (·.size) = some sz)
    (hg : w.heap[g]? = some (.cells cur t (0, 0))) (m : Nat) (hmin : Nat.min sLen dLen = m) (hn : cs.length = m * sz)
    (hsrc : ∀ j v, cs[j]? = some v → w.cell? (a.add j) = some v) (hfit : o + cs.length ≤ cur.size) (h1 : ∀ v ∈ cs, v.oneCell' = true) :
    (Builtin.copy_ #[dT, sT] ty #[.slice (some ⟨g, o, none⟩) dLen dCap, .slice (some a) sLen sCap]).run Tryz.prog w =
      .ok (goInt m) (w.setRow g (cur.toList.take o ++ cs ++ cur.toList.drop (o + cs.length)).toArray) := by
  have hl := run_loadCells_list (P := Tryz.prog) w a cs hsrc
  have hst := run_storeCells_at Tryz.prog g o t cs 0 cur w hg (by simpa using hfit) h1
  cases hq : Tryz.prog.info? elem with
  | none => simp [hq] at hs
  | some i =>
    have hi : i.size = sz := by simpa [hq] using hs
    simp [Builtin.copy_, run_underlying hu, Builtin.lenOf, Builtin.firstCells, sizeOf, typeInfo, hq, hi, hmin, ← hn, hl, hst]
theorem fC_take (l : List Fl) (k : Nat) : (l.flatMap fC).take (k * 3) = (l.take k).flatMap fC := by
  induction l generalizing k with
  | nil => simp
  | cons x l ih =>
    cases k with
    | zero => simp
    | succ k =>
      rw [List.flatMap_cons, List.take_succ_cons, List.flatMap_cons, ← ih k, List.take_append]
      simp only [fC, List.length_cons, List.length_nil]
      rw [List.take_of_length_le (by simp; omega), show (k + 1) * 3 - (0 + 1 + 1 + 1) = k * 3 by omega]
theorem fC_drop (l : List Fl) (k : Nat) : (l.flatMap fC).drop (k * 3) = (l.drop k).flatMap fC := by
  induction l generalizing k with
  | nil => simp
  | cons x l ih =>
    cases k with
    | zero => simp
    | succ k =>
      rw [List.flatMap_cons, List.drop_succ_cons, ← ih k, List.drop_append]
      simp only [fC, List.length_cons, List.length_nil]
      rw [List.drop_of_length_le (by simp; omega), show (k + 1) * 3 - (0 + 1 + 1 + 1) = k * 3 by omega]
      simp
theorem info_file : (Tryz.prog.info? 81).map (fun i => (i.zero, i.size, i.bytes)) = some (some (.agg #[.string ⟨#[]⟩, .string ⟨#[]⟩, .int .i64 0]), 3, 40) := by kernel_rfl
theorem file_size : (Tryz.prog.info? 81).map (·.size) = some 3 := by kernel_rfl
theorem file_sizeOf (w : World) : (Go.sizeOf 81).run Tryz.prog w = .ok 3 w := by
  obtain ⟨i, hi, h⟩ := Option.map_eq_some_iff.1 file_size
  simp [sizeOf, typeInfo, hi, h]
theorem setRow_at {w : World} {g : Nat} {cur : Array Value} {t : TypeId} {fr : Nat × Nat} (hg : w.heap[g]? = some (.cells cur t fr)) (cs : Array Value) : (w.setRow g cs).heap[g]? = some (.cells cs t fr) := by
  simp [World.setRow, Array.getElem?_modify, hg]
theorem setRow_grown (w : World) (g : Nat) (cs : Array Value) : w.grownBy (w.setRow g cs) (some g) :=
  ⟨rfl, rfl, rfl, by simp [World.setRow], fun k hk hne => by
    simp only [World.setRow]
    rw [Array.getElem?_modify, if_neg (by simpa using fun e => hne (by rw [e]))]⟩
/-- in place: the lists -/
theorem ins_list (X : List Value) (fs : List Fl) (f : Fl) (n k : Nat) (hn : fs.length = n) (hk : k < n) (hX : X.take (n * 3) = fs.flatMap fC) (hl : (n + 1) * 3 ≤ X.length) :
    let X2 := X.take ((k + 1) * 3) ++ (fs.drop k).flatMap fC ++ X.drop ((k + 1) * 3 + ((fs.drop k).flatMap fC).length)
    let X3 := X2.take (k * 3) ++ fC f ++ X2.drop (k * 3 + 3)
    X2.length = X.length ∧ X3.length = X.length ∧ X3.take ((n + 1) * 3) = (fs.take k ++ f :: fs.drop k).flatMap fC := by
  have hd : ((fs.drop k).flatMap fC).length = (n - k) * 3 := by rw [fC_len, List.length_drop, hn]
  have hXk : X.take (k * 3) = (fs.take k).flatMap fC := by
    rw [← fC_take, ← hX, List.take_take, Nat.min_eq_left (by omega)]
  have e1 : (k + 1) * 3 + (n - k) * 3 = n * 3 + 3 := by omega
  intro X2 X3
  have hX2 : X2 = X.take (k * 3) ++ ((X.drop (k * 3)).take 3 ++ ((fs.drop k).flatMap fC ++ X.drop (n * 3 + 3))) := by
    show X.take ((k + 1) * 3) ++ (fs.drop k).flatMap fC ++ X.drop ((k + 1) * 3 + ((fs.drop k).flatMap fC).length) = _
    rw [hd, e1, show (k + 1) * 3 = k * 3 + 3 by omega, List.take_add]
    simp [List.append_assoc]
  have l0 : (X.take (k * 3)).length = k * 3 := by rw [List.length_take]; omega
  have l1 : ((X.drop (k * 3)).take 3).length = 3 := by rw [List.length_take, List.length_drop]; omega
  have hX3 : X3 = X.take (k * 3) ++ (fC f ++ ((fs.drop k).flatMap fC ++ X.drop (n * 3 + 3))) := by
    show X2.take (k * 3) ++ fC f ++ X2.drop (k * 3 + 3) = _
    rw [hX2, List.take_append_of_le_length (by omega), List.take_of_length_le (by omega), ← List.drop_drop, List.drop_left' l0, List.drop_left' l1]
    simp [List.append_assoc]
  refine ⟨?_, ?_, ?_⟩
  · rw [hX2]; simp only [List.length_append, l0, l1, hd, List.length_drop]; omega
  · rw [hX3]; simp only [List.length_append, l0, hd, List.length_drop, fC, List.length_cons, List.length_nil]; omega
  · rw [hX3, hXk, List.flatMap_append, List.flatMap_cons, ← List.append_assoc (fC f), ← List.append_assoc]
    rw [List.take_left' (by simp only [List.length_append, fC_len, fC, List.length_cons, List.length_nil, List.length_take, List.length_drop]; omega)]

set_option maxRecDepth 100000 in
set_option maxHeartbeats 4000000 in
theorem insert_shift (g c n k b : Nat) (fs : List Fl) (f : Fl) (cur : Array Value) (w : World) (hn : fs.length = n) (hk : k < n) (hroom : n + 1 ≤ c) (hc : c ≤ maxLen) (hg : w.heap[g]? = some (.cells cur 81 (0, 0))) (hcs : cur.size = c * 3) (hX : cur.toList.take (n * 3) = fs.flatMap fC)
    (hb : w.heap[b]? = some (.cells #[.string f.nm, .string f.all, .int .i64 (f.su : Int)] 81 (0, 0))) (hbg : b ≠ g) :
    Calls Tryz.prog 60 #[.slice (some ⟨g, 0, none⟩) n c, .int .i64 k, .slice (some ⟨b, 0, none⟩) 1 1] w fun e w' => e = .returned (.slice (some ⟨g, 0, none⟩) (n + 1) c) ∧ (∃ cur' : Array Value, w'.heap[g]? = some (.cells cur' 81 (0, 0)) ∧ cur'.size = c * 3 ∧ cur'.toList.take ((n + 1) * 3) = (fs.take k ++ f :: fs.drop k).flatMap fC) ∧ w.grownBy w' (some g) := by
  unfold maxLen at hc
  have hXl : cur.toList.length = c * 3 := by simpa using hcs
  obtain ⟨L2, L3, L4⟩ := ins_list cur.toList fs f n k hn hk hX (by omega)
  have hd : ((fs.drop k).flatMap fC).length = (n - k) * 3 := by rw [fC_len, List.length_drop, hn]
  have hz2 : ¬ ((k : Int) = (n : Int)) := by omega
  have hov : ∀ lb cb, (callFunc 81 #[.slice (some ⟨b, 0, none⟩) 1 1, .slice (some ⟨g, (k + 1) * 3, none⟩) lb cb]).run Tryz.prog w = .ok (.value (.bool false)) w := fun lb cb => by
    rw [run_callFunc_extern Tryz.func81 (by kernel_rfl) (by kernel_rfl) (by kernel_rfl) (e := Extern.SlicesOverlaps.overlaps #[69, 69] #[4]) (by kernel_rfl),
      Lib.run_overlaps_apart w 69 4 81 Tryz.underlying69 3 file_sizeOf ⟨b, 0, none⟩ ⟨g, (k + 1) * 3, none⟩ 1 1 lb cb hbg 81 81 3 cur.size (by simp [World.shape?, hb]) (by simp [World.shape?, hg]) (by omega) (bx_free hb 0) (bx_free hb 3)]
    rfl
  have hcp1 : ∀ ty dc sc, (Builtin.copy_ #[69, 69] ty #[.slice (some ⟨g, (k + 1) * 3, none⟩) (n - k) dc, .slice (some ⟨g, k * 3, none⟩) (n + 1 - k) sc]).run Tryz.prog w.drew = .ok (goInt ((n - k : Nat) : Int)) (w.drew.setRow g (cur.toList.take ((k + 1) * 3) ++ (fs.drop k).flatMap fC ++ cur.toList.drop ((k + 1) * 3 + ((fs.drop k).flatMap fC).length)).toArray) := fun ty dc sc =>
    dk_copy w.drew _ _ ty 81 3 g ((k + 1) * 3) (n - k) dc ⟨g, k * 3, none⟩ (n + 1 - k) sc cur 81 ((fs.drop k).flatMap fC) Tryz.underlying69 file_size hg (n - k) (by simp only [Nat.min_def]; split <;> omega) hd
      (fun j v hj => by
        rw [← fC_drop, ← hX, List.getElem?_drop, List.getElem?_take] at hj
        split at hj
        · rw [show (⟨g, k * 3, none⟩ : Addr).add j = ⟨g, k * 3 + j, none⟩ by unfold Addr.add; split <;> simp_all]
          show w.cell? _ = _
          rw [bx_cells hg]
          simpa using hj
        · cases hj) (by rw [hd]; simp only [Array.size]; omega) (fC_one _)
  obtain ⟨X2, hX2⟩ : ∃ X2 : List Value, cur.toList.take ((k + 1) * 3) ++ (fs.drop k).flatMap fC ++ cur.toList.drop ((k + 1) * 3 + ((fs.drop k).flatMap fC).length) = X2 := ⟨_, rfl⟩
  rw [hX2] at hcp1 L2 L3 L4
  have hg2 : (w.drew.setRow g X2.toArray).heap[g]? = some (.cells X2.toArray 81 (0, 0)) := setRow_at hg _
  have hb2 : (w.drew.setRow g X2.toArray).heap[b]? = some (.cells #[.string f.nm, .string f.all, .int .i64 (f.su : Int)] 81 (0, 0)) := ((setRow_grown w.drew g X2.toArray).block b (bx_lt hb) (by simpa using hbg)).trans hb
  have hcp2 : ∀ ty dc, (Builtin.copy_ #[69, 69] ty #[.slice (some ⟨g, k * 3, none⟩) (n + 1 - k) dc, .slice (some ⟨b, 0, none⟩) 1 1]).run Tryz.prog (w.drew.setRow g X2.toArray) = .ok (goInt ((1 : Nat) : Int)) ((w.drew.setRow g X2.toArray).setRow g (X2.take (k * 3) ++ fC f ++ X2.drop (k * 3 + 3)).toArray) := fun ty dc =>
    dk_copy _ _ _ ty 81 3 g (k * 3) (n + 1 - k) dc ⟨b, 0, none⟩ 1 1 X2.toArray 81 (fC f) Tryz.underlying69 file_size hg2 1 (by simp only [Nat.min_def]; split <;> omega) rfl
      (fun j v hj => by
        rw [fl_add_0, bx_cells hb2]
        simpa [fC] using hj) (by show k * 3 + 3 ≤ X2.toArray.size; simp; omega) (by intro u hu; simp only [fC, List.mem_cons, List.not_mem_nil, or_false] at hu; rcases hu with rfl | rfl | rfl <;> rfl)
  have hg3 := setRow_at hg2 (X2.take (k * 3) ++ fC f ++ X2.drop (k * 3 + 3)).toArray
  have hgr : w.grownBy ((w.drew.setRow g X2.toArray).setRow g (X2.take (k * 3) ++ fC f ++ X2.drop (k * 3 + 3)).toArray) (some g) := by
    have h1 := setRow_grown w.drew g X2.toArray
    have h2 := setRow_grown (w.drew.setRow g X2.toArray) g (X2.take (k * 3) ++ fC f ++ X2.drop (k * 3 + 3)).toArray
    exact ⟨h2.os.trans h1.os, h2.tape.trans h1.tape, h2.output.trans h1.output, Nat.le_trans h1.size h2.size, fun j hj hne => (h2.block j (Nat.lt_of_lt_of_le hj h1.size) hne).trans (h1.block j hj hne)⟩
  have HFIN := Lib.hid (show ∃ cur' : Array Value, ((w.drew.setRow g X2.toArray).setRow g (X2.take (k * 3) ++ fC f ++ X2.drop (k * 3 + 3)).toArray).heap[g]? = some (.cells cur' 81 (0, 0)) ∧ cur'.size = c * 3 ∧ cur'.toList.take ((n + 1) * 3) = (fs.take k ++ f :: fs.drop k).flatMap fC from
    ⟨_, hg3, by simpa using L3.trans hXl, by simpa using L4⟩)
  have HGR := Lib.hid hgr
  have hw1 : IntKind.i64.wrap ((k : Int) + 1) = (k : Int) + 1 := by rw [IntKind.wrap_i64]; omega
  have hb1 : (0 : Int) ≤ (k : Int) + 1 := by omega
  have hin : k ≤ n := by omega
  have htn : ((k : Int) + 1).toNat = k + 1 := by omega
  have hb2' : ¬ (c = k + 1) := by omega
  have hb3 : (k : Int) ≤ (n : Int) + 1 := by omega
  have hb4 : ¬ (c = k) := by omega
  clear hX2 L2 L3 L4 hX hd hg2 hb2 hg3 hgr hXl hcs
  have mixed : Tryz.prog.follows .mixedOrders = true := by kernel_rfl
  go_enter Tryz.func60, Tryz.ntmps60
  go_wp2_with (simp only [hov])
  go_region_law_o (refine step_copy_runI rfl _ _ 69 69 rfl _ _ (by simp [Act.eval, Act.put]) (by simp [Act.eval, Act.put]) (hcp1 _ _ _) ?_)
  go_wp2_with (at_builtin; refine wpList_copy_runI _ rfl _ _ 69 69 rfl _ _ rfl rfl (hcp2 _ _) ?_)
  go_ret
  have q1 := HFIN.out
  have q2 := HGR.out
  rw [List.append_assoc] at q1 q2
  exact ⟨rfl, q1, q2⟩
/-- at the end -/
theorem insert_end (B : Nat) (A : Option Addr) (c b : Nat) (fs : List Fl) (f : Fl) (hl : fs.length ≤ 1000) (w : World) (ho : w.ownsRow B 81 3 (.slice A fs.length c) fs.length (fs.flatMap fC)) (hB : B ≤ w.heap.size)
    (hb : w.heap[b]? = some (.cells #[.string f.nm, .string f.all, .int .i64 (f.su : Int)] 81 (0, 0))) :
    Calls Tryz.prog 60 #[.slice A fs.length c, .int .i64 fs.length, .slice (some ⟨b, 0, none⟩) 1 1] w fun e w' => ∃ A' c', e = .returned (.slice A' (fs.length + 1) c') ∧ w'.ownsRow B 81 3 (.slice A' (fs.length + 1) c') (fs.length + 1) ((fs ++ [f]).flatMap fC) ∧ w.grownBy w' (Value.ownBlock (.slice A fs.length c)) := by
  obtain ⟨i0, hi, hz0, hz1, hz2⟩ := info_parts' info_file
  have HI := Lib.hid (And.intro hi (And.intro hz0 (And.intro hz1 hz2)))
  have HO := Lib.hid ho
  have HBX := Lib.hid (fun (j : Nat) (u : Value) (hj : (fC f)[j]? = some u) => (show w.cell? ((⟨b, 0, none⟩ : Addr).add j) = some u by rw [fl_add_0, bx_cells hb]; simpa [fC] using hj))
  have h1 : ∀ u ∈ fC f, u.oneCell' = true := by intro u hu; simp only [fC, List.mem_cons, List.not_mem_nil, or_false] at hu; rcases hu with rfl | rfl | rfl <;> rfl
  have H1 := Lib.hid h1
  have hfm : (fs ++ [f]).flatMap fC = fs.flatMap fC ++ fC f := by simp
  rw [hfm]
  clear hi hz0 hz1 hz2 hb h1 hfm
  have hlen : (fC f).length = 1 * 3 := rfl
  generalize fC f = F at HBX H1 hlen ⊢
  rcases ho.2 with ⟨e1, e2⟩ | ⟨g, cap, cur, e1, e3, _, hnc, hcm, _⟩
  · obtain ⟨rfl, -, rfl⟩ : A = none ∧ fs.length = 0 ∧ c = 0 := by simpa using e1
    rw [e2] at HO ⊢
    clear ho e1
    go_enter Tryz.func60, Tryz.ntmps60
    go_wp2_with (at_builtin; refine wpList_append_lies _ rfl _ _ _ (by rfl) B 81 i0 _ 3 40 Tryz.underlying69 HI.out.1 HI.out.2.1 HI.out.2.2.1 HI.out.2.2.2 rfl (by decide) _ _ _ (by rfl) HO.out ⟨b, 0, none⟩ 1 1 F (by rfl) hlen HBX.out H1.out (by omega) (by unfold maxLen; omega) (by omega) hB _ rfl ?_; intro g cap w4 x2 x3 x4 x5)
    go_ret
    exact ⟨_, _, rfl, x2, x3⟩
  · obtain ⟨rfl, rfl⟩ : A = some ⟨g, 0, none⟩ ∧ c = cap := by simpa using e1
    have hin : fs.length ≤ c := hnc
    generalize hN : fs.length = n at *
    clear ho e1
    go_enter Tryz.func60, Tryz.ntmps60
    go_wp2_with (at_builtin; refine wpList_append_lies _ rfl _ _ _ (by rfl) B 81 i0 _ 3 40 Tryz.underlying69 HI.out.1 HI.out.2.1 HI.out.2.2.1 HI.out.2.2.2 rfl (by decide) _ _ _ (by rfl) HO.out ⟨b, 0, none⟩ 1 1 F (by rfl) hlen HBX.out H1.out (by omega) (by unfold maxLen; omega) (by omega) hB _ rfl ?_; intro g cap w4 x2 x3 x4 x5)
    all_goals
      go_ret
      exact ⟨_, _, rfl, x2, x3⟩
end Go.Proofs.YtcpmicinibfepaaGreatDoor

namespace Go.Proofs.YtcpmicinibfepaaGreatDoor
open Go.ChangeShapes Go.WideShapes Go.ChangeAt Go.RowKit Go.Deep DiskP


/-- a new row: the lists -/
theorem ins_new (R : List Value) (fs : List Fl) (f : Fl) (n k : Nat) (hn : fs.length = n) (hk : k < n) (hR : R.take (k * 3) = (fs.take k).flatMap fC) (hl : (n + 1) * 3 ≤ R.length) :
    let R2 := R.take (k * 3) ++ fC f ++ R.drop (k * 3 + (fC f).length)
    let R3 := R2.take ((k + 1) * 3) ++ (fs.drop k).flatMap fC ++ R2.drop ((k + 1) * 3 + ((fs.drop k).flatMap fC).length)
    R2.length = R.length ∧ R3.length = R.length ∧ R3.take ((n + 1) * 3) = (fs.take k ++ f :: fs.drop k).flatMap fC := by
  have hd : ((fs.drop k).flatMap fC).length = (n - k) * 3 := by rw [fC_len, List.length_drop, hn]
  have hf : (fC f).length = 3 := rfl
  have l0 : (R.take (k * 3)).length = k * 3 := by rw [List.length_take]; omega
  intro R2 R3
  have hR2l : R2.length = R.length := by
    show (R.take (k * 3) ++ fC f ++ R.drop (k * 3 + (fC f).length)).length = _
    simp only [List.length_append, l0, hf, List.length_drop]; omega
  have hR2t : R2.take ((k + 1) * 3) = (fs.take k).flatMap fC ++ fC f := by
    show (R.take (k * 3) ++ fC f ++ R.drop (k * 3 + (fC f).length)).take ((k + 1) * 3) = _
    rw [hR, List.take_left' (by rw [List.length_append, ← hR, l0, hf]; omega)]
  refine ⟨hR2l, ?_, ?_⟩
  · show (R2.take ((k + 1) * 3) ++ (fs.drop k).flatMap fC ++ R2.drop ((k + 1) * 3 + ((fs.drop k).flatMap fC).length)).length = _
    simp only [List.length_append, hd, List.length_take, List.length_drop, hR2l]; omega
  · show (R2.take ((k + 1) * 3) ++ (fs.drop k).flatMap fC ++ R2.drop ((k + 1) * 3 + ((fs.drop k).flatMap fC).length)).take ((n + 1) * 3) = _
    rw [hR2t, List.flatMap_append, List.flatMap_cons, List.append_assoc ((fs.take k).flatMap fC)]
    rw [List.take_left' (by simp only [List.length_append, fC_len, hf, List.length_take, List.length_drop]; omega)]
set_option maxRecDepth 100000 in
set_option maxHeartbeats 4000000 in
theorem insert_grow (g c k b : Nat) (fs : List Fl) (f : Fl) (cur : Array Value) (w : World) (hn : fs.length = c) (hk : k < c) (hc : c ≤ 1000) (hg : w.heap[g]? = some (.cells cur 81 (0, 0))) (hX : cur.toList.take (c * 3) = fs.flatMap fC)
    (hb : w.heap[b]? = some (.cells #[.string f.nm, .string f.all, .int .i64 (f.su : Int)] 81 (0, 0))) :
    Calls Tryz.prog 60 #[.slice (some ⟨g, 0, none⟩) c c, .int .i64 k, .slice (some ⟨b, 0, none⟩) 1 1] w fun e w' => ∃ G, e = .returned (.slice (some ⟨w.heap.size, 0, none⟩) (c + 1) G) ∧ c + 1 ≤ G ∧ G ≤ maxLen ∧ (∃ cur' : Array Value, w'.heap[w.heap.size]? = some (.cells cur' 81 (0, 0)) ∧ cur'.size = G * 3 ∧ cur'.toList.take ((c + 1) * 3) = (fs.take k ++ f :: fs.drop k).flatMap fC) ∧ w.grownBy w' none := by
  obtain ⟨i0, hi0, hz0, hzs, hzb⟩ := info_parts' info_file
  have hz2 : ¬ ((k : Int) = (c : Int)) := by omega
  have hbw : b < w.heap.size := bx_lt hb
  have hgw : g < w.heap.size := bx_lt hg
  have hd : ((fs.drop k).flatMap fC).length = (c - k) * 3 := by rw [fC_len, List.length_drop, hn]
  have hkk : (c : Int) + 1 - (k : Int) = ((c + 1 - k : Nat) : Int) := by omega
  have hik : k + (c + 1 - k) = c + 1 := by omega
  have hsrc : ∀ j v, ((fs.take k).flatMap fC)[j]? = some v → w.cell? ⟨g, j, none⟩ = some v := fun j v hj => by
    rw [← fC_take, ← hX, List.take_take, List.getElem?_take] at hj
    split at hj
    · rw [bx_cells hg]; simpa using hj
    · cases hj
  have hold : (Builtin.firstCells i0.size k (.slice (some ⟨g, 0, none⟩) k c)).run Tryz.prog w.drew = .ok ((fs.take k).flatMap fC).toArray w.drew := by
    rw [hzs]
    exact run_firstCells_some w.drew 3 k ⟨g, 0, none⟩ k c ((fs.take k).flatMap fC) (by rw [fC_len, List.length_take]; omega) (fun j v hj => by rw [fl_add_0]; exact hsrc j v hj)
  obtain ⟨G, hG⟩ : ∃ G, grownCap w (c + 1) c 81 = G := ⟨_, rfl⟩
  have hG1 : c + 1 ≤ G := by rw [← hG]; exact grownCap_ge w _ _ _
  have hG2 : G ≤ maxLen := by
    have := grownCap_le_maxLen w (c + 1) c 81 (by unfold maxLen; omega)
    rwa [hG] at this
  have hrz := fun ty => Lib.run_append_grow_zeros w 69 3 ty 81 i0 _ .i64 .i64 Tryz.underlying69 Tryz.underlying3 hi0 hz0 (some ⟨g, 0, none⟩) k c _ hold (c + 1 - k) (by omega) (by omega) (by omega) (by omega) (by rw [hzb]; omega) (by rw [hzb, hik]; exact growslice_fits (by omega) (by omega))
  rw [hik, hG] at hrz
  rw [← hkk] at hrz
  obtain ⟨ROW, hROW⟩ : ∃ ROW : Array Value, ((fs.take k).flatMap fC).toArray ++ Builtin.zeroCells (Value.agg #[.string ⟨#[]⟩, .string ⟨#[]⟩, .int .i64 0]).cells (c + 1 - k) ++ Builtin.zeroCells (Value.agg #[.string ⟨#[]⟩, .string ⟨#[]⟩, .int .i64 0]).cells (G - (c + 1)) = ROW := ⟨_, rfl⟩
  rw [hROW] at hrz
  have hPl : ((fs.take k).flatMap fC).length = k * 3 := by rw [fC_len, List.length_take]; omega
  have hRs : ROW.toList.length = G * 3 := by
    rw [← hROW]
    simp only [Array.toList_append, List.length_append, hPl, Builtin.zeroCells, Value.cells]
    simp
    omega
  have hRt : ROW.toList.take (k * 3) = (fs.take k).flatMap fC := by
    rw [← hROW]
    simp only [Array.toList_append, List.append_assoc]
    rw [List.take_left' hPl]
  clear hROW
  obtain ⟨L2, L3, L4⟩ := ins_new ROW.toList fs f c k hn hk hRt (by omega)
  obtain ⟨R2, hR2⟩ : ∃ R2 : List Value, ROW.toList.take (k * 3) ++ fC f ++ ROW.toList.drop (k * 3 + (fC f).length) = R2 := ⟨_, rfl⟩
  have hcpA : ∀ W : World, W.heap = (w.alloc (.cells ROW 81)).heap → ∀ ty dc, (Builtin.copy_ #[69, 69] ty #[.slice (some ⟨w.heap.size, k * 3, none⟩) (c + 1 - k) dc, .slice (some ⟨b, 0, none⟩) 1 1]).run Tryz.prog W = .ok (goInt ((1 : Nat) : Int)) (W.setRow w.heap.size R2.toArray) := fun W hW ty dc => by
    rw [← hR2]
    exact dk_copy W _ _ ty 81 3 w.heap.size (k * 3) (c + 1 - k) dc ⟨b, 0, none⟩ 1 1 ROW 81 (fC f) Tryz.underlying69 file_size (by rw [hW]; exact heap_alloc_new w _) 1 (by simp only [Nat.min_def]; split <;> omega) rfl
      (fun j v hj => by
        have hb1 : W.heap[b]? = some (.cells #[.string f.nm, .string f.all, .int .i64 (f.su : Int)] 81 (0, 0)) := by rw [hW]; exact (Below.heap_alloc w _ b hbw).trans hb
        rw [fl_add_0, bx_cells hb1]
        simpa [fC] using hj) (by show k * 3 + 3 ≤ ROW.size; have : ROW.size = G * 3 := hRs; omega) (by intro u hu; simp only [fC, List.mem_cons, List.not_mem_nil, or_false] at hu; rcases hu with rfl | rfl | rfl <;> rfl)
  rw [hR2] at L2 L3 L4
  obtain ⟨R3, hR3⟩ : ∃ R3 : List Value, R2.take ((k + 1) * 3) ++ (fs.drop k).flatMap fC ++ R2.drop ((k + 1) * 3 + ((fs.drop k).flatMap fC).length) = R3 := ⟨_, rfl⟩
  have hcpB : ∀ W : World, W.heap = ((w.alloc (.cells ROW 81)).setRow w.heap.size R2.toArray).heap → ∀ ty dc sc, (Builtin.copy_ #[69, 69] ty #[.slice (some ⟨w.heap.size, (k + 1) * 3, none⟩) (c - k) dc, .slice (some ⟨g, k * 3, none⟩) (c - k) sc]).run Tryz.prog W = .ok (goInt ((c - k : Nat) : Int)) (W.setRow w.heap.size R3.toArray) := fun W hW ty dc sc => by
    rw [← hR3]
    have hh : W.heap[w.heap.size]? = some (.cells R2.toArray 81 (0, 0)) := by rw [hW]; exact setRow_at (heap_alloc_new w _) _
    have hg1 : W.heap[g]? = some (.cells cur 81 (0, 0)) := by
      rw [hW]
      exact (((setRow_grown (w.alloc (.cells ROW 81)) w.heap.size R2.toArray).block g (by rw [World.size_alloc]; omega) (by simp; omega)).trans (Below.heap_alloc w _ g hgw)).trans hg
    exact dk_copy W _ _ ty 81 3 w.heap.size ((k + 1) * 3) (c - k) dc ⟨g, k * 3, none⟩ (c - k) sc R2.toArray 81 ((fs.drop k).flatMap fC) Tryz.underlying69 file_size hh (c - k) (by simp only [Nat.min_def]; split <;> omega) hd
      (fun j v hj => by
        rw [← fC_drop, ← hX, List.getElem?_drop, List.getElem?_take] at hj
        split at hj
        · rw [show (⟨g, k * 3, none⟩ : Addr).add j = ⟨g, k * 3 + j, none⟩ by unfold Addr.add; split <;> simp_all]
          rw [bx_cells hg1]
          simpa using hj
        · cases hj) (by rw [hd]; show _ ≤ R2.length; omega) (fC_one _)
  rw [hR3] at L3 L4
  have hw1 : IntKind.i64.wrap ((k : Int) + 1) = (k : Int) + 1 := by rw [IntKind.wrap_i64]; omega
  have hb1 : (0 : Int) ≤ (k : Int) + 1 := by omega
  have hin : k ≤ c := by omega
  have htn : ((k : Int) + 1).toNat = k + 1 := by omega
  have hb3 : (k : Int) ≤ (c : Int) := by omega
  have hb5 : (k : Int) ≤ (c : Int) + 1 := by omega
  have hGi : ¬ (G = k) := by omega
  have hGim : ¬ (G = k + 1) := by omega
  have hci : ¬ (c = k) := by omega
  have hG63 : (G : Int) ≤ 9223372036854775807 := by unfold maxLen at hG2; omega
  have hgt : (c : Int) < (c : Int) + 1 := by omega
  have LL := Lib.hid (And.intro (L3.trans hRs) L4)
  clear L2 L3 L4 hR2 hR3 hRt hRs hX hd hold hsrc hkk hik hG hPl
  have mixed : Tryz.prog.follows .mixedOrders = true := by kernel_rfl
  go_enter Tryz.func60, Tryz.ntmps60
  go_wp2_with (at_builtin; refine Lib.wpList_append_run _ rfl _ _ _ _ rfl _ _ rfl rfl _ _ (hrz _) ?_)
  rw [hcpA (w.alloc (.cells ROW 81)).drew rfl]
  simp only [Result.andThen]
  rw [Oper.upon_value]
  go_wp2_with fail
  go_region_law_o (refine step_copy_runI rfl _ _ 69 69 rfl (.slice (some ⟨w.heap.size, (k + 1) * 3, none⟩) (c - k) (G - (k + 1))) (.slice (some ⟨g, k * 3, none⟩) (c - k) (c - k)) (by simp [Act.eval, Act.put]) (by simp [Act.eval, Act.put]) (hcpB ((w.alloc (.cells ROW 81)).drew.setRow w.heap.size R2.toArray).drew rfl 3 (G - (k + 1)) (c - k)) ?_)
  go_wp2_with fail
  go_ret
  have g1 := setRow_grown (w.alloc (.cells ROW 81)).drew w.heap.size R2.toArray
  have g2 := setRow_grown ((w.alloc (.cells ROW 81)).drew.setRow w.heap.size R2.toArray).drew w.heap.size R3.toArray
  have hs1 : ((w.alloc (.cells ROW 81)).drew).heap.size = w.heap.size + 1 := World.size_alloc w _
  have hs2 := g1.size
  have hs3 : ((w.alloc (.cells ROW 81)).drew.setRow w.heap.size R2.toArray).drew.heap.size = ((w.alloc (.cells ROW 81)).drew.setRow w.heap.size R2.toArray).heap.size := rfl
  have hs4 := g2.size
  refine ⟨G, rfl, hG1, hG2, ⟨R3.toArray, setRow_at (setRow_at (heap_alloc_new w _) _) _, by simpa using LL.out.1, by simpa using LL.out.2⟩, ⟨rfl, rfl, rfl, by omega, fun j hj _ => ?_⟩⟩
  rw [g2.block j (by omega) (by simp; omega)]
  exact (g1.block j (by omega) (by simp; omega)).trans (Below.heap_alloc w _ j hj)
/-- slices.Insert of one file -/
theorem disk_insert (B : Nat) (A : Option Addr) (c b k : Nat) (fs : List Fl) (f : Fl) (hl : fs.length ≤ 900) (hk : k ≤ fs.length) (w : World) (ho : w.ownsRow B 81 3 (.slice A fs.length c) fs.length (fs.flatMap fC)) (hB : B ≤ w.heap.size)
    (hb : w.heap[b]? = some (.cells #[.string f.nm, .string f.all, .int .i64 (f.su : Int)] 81 (0, 0))) (hbg : Value.ownBlock (.slice A fs.length c) ≠ some b) :
    Calls Tryz.prog 60 #[.slice A fs.length c, .int .i64 k, .slice (some ⟨b, 0, none⟩) 1 1] w fun e w' => ∃ A' c', e = .returned (.slice A' (fs.length + 1) c') ∧ w'.ownsRow B 81 3 (.slice A' (fs.length + 1) c') (fs.length + 1) ((fs.take k ++ f :: fs.drop k).flatMap fC) ∧ w.grownBy w' (Value.ownBlock (.slice A fs.length c)) := by
  have hlen : ((fs.take k ++ f :: fs.drop k).flatMap fC).length = (fs.length + 1) * 3 := by rw [fC_len, List.length_append, List.length_cons, List.length_take, List.length_drop]; omega
  by_cases hke : k = fs.length
  · subst hke
    rw [List.take_length, List.drop_length]
    exact insert_end B A c b fs f (by omega) w ho hB hb
  · rcases id ho.2 with ⟨e1, e2⟩ | ⟨g, cap, cur, e1, e3, hg, hnc, hcm, hcs, htk⟩
    · omega
    · obtain ⟨rfl, rfl⟩ : A = some ⟨g, 0, none⟩ ∧ c = cap := by simpa using e1
      by_cases hroom : fs.length + 1 ≤ c
      · refine (insert_shift g c fs.length k b fs f cur w rfl (by omega) hroom hcm hg hcs htk hb (fun e => hbg (by rw [e]; rfl))).mono ?_
        rintro e w' ⟨rfl, ⟨cur', q1, q2, q3⟩, q4⟩
        exact ⟨_, c, rfl, ⟨hlen, .inr ⟨g, c, cur', rfl, e3, q1, hroom, hcm, q2, q3⟩⟩, q4⟩
      · have hn : fs.length = c := by omega
        have := insert_grow g c k b fs f cur w hn (by omega) (by omega) hg (by rw [← hn]; exact htk) hb
        rw [hn] at hlen ⊢
        refine this.mono ?_
        rintro e w' ⟨G, rfl, q1, q2, ⟨cur', q3, q4, q5⟩, q6⟩
        exact ⟨_, G, rfl, ⟨hlen, .inr ⟨_, G, cur', rfl, hB, q3, q1, q2, q4, q5⟩⟩, ⟨q6.os, q6.tape, q6.output, q6.size, fun j hj _ => q6.block j hj (by simp)⟩⟩
end Go.Proofs.YtcpmicinibfepaaGreatDoor
