/- Walks of layer 7 (disk): slices.Delete of a file. -/
import Derived.Test.YtcpmicinibfepaaGreatDoorWAn
import Derived.OwnWalk
namespace Go.Proofs.YtcpmicinibfepaaGreatDoor
open Go.ChangeShapes Go.WideShapes Go.ChangeAt Go.RowKit Go.Deep DiskP


theorem dk_clear (w : World) (ty : TypeId) (g o cc : Nat) (cur : Array Value) (t : TypeId) (hg : w.heap[g]? = some (.cells cur t (0, 0))) (hfit : o + 3 ≤ cur.size) :
    (Builtin.clear_ #[69] ty #[.slice (some ⟨g, o, none⟩) 1 cc]).run Tryz.prog w =
      .ok (.tuple #[]) (w.setRow g (cur.toList.take o ++ [Value.string ⟨#[]⟩, Value.string ⟨#[]⟩, Value.int .i64 0] ++ cur.toList.drop (o + 3)).toArray) := by
  obtain ⟨i, hi, hz, _, _⟩ := info_parts' info_file
  have hst := run_storeCells_at Tryz.prog g o t [.string ⟨#[]⟩, .string ⟨#[]⟩, .int .i64 0] 0 cur w hg (by simpa using hfit) (by intro v hv; simp at hv; rcases hv with rfl | rfl <;> rfl)
  have hzc : (Builtin.zeroCells (Value.agg #[.string ⟨#[]⟩, .string ⟨#[]⟩, .int .i64 0]).cells 1).toList = [.string ⟨#[]⟩, .string ⟨#[]⟩, .int .i64 0] := by kernel_rfl
  simp only [Nat.add_zero, List.length_cons, List.length_nil, Nat.zero_add, Nat.reduceAdd] at hst
  simp [Builtin.clear_, run_underlying Tryz.underlying69, zeroValue, typeInfo, hi, hz, hzc, hst]
theorem step_append_run {ops : Array Oper} {o : Oper} {a : Act} {w : World} {K : Act → World → Prop} {Q : Exit → Act → World → Prop} {E : Prop}
    (hg : o.guard = none) (s x : Operand) (t tn : TypeId) (ho : o.op = .call { callee := .builtin .append, args := #[s, x], argTypes := #[t, tn] }) (vs vx : Value) (hs : a.eval s = vs) (hx : a.eval x = vx)
    (v' : Value) (w' : World) (hr : (Builtin.append_ #[t, tn] o.type #[vs, vx]).run Tryz.prog w = .ok v' w') (h : K (a.put o.dst v') w') :
    if Region.wanted o (yielded ops a.tmps) = true then Oper.wp Tryz.prog o a w K Q else E := by
  have hw : Region.wanted o (yielded ops a.tmps) = true := by simp [Region.wanted, hg]
  rw [if_pos hw]
  exact Lib.wp_append_run w s x t tn ho vs vx hs hx v' w' hr h

theorem own_take {w : World} {B g n c k : Nat} {fs : List Fl} (h : w.ownsRow B 81 3 (.slice (some ⟨g, 0, none⟩) n c) n (fs.flatMap fC)) (hn : fs.length = n) (hk : k ≤ n) : w.ownsRow B 81 3 (.slice (some ⟨g, 0, none⟩) k c) k ((fs.take k).flatMap fC) := by
  rcases h.2 with ⟨e1, _⟩ | ⟨g', cap, cur, e1, e3, hg, hnc, hcm, hcs, htk⟩
  · cases e1
  · obtain ⟨rfl, rfl⟩ : g = g' ∧ c = cap := by simpa using e1
    refine ⟨by rw [fC_len, List.length_take]; omega, .inr ⟨g, c, cur, rfl, e3, hg, by omega, hcm, hcs, ?_⟩⟩
    rw [← fC_take, ← htk, List.take_take, Nat.min_eq_left (by omega)]
set_option maxRecDepth 100000 in
set_option maxHeartbeats 4000000 in
theorem disk_delete (B : Nat) (A : Option Addr) (c k : Nat) (fs : List Fl) (hl : fs.length ≤ 900) (hk : k < fs.length) (w : World) (ho : w.ownsRow B 81 3 (.slice A fs.length c) fs.length (fs.flatMap fC)) :
    Calls Tryz.prog 88 #[.slice A fs.length c, .int .i64 k, .int .i64 ((k : Int) + 1)] w fun e w' => e = .returned (.slice A (fs.length - 1) c) ∧ w'.ownsRow B 81 3 (.slice A (fs.length - 1) c) (fs.length - 1) ((fs.take k ++ fs.drop (k + 1)).flatMap fC) ∧ w.grownBy w' (Value.ownBlock (.slice A fs.length c)) := by
  obtain ⟨i0, hi, hz0, hz1, hz2⟩ := info_parts' info_file
  rcases id ho.2 with ⟨e1, e2⟩ | ⟨g, cap, cur, e1, e3, hg, hnc, hcm, hcs, htk⟩
  · omega
  obtain ⟨rfl, rfl⟩ : A = some ⟨g, 0, none⟩ ∧ c = cap := by simpa using e1
  obtain ⟨q, hn⟩ : ∃ q, fs.length = q + 1 := ⟨fs.length - 1, by omega⟩
  rw [hn] at ho hl hk hnc htk ⊢
  rw [show q + 1 - 1 = q by omega]
  have hcells := fun (j : Nat) (u : Value) (hj : ((fs.drop (k + 1)).flatMap fC)[j]? = some u) => (show w.cell? ⟨g, (k + 1) * 3 + j, none⟩ = some u by
    rw [← fC_drop, ← htk, List.getElem?_drop, List.getElem?_take] at hj
    split at hj
    · rw [bx_cells hg]; simpa using hj
    · cases hj)
  have hdl : ((fs.drop (k + 1)).flatMap fC).length = (q - k) * 3 := by rw [fC_len, List.length_drop, hn]; omega
  have hadd : ∀ j, (⟨g, (k + 1) * 3, none⟩ : Addr).add j = ⟨g, (k + 1) * 3 + j, none⟩ := fun j => by unfold Addr.add; split <;> simp_all
  by_cases hlast : c = k + 1
  · obtain ⟨w1, hrun, hown, hgr⟩ := run_append_fits (P := Tryz.prog) (w := w.drew) B 69 69 81 i0 3 Tryz.underlying69 hi hz1 g k c _ (own_take (n := q + 1) ho hn (by omega)).drew ⟨g, 0, none⟩ (q - k) 0 _ hdl (fun j u hj => by rw [show (fs.drop (k + 1)).flatMap fC = [] from List.eq_nil_of_length_eq_zero (by rw [hdl]; omega)] at hj; cases hj) (fC_one _) (by omega)
    rw [show k + (q - k) = q by omega] at hrun hown
    rw [show q - k = 0 by omega] at hrun
    obtain rfl : q = k := by omega
    subst hlast
    rw [← List.flatMap_append] at hown
    rcases id hown.2 with ⟨e1', _⟩ | ⟨g', cap, cur1, e1', e3', hg', hnc', hcm', hcs', htk'⟩
    · cases e1'
    obtain ⟨rfl, rfl⟩ : g = g' ∧ (q + 1) = cap := by simpa using e1'
    have hcl := fun ty => dk_clear w1 ty g ((q) * 3) 1 cur1 81 hg' (by omega)
    obtain ⟨R, hR⟩ : ∃ R, (cur1.toList.take ((q) * 3) ++ [Value.string ⟨#[]⟩, Value.string ⟨#[]⟩, Value.int .i64 0] ++ cur1.toList.drop ((q) * 3 + 3)).toArray = R := ⟨_, rfl⟩
    have hRs : R.size = (q + 1) * 3 ∧ R.toList.take ((q) * 3) = (fs.take q ++ fs.drop (q + 1)).flatMap fC := by
      have l1 : cur1.toList.length = (q + 1) * 3 := hcs'
      have l0 : (cur1.toList.take ((q) * 3)).length = (q) * 3 := by rw [List.length_take]; omega
      rw [← hR]
      constructor
      · simp only [List.size_toArray, List.length_append, l0, List.length_drop, l1, List.length_cons, List.length_nil]; omega
      · rw [List.append_assoc, List.take_left' l0, htk']
    rw [hR] at hcl
    have hfin : (w1.setRow g R).ownsRow B 81 3 (.slice (some ⟨g, 0, none⟩) (q) (q + 1)) (q) ((fs.take q ++ fs.drop (q + 1)).flatMap fC) := ⟨by rw [hown.1], .inr ⟨g, (q + 1), R, rfl, e3, setRow_at hg' R, hnc', hcm, hRs.1, hRs.2⟩⟩
    have hg2 := setRow_grown w1 g R
    have hgr2 : w.grownBy (w1.setRow g R) (some g) := ⟨hg2.os.trans hgr.os, hg2.tape.trans hgr.tape, hg2.output.trans hgr.output, Nat.le_trans hgr.size hg2.size, fun j hj hne => (hg2.block j (Nat.lt_of_lt_of_le hj hgr.size) hne).trans (hgr.block j hj hne)⟩
    have HFIN := Lib.hid hfin
    have HGR := Lib.hid hgr2
    have hw1 : IntKind.i64.wrap ((q : Int) + 1) = (q : Int) + 1 := by rw [IntKind.wrap_i64]; omega
    have hb1 : (0 : Int) ≤ (q : Int) + 1 := by omega
    have htn : ((q : Int) + 1).toNat = q + 1 := by omega
    have hb3 : (q : Int) ≤ (q : Int) := by omega
    have hb5 : (q : Int) ≤ ((q + 1) : Int) := by omega
    have hb6 : (q : Int) + 1 ≤ ((q + 1) : Int) := by omega
    have hb7 : (q : Int) ≤ (q : Int) + 1 := by omega
    have hne : ((q : Int) == (q : Int) + 1) = false := by rw [beq_eq_false_iff_ne]; omega
    have hb4 : ¬ ((q + 1) = q) := by omega
    have hc3 : ¬ ((q + 1) = q) := by omega
    have hc4 : (q : Int) ≤ ((q + 1) : Int) := by omega
    have hc5 : (q : Int) ≤ (q : Int) + 1 := by omega
    clear hRs hR hown htk' hcs' hg' hfin hg2 hgr2 hgr htk hcs hcells
    have mixed : Tryz.prog.follows .mixedOrders = true := by kernel_rfl
    go_enter Tryz.func88, Tryz.ntmps88
    go_wp2_with fail
    go_region_law_o (refine step_append_run rfl _ _ 69 69 rfl (.slice (some ⟨g, 0, none⟩) q (q + 1)) (.slice (some ⟨g, 0, none⟩) 0 0) (by simp [Act.eval, Act.put]) (by simp [Act.eval, Act.put]) _ _ hrun ?_)
    go_wp2_with fail
    go_ret
    exact ⟨rfl, HFIN.out, HGR.out⟩
  · obtain ⟨w1, hrun, hown, hgr⟩ := run_append_fits (P := Tryz.prog) (w := w.drew) B 69 69 81 i0 3 Tryz.underlying69 hi hz1 g k c _ (own_take (n := q + 1) ho hn (by omega)).drew ⟨g, (k + 1) * 3, none⟩ (q - k) (c - (k + 1)) _ hdl (fun j u hj => by rw [hadd]; exact hcells j u hj) (fC_one _) (by omega)
    rw [show k + (q - k) = q by omega] at hrun hown
    rw [← List.flatMap_append] at hown
    rcases id hown.2 with ⟨e1', _⟩ | ⟨g', cap, cur1, e1', e3', hg', hnc', hcm', hcs', htk'⟩
    · cases e1'
    obtain ⟨rfl, rfl⟩ : g = g' ∧ c = cap := by simpa using e1'
    have hcl := fun ty => dk_clear w1 ty g ((q) * 3) (c - (q)) cur1 81 hg' (by omega)
    obtain ⟨R, hR⟩ : ∃ R, (cur1.toList.take ((q) * 3) ++ [Value.string ⟨#[]⟩, Value.string ⟨#[]⟩, Value.int .i64 0] ++ cur1.toList.drop ((q) * 3 + 3)).toArray = R := ⟨_, rfl⟩
    have hRs : R.size = c * 3 ∧ R.toList.take ((q) * 3) = (fs.take k ++ fs.drop (k + 1)).flatMap fC := by
      have l1 : cur1.toList.length = c * 3 := hcs'
      have l0 : (cur1.toList.take ((q) * 3)).length = (q) * 3 := by rw [List.length_take]; omega
      rw [← hR]
      constructor
      · simp only [List.size_toArray, List.length_append, l0, List.length_drop, l1, List.length_cons, List.length_nil]; omega
      · rw [List.append_assoc, List.take_left' l0, htk']
    rw [hR] at hcl
    have hfin : (w1.setRow g R).ownsRow B 81 3 (.slice (some ⟨g, 0, none⟩) (q) c) (q) ((fs.take k ++ fs.drop (k + 1)).flatMap fC) := ⟨by rw [hown.1], .inr ⟨g, c, R, rfl, e3, setRow_at hg' R, hnc', hcm, hRs.1, hRs.2⟩⟩
    have hg2 := setRow_grown w1 g R
    have hgr2 : w.grownBy (w1.setRow g R) (some g) := ⟨hg2.os.trans hgr.os, hg2.tape.trans hgr.tape, hg2.output.trans hgr.output, Nat.le_trans hgr.size hg2.size, fun j hj hne => (hg2.block j (Nat.lt_of_lt_of_le hj hgr.size) hne).trans (hgr.block j hj hne)⟩
    have HFIN := Lib.hid hfin
    have HGR := Lib.hid hgr2
    have hw1 : IntKind.i64.wrap ((k : Int) + 1) = (k : Int) + 1 := by rw [IntKind.wrap_i64]; omega
    have hb1 : (0 : Int) ≤ (k : Int) + 1 := by omega
    have htn : ((k : Int) + 1).toNat = k + 1 := by omega
    have hb3 : (k : Int) ≤ (q : Int) := by omega
    have hb5 : (k : Int) ≤ (c : Int) := by omega
    have hb6 : (q : Int) + 1 ≤ (c : Int) := by omega
    have hb7 : (k : Int) ≤ (k : Int) + 1 := by omega
    have hne : ((k : Int) == (k : Int) + 1) = false := by rw [beq_eq_false_iff_ne]; omega
    have hb4 : ¬ (c = k) := by omega
    have hc3 : ¬ (c = q) := by omega
    have hc4 : (q : Int) ≤ (c : Int) := by omega
    have hc5 : (q : Int) ≤ (q : Int) + 1 := by omega
    clear hRs hR hown htk' hcs' hg' hfin hg2 hgr2 hgr htk hcs hcells
    have mixed : Tryz.prog.follows .mixedOrders = true := by kernel_rfl
    go_enter Tryz.func88, Tryz.ntmps88
    go_wp2_with fail
    go_region_law_o (refine step_append_run rfl _ _ 69 69 rfl (.slice (some ⟨g, 0, none⟩) k c) (.slice (some ⟨g, (k + 1) * 3, none⟩) (q - k) (c - (k + 1))) (by simp [Act.eval, Act.put]) (by simp [Act.eval, Act.put]) _ _ hrun ?_)
    go_wp2_with fail
    go_ret
    exact ⟨rfl, HFIN.out, HGR.out⟩
end Go.Proofs.YtcpmicinibfepaaGreatDoor
