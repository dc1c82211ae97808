/- Walks of layer 34 (manifest): the files' names, slices.Contains, the steps of Write · Walks of layer 34 (manifest): the four steps of Write · Walks of layer 34 (manifest): all, Write, Read · Walks of layer 34 (manifest): Write, Read · Walks of layer 34 (manifest): Read. -/
import Derived.Test.YtabccphcoojbjaaGreatDoorPAq
import Derived.Test.YtabccphcoojbjaaGreatDoorPBb
import Derived.Test.YtabccphcoojbjaaGreatDoorPBc
import Derived.Test.YtabccphcoojbjaaGreatDoorPAx
import Derived.Test.YtabccphcoojbjaaGreatDoorPBa
namespace Go.Proofs.YtabccphcoojbjaaGreatDoor
open Go.ChangeShapes Go.WideShapes Go.ChangeAt Go.RowKit Go.Deep DiskP ManP


theorem str_neD {a b : ByteArray} (h : a ≠ b) : (a.toList == b.toList) = false := by
  rw [beq_eq_false_iff_ne, Lib.toList_data, Lib.toList_data]
  intro e
  apply h
  obtain ⟨⟨a⟩⟩ := a
  obtain ⟨⟨b⟩⟩ := b
  simp only at e
  rw [e]

theorem name_Of3 (n : Int) (w : World) : Calls Tryz.prog 81 #[.int .i64 3, .int .i64 n] w fun e w' => e = .returned (.string mainB) ∧ w = w' := by
  go_enter Tryz.func81, Tryz.ntmps81
  go_wp2_with fail
  go_ret
  exact ⟨rfl, rfl⟩
theorem name_Of4 (n : Int) (w : World) : Calls Tryz.prog 81 #[.int .i64 4, .int .i64 n] w fun e w' => e = .returned (.string newB) ∧ w = w' := by
  go_enter Tryz.func81, Tryz.ntmps81
  go_wp2_with fail
  go_ret
  exact ⟨rfl, rfl⟩
theorem man_main (w : World) : Calls Tryz.prog 58 #[] w fun e w' => e = .returned (.string mainB) ∧ w = w' := by
  go_enter Tryz.func58, Tryz.ntmps58
  go_wp2_with (go_at_call 81; (with_reducible refine (name_Of3 _ _).mono ?_); rintro e w1 ⟨rfl, rfl⟩)
  go_ret
  exact ⟨rfl, rfl⟩
theorem man_fresh (w : World) : Calls Tryz.prog 51 #[] w fun e w' => e = .returned (.string newB) ∧ w = w' := by
  go_enter Tryz.func51, Tryz.ntmps51
  go_wp2_with (go_at_call 81; (with_reducible refine (name_Of4 _ _).mono ?_); rintro e w1 ⟨rfl, rfl⟩)
  go_ret
  exact ⟨rfl, rfl⟩

set_option maxRecDepth 100000 in
theorem str_Index (A : Option Addr) (c : Nat) (l : List ByteArray) (hl : l.length ≤ 100000) (s : ByteArray) (w : World) (hr : Rd w w.heap.size A (l.map Value.string)) :
    Calls Tryz.prog 80 #[.slice A l.length c, .string s] w fun e w' => ∃ i : Int, e = .returned (.int .i64 i) ∧ w' = w ∧ (0 ≤ i ↔ s ∈ l) := by
  have HR := Lib.hid hr
  clear hr
  go_enter Tryz.func80, Tryz.ntmps80
  go_wp2_with fail
  go_loopw [8] (fun vi wr => ∃ k : Nat, k ≤ l.length ∧ vi = .int .i64 k ∧ Hid (s ∉ l.take k) ∧ wr = w) (fun vi _ => l.length - (intOf vi).toNat)
  case atStart => exact ⟨0, by omega, rfl, Lib.hid (by simp), rfl⟩
  case round =>
    obtain ⟨k, hk, rfl, HN, rfl⟩ := hrel
    by_cases hlt : k < l.length
    · obtain ⟨f, hk'⟩ : ∃ f, l[k]? = some f := ⟨l[k], List.getElem?_eq_getElem hlt⟩
      have hm : (l.map Value.string)[k]? = some (.string f) := by rw [List.getElem?_map, hk']; rfl
      obtain ⟨a1, rfl, b1, z1⟩ := HR.out k _ hm
      have hi1 : (k : Int) < (l.length : Int) := by omega
      have HT := Lib.hid (List.take_succ_eq_append_getElem hlt)
      have HG := Lib.hid (List.getElem?_eq_some_iff.1 hk')
      clear hk' hm
      by_cases hf : s = f
      · subst hf
        have hst : (s.toList == s.toList) = true := by simp
        have HI := Lib.hid (show s ∈ l from HG.out.2 ▸ List.getElem_mem hlt)
        go_wp2_with fail
        go_ret
        exact ⟨k, rfl, rfl, ⟨fun _ => HI.out, fun _ => by omega⟩⟩
      · have hst : (s.toList == f.toList) = false := by
          exact str_neD hf
        have HF := Lib.hid hf
        clear hf
        go_wp2_with fail
        refine ⟨⟨k + 1, by omega, by go_num, Lib.hid ?_, trivial⟩, by show l.length - ((k : Int) + 1).toNat < l.length - ((k : Int)).toNat; omega⟩
        rw [HT.out]
        intro hc
        rcases List.mem_append.1 hc with hc | hc
        · exact HN.out hc
        · rw [List.mem_singleton.1 hc] at HF
          exact HF.out HG.out.2
    · have hi1 : ¬ (k : Int) < (l.length : Int) := by omega
      have HM := Lib.hid (show s ∉ l from fun hc => HN.out (by rwa [List.take_of_length_le (by omega)]))
      go_wp2_with fail
      go_ret
      exact ⟨-1, rfl, rfl, ⟨fun h => by omega, fun h => absurd h HM.out⟩⟩
theorem str_Contains (A : Option Addr) (c : Nat) (l : List ByteArray) (hl : l.length ≤ 100000) (s : ByteArray) (w : World) (hr : Rd w w.heap.size A (l.map Value.string)) :
    Calls Tryz.prog 50 #[.slice A l.length c, .string s] w fun e w' => ∃ b : Bool, e = .returned (.bool b) ∧ w' = w ∧ (b = true ↔ s ∈ l) := by
  have HI := Lib.hid (str_Index A c l hl s w hr)
  clear hr
  go_enter Tryz.func50, Tryz.ntmps50
  go_wp2_with (go_at_call 80; (with_reducible refine (HI.out).mono ?_); rintro e w1 ⟨i, rfl, rfl, hi⟩)
  go_ret
  exact ⟨decide (0 ≤ i), rfl, rfl, by rw [decide_eq_true_eq]; exact hi⟩
end Go.Proofs.YtabccphcoojbjaaGreatDoor

namespace Go.Proofs.YtabccphcoojbjaaGreatDoor
open Go.ChangeShapes Go.WideShapes Go.ChangeAt Go.RowKit Go.Deep DiskP ManP



theorem dpost_from {d : Nat} {S : DS} {v : Value} {w x : World} {e : Ending} {w' : World} (hb : Below w.heap.size w x) (hd : d ≤ w.heap.size) (h : DPost d S v x e w') : DPost d S v w e w' := by
  obtain ⟨h1, A, c, h2, h3⟩ := h
  exact ⟨h1, A, c, h2, (DKeep.of_below hb hd).trans h3⟩
theorem below_drew0 (w : World) (n : Nat) : Below w.heap.size w (w.drewN n) := below_drewN (Below.refl _ w) n
theorem names_len (fs : List Fl) : (names fs).length = fs.length := List.length_map _
theorem has_names {fs : List Fl} (hs : Sorted fs) (nm : ByteArray) : nm ∈ names fs ↔ has fs nm = true := by
  rw [has_iff hs nm]
  unfold names
  rw [List.mem_map]

set_option maxRecDepth 100000 in
theorem man_Write1 (d bx : Nat) (A : Option Addr) (c : Nat) (S : DS) (hS : OkD S) (w : World) (h : Dk d A c S w) (hbx : w.heap[bx]? = some (.cells #[.pointer (some ⟨d, 0, none⟩)] 33 (0, 0))) :
    Calls Tryz.prog 49 #[.pointer (some ⟨bx, 0, none⟩)] w (DPost d (w1 S).1 (.int .i64 (w1 S).2) w) := by
  have hl : S.fs.length ≤ 1000 := by have := hS.many; omega
  have hdl := Nat.le_of_lt h.lt
  have y0 : w.cell? ⟨bx, 0, none⟩ = some (.pointer (some ⟨d, 0, none⟩)) := bx_cells hbx 0
  have HN' : Calls Tryz.prog 19 #[.pointer (some ⟨d, 0, none⟩)] w fun e w' => ∃ A' c', e = .returned (.slice A' (names S.fs).length c') ∧ Rd w' w'.heap.size A' ((names S.fs).map Value.string) ∧ Below w.heap.size w w' := by
    refine (disk_Names d A c S hl w h).mono ?_
    rintro e w' ⟨A', c', rfl, hr, b⟩
    refine ⟨A', c', by rw [names_len], ?_, b⟩
    have := Rd.own hr
    unfold names
    rw [List.map_map]
    exact this
  have HN := Lib.hid HN'
  have HCO := Lib.hid (fun (A' : Option Addr) (c' : Nat) (W : World) (hr : Rd W W.heap.size A' ((names S.fs).map Value.string)) => str_Contains A' c' (names S.fs) (by rw [names_len]; omega) newB W hr)
  have HB := Lib.hid (fun (W : World) (b : Below w.heap.size w W) => (⟨bx_cells (bx_kept hbx b) 0, h.kept b⟩ : W.cell? ⟨bx, 0, none⟩ = some (.pointer (some ⟨d, 0, none⟩)) ∧ Dk d A c S W))
  have hiff := has_names hS.sorted newB
  cases hh : has S.fs newB with
  | false =>
    have e : w1 S = (S, 0) := by unfold w1; rw [if_neg (by simp [hh])]
    rw [e]
    rw [hh] at hiff
    have HNO := Lib.hid (show newB ∉ names S.fs from fun hc => absurd (hiff.1 hc) (by decide))
    clear HN' hiff e hh
    generalize names S.fs = nms at *
    go_enter Tryz.func49, Tryz.ntmps49
    go_wp2_with (first
      | (go_at_call 19; (with_reducible refine (HN.out).mono ?_); rintro e x1 ⟨A', c', rfl, hr, b1⟩)
      | (go_at_call 51; (with_reducible refine (man_fresh _).mono ?_); rintro e x2 ⟨rfl, rfl⟩)
      | (go_at_call 50; (with_reducible refine (HCO.out _ _ _ hr).mono ?_); rintro e x3 ⟨bb, rfl, rfl, hbb⟩; obtain rfl : bb = false := by rw [← Bool.not_eq_true]; exact fun hc => HNO.out (hbb.1 hc)))
    go_ret
    exact ⟨rfl, A, c, (HB.out _ b1).2, DKeep.of_below b1 hdl⟩
  | true =>
    have e : w1 S = removeD S newB := by unfold w1; rw [if_pos hh]
    rw [e]
    rw [hh] at hiff
    have HYES := Lib.hid (hiff.2 rfl)
    have HRM := Lib.hid (fun (W : World) (b : Below w.heap.size w W) => disk_Remove d A c S hS newB W (h.kept b))
    clear HN' hiff e hh
    generalize names S.fs = nms at *
    go_enter Tryz.func49, Tryz.ntmps49
    go_wp2_with (first
      | (go_at_call 19; (with_reducible refine (HN.out).mono ?_); rintro e x1 ⟨A', c', rfl, hr, b1⟩; have z0 := (HB.out _ b1).1)
      | (go_at_call 51; (with_reducible refine (man_fresh _).mono ?_); rintro e x2 ⟨rfl, rfl⟩)
      | (go_at_call 50; (with_reducible refine (HCO.out _ _ _ hr).mono ?_); rintro e x3 ⟨bb, rfl, rfl, hbb⟩; obtain rfl : bb = true := hbb.2 HYES.out))
    have B1 := Lib.hid b1
    clear b1 y0 hr hbb h hbx hS HB HN HCO HYES
    refine wp_region_quiet_tail 2 (by kernel_rfl) (by kernel_rfl) ?_
    simp only [List.take_succ_cons, List.take_zero, List.drop_succ_cons, List.drop_zero]
    repeat (go_big_quiet_step ((go_at_call 51; exact quiet_left (man_fresh _))))
    refine wpQuiet_nil ?_
    rintro _ ⟨n2, rfl⟩
    go_wp2_with (go_at_call 52; (with_reducible refine (HRM.out _ (below_drewN B1.out n2)).mono ?_); rintro e x4 ⟨rfl, A2, c2, q1, q2⟩)
    go_ret
    exact ⟨rfl, A2, c2, q1, (DKeep.of_below (below_drewN B1.out n2) hdl).trans q2⟩

set_option maxRecDepth 100000 in
theorem man_Write2 (d bx bs : Nat) (A : Option Addr) (c : Nat) (S : DS) (hS : OkD S) (b : ByteArray) (hb : b.size ≤ 1000000) (w : World) (h : Dk d A c S w) (hbx : w.heap[bx]? = some (.cells #[.pointer (some ⟨d, 0, none⟩)] 33 (0, 0))) (hbs : w.heap[bs]? = some (.cells #[.string b] 9 (0, 0))) :
    Calls Tryz.prog 53 #[.pointer (some ⟨bx, 0, none⟩), .pointer (some ⟨bs, 0, none⟩)] w (DPost d (appendD S newB b).1 (.int .i64 (appendD S newB b).2) w) := by
  have hdl := Nat.le_of_lt h.lt
  have y0 : w.cell? ⟨bx, 0, none⟩ = some (.pointer (some ⟨d, 0, none⟩)) := bx_cells hbx 0
  have y1 : w.cell? ⟨bs, 0, none⟩ = some (.string b) := bx_cells hbs 0
  have HRM := Lib.hid (fun (n : Nat) => disk_Append d A c S hS newB b (by decide) hb (w.drewN n) (h.kept (below_drew0 w n)))
  clear hbx hbs h hS hb
  go_enter Tryz.func53, Tryz.ntmps53
  go_wp2_with fail
  refine wp_region_quiet_tail 3 (by kernel_rfl) (by kernel_rfl) ?_
  simp only [List.take_succ_cons, List.take_zero, List.drop_succ_cons, List.drop_zero]
  repeat (go_big_quiet_step ((go_at_call 51; exact quiet_left (man_fresh _))))
  refine wpQuiet_nil ?_
  rintro _ ⟨n2, rfl⟩
  go_wp2_with (go_at_call 12; (with_reducible refine (HRM.out _).mono ?_); rintro e x4 ⟨rfl, A2, c2, q1, q2⟩)
  go_ret
  exact ⟨rfl, A2, c2, q1, (DKeep.of_below (below_drew0 w n2) hdl).trans q2⟩

set_option maxRecDepth 100000 in
theorem man_Write3 (d bx : Nat) (A : Option Addr) (c : Nat) (S : DS) (hS : OkD S) (w : World) (h : Dk d A c S w) (hbx : w.heap[bx]? = some (.cells #[.pointer (some ⟨d, 0, none⟩)] 33 (0, 0))) :
    Calls Tryz.prog 54 #[.pointer (some ⟨bx, 0, none⟩)] w (DPost d (syncD S newB).1 (.int .i64 (syncD S newB).2) w) := by
  have hdl := Nat.le_of_lt h.lt
  have y0 : w.cell? ⟨bx, 0, none⟩ = some (.pointer (some ⟨d, 0, none⟩)) := bx_cells hbx 0
  have HRM := Lib.hid (fun (n : Nat) => disk_Sync d A c S hS newB (w.drewN n) (h.kept (below_drew0 w n)))
  clear hbx h hS
  go_enter Tryz.func54, Tryz.ntmps54
  go_wp2_with fail
  refine wp_region_quiet_tail 2 (by kernel_rfl) (by kernel_rfl) ?_
  simp only [List.take_succ_cons, List.take_zero, List.drop_succ_cons, List.drop_zero]
  repeat (go_big_quiet_step ((go_at_call 51; exact quiet_left (man_fresh _))))
  refine wpQuiet_nil ?_
  rintro _ ⟨n2, rfl⟩
  go_wp2_with (go_at_call 55; (with_reducible refine (HRM.out _).mono ?_); rintro e x4 ⟨rfl, A2, c2, q1, q2⟩)
  go_ret
  exact ⟨rfl, A2, c2, q1, (DKeep.of_below (below_drew0 w n2) hdl).trans q2⟩

set_option maxRecDepth 100000 in
theorem man_Write4 (d bx : Nat) (A : Option Addr) (c : Nat) (S : DS) (hS : OkD S) (w : World) (h : Dk d A c S w) (hbx : w.heap[bx]? = some (.cells #[.pointer (some ⟨d, 0, none⟩)] 33 (0, 0))) :
    Calls Tryz.prog 56 #[.pointer (some ⟨bx, 0, none⟩)] w (DPost d (renameD S newB mainB).1 (.int .i64 (renameD S newB mainB).2) w) := by
  have hdl := Nat.le_of_lt h.lt
  have y0 : w.cell? ⟨bx, 0, none⟩ = some (.pointer (some ⟨d, 0, none⟩)) := bx_cells hbx 0
  have HRM := Lib.hid (fun (n : Nat) => disk_Rename d A c S hS newB mainB (by decide) (w.drewN n) (h.kept (below_drew0 w n)))
  clear hbx h hS
  go_enter Tryz.func56, Tryz.ntmps56
  go_wp2_with fail
  refine wp_region_quiet_tail 3 (by kernel_rfl) (by kernel_rfl) ?_
  simp only [List.take_succ_cons, List.take_zero, List.drop_succ_cons, List.drop_zero]
  repeat (go_big_quiet_step ((first
    | (go_at_call 51; exact quiet_left (man_fresh _))
    | (go_at_call 58; exact quiet_left (man_main _)))))
  refine wpQuiet_nil ?_
  rintro _ ⟨n2, rfl⟩
  go_wp2_with (go_at_call 57; (with_reducible refine (HRM.out _).mono ?_); rintro e x4 ⟨rfl, A2, c2, q1, q2⟩)
  go_ret
  exact ⟨rfl, A2, c2, q1, (DKeep.of_below (below_drew0 w n2) hdl).trans q2⟩
end Go.Proofs.YtabccphcoojbjaaGreatDoor

namespace Go.Proofs.YtabccphcoojbjaaGreatDoor
open Go.ChangeShapes Go.WideShapes Go.ChangeAt Go.RowKit Go.Deep DiskP ManP


/-- what steps tell, one behind the other, till one fails -/
def allP (r1 r2 r3 r4 : Int) (I1 I2 I3 I4 : World → Prop) (e : Ending) (w' : World) : Prop :=
  if r1 ≠ 0 then e = .returned (.int .i64 r1) ∧ I1 w' else if r2 ≠ 0 then e = .returned (.int .i64 r2) ∧ I2 w' else if r3 ≠ 0 then e = .returned (.int .i64 r3) ∧ I3 w' else e = .returned (.int .i64 r4) ∧ I4 w'

set_option maxRecDepth 100000 in
set_option maxHeartbeats 2000000 in
theorem man_all (b : Nat) (k1 k2 k3 k4 : Array Value) (r1 r2 r3 r4 : Int) (I0 I1 I2 I3 I4 : World → Prop)
    (c1 : ∀ W, I0 W → W.cell? ⟨b, 0, none⟩ = some (.func (.func 49) #[] k1)) (c2 : ∀ W, I1 W → W.cell? ⟨b, 1, none⟩ = some (.func (.func 53) #[] k2))
    (c3 : ∀ W, I2 W → W.cell? ⟨b, 2, none⟩ = some (.func (.func 54) #[] k3)) (c4 : ∀ W, I3 W → W.cell? ⟨b, 3, none⟩ = some (.func (.func 56) #[] k4))
    (H1 : ∀ W, I0 W → Calls Tryz.prog 49 k1 W fun e w' => e = .returned (.int .i64 r1) ∧ I1 w') (H2 : ∀ W, I1 W → Calls Tryz.prog 53 k2 W fun e w' => e = .returned (.int .i64 r2) ∧ I2 w')
    (H3 : ∀ W, I2 W → Calls Tryz.prog 54 k3 W fun e w' => e = .returned (.int .i64 r3) ∧ I3 w') (H4 : ∀ W, I3 W → Calls Tryz.prog 56 k4 W fun e w' => e = .returned (.int .i64 r4) ∧ I4 w')
    (w : World) (h0 : I0 w) : Calls Tryz.prog 48 #[.slice (some ⟨b, 0, none⟩) 4 4] w (allP r1 r2 r3 r4 I1 I2 I3 I4) := by
  have he1 : ∀ args w, (callFunc 49 args).run Tryz.prog w = .ok (.enter 49 args) w := enters_of Tryz.func49 (by kernel_rfl) rfl
  have he2 : ∀ args w, (callFunc 53 args).run Tryz.prog w = .ok (.enter 53 args) w := enters_of Tryz.func53 (by kernel_rfl) rfl
  have he3 : ∀ args w, (callFunc 54 args).run Tryz.prog w = .ok (.enter 54 args) w := enters_of Tryz.func54 (by kernel_rfl) rfl
  have he4 : ∀ args w, (callFunc 56 args).run Tryz.prog w = .ok (.enter 56 args) w := enters_of Tryz.func56 (by kernel_rfl) rfl
  have z1 := c1 w h0
  have C2 := Lib.hid c2
  have C3 := Lib.hid c3
  have C4 := Lib.hid c4
  have P1 := Lib.hid H1
  have P2 := Lib.hid H2
  have P3 := Lib.hid H3
  have P4 := Lib.hid H4
  clear c1 c2 c3 c4 H1 H2 H3 H4
  by_cases e1 : r1 = 0
  · subst e1
    by_cases e2 : r2 = 0
    · subst e2
      by_cases e3 : r3 = 0
      · subst e3
        have HA := Lib.hid (fun (e : Ending) (w' : World) (h : e = .returned (.int .i64 r4) ∧ I4 w') => (by unfold allP; rw [if_neg (by simp), if_neg (by simp), if_neg (by simp)]; exact h : allP 0 0 0 r4 I1 I2 I3 I4 e w'))
        by_cases e4 : r4 = 0
        · subst e4
          go_enter Tryz.func48, Tryz.ntmps48
          go_wp2_with fail
          refine wp_loop_rounds 5 ?_
          rw [rounds_succ]
          go_wp2_with (go_at_call 49; (with_reducible refine (P1.out _ h0).mono ?_); rintro e x1 ⟨rfl, h1⟩; have z2 := C2.out _ h1)
          rw [rounds_succ]
          go_wp2_with (go_at_call 53; (with_reducible refine (P2.out _ h1).mono ?_); rintro e x2 ⟨rfl, h2⟩; have z3 := C3.out _ h2)
          rw [rounds_succ]
          go_wp2_with (go_at_call 54; (with_reducible refine (P3.out _ h2).mono ?_); rintro e x3 ⟨rfl, h3⟩; have z4 := C4.out _ h3)
          rw [rounds_succ]
          go_wp2_with (go_at_call 56; (with_reducible refine (P4.out _ h3).mono ?_); rintro e x4 ⟨rfl, h4⟩)
          rw [rounds_succ]
          go_wp2_with fail
          go_ret
          exact HA.out _ _ ⟨rfl, h4⟩
        · have g1 : (r4 != 0) = true := by simp [e4]
          clear e4
          go_enter Tryz.func48, Tryz.ntmps48
          go_wp2_with fail
          refine wp_loop_rounds 5 ?_
          rw [rounds_succ]
          go_wp2_with (go_at_call 49; (with_reducible refine (P1.out _ h0).mono ?_); rintro e x1 ⟨rfl, h1⟩; have z2 := C2.out _ h1)
          rw [rounds_succ]
          go_wp2_with (go_at_call 53; (with_reducible refine (P2.out _ h1).mono ?_); rintro e x2 ⟨rfl, h2⟩; have z3 := C3.out _ h2)
          rw [rounds_succ]
          go_wp2_with (go_at_call 54; (with_reducible refine (P3.out _ h2).mono ?_); rintro e x3 ⟨rfl, h3⟩; have z4 := C4.out _ h3)
          rw [rounds_succ]
          go_wp2_with (go_at_call 56; (with_reducible refine (P4.out _ h3).mono ?_); rintro e x4 ⟨rfl, h4⟩)
          go_ret
          exact HA.out _ _ ⟨rfl, h4⟩
      · have g1 : (r3 != 0) = true := by simp [e3]
        have HA := Lib.hid (fun (e : Ending) (w' : World) (h : e = .returned (.int .i64 r3) ∧ I3 w') => (by unfold allP; rw [if_neg (by simp), if_neg (by simp), if_pos e3]; exact h : allP 0 0 r3 r4 I1 I2 I3 I4 e w'))
        clear e3
        go_enter Tryz.func48, Tryz.ntmps48
        go_wp2_with fail
        refine wp_loop_rounds 5 ?_
        rw [rounds_succ]
        go_wp2_with (go_at_call 49; (with_reducible refine (P1.out _ h0).mono ?_); rintro e x1 ⟨rfl, h1⟩; have z2 := C2.out _ h1)
        rw [rounds_succ]
        go_wp2_with (go_at_call 53; (with_reducible refine (P2.out _ h1).mono ?_); rintro e x2 ⟨rfl, h2⟩; have z3 := C3.out _ h2)
        rw [rounds_succ]
        go_wp2_with (go_at_call 54; (with_reducible refine (P3.out _ h2).mono ?_); rintro e x3 ⟨rfl, h3⟩; have z4 := C4.out _ h3)
        go_ret
        exact HA.out _ _ ⟨rfl, h3⟩
    · have g1 : (r2 != 0) = true := by simp [e2]
      have HA := Lib.hid (fun (e : Ending) (w' : World) (h : e = .returned (.int .i64 r2) ∧ I2 w') => (by unfold allP; rw [if_neg (by simp), if_pos e2]; exact h : allP 0 r2 r3 r4 I1 I2 I3 I4 e w'))
      clear e2
      go_enter Tryz.func48, Tryz.ntmps48
      go_wp2_with fail
      refine wp_loop_rounds 5 ?_
      rw [rounds_succ]
      go_wp2_with (go_at_call 49; (with_reducible refine (P1.out _ h0).mono ?_); rintro e x1 ⟨rfl, h1⟩; have z2 := C2.out _ h1)
      rw [rounds_succ]
      go_wp2_with (go_at_call 53; (with_reducible refine (P2.out _ h1).mono ?_); rintro e x2 ⟨rfl, h2⟩; have z3 := C3.out _ h2)
      go_ret
      exact HA.out _ _ ⟨rfl, h2⟩
  · have g1 : (r1 != 0) = true := by simp [e1]
    have HA := Lib.hid (fun (e : Ending) (w' : World) (h : e = .returned (.int .i64 r1) ∧ I1 w') => (by unfold allP; rw [if_pos e1]; exact h : allP r1 r2 r3 r4 I1 I2 I3 I4 e w'))
    clear e1
    go_enter Tryz.func48, Tryz.ntmps48
    go_wp2_with fail
    refine wp_loop_rounds 5 ?_
    rw [rounds_succ]
    go_wp2_with (go_at_call 49; (with_reducible refine (P1.out _ h0).mono ?_); rintro e x1 ⟨rfl, h1⟩; have z2 := C2.out _ h1)
    go_ret
    exact HA.out _ _ ⟨rfl, h1⟩
end Go.Proofs.YtabccphcoojbjaaGreatDoor

namespace Go.Proofs.YtabccphcoojbjaaGreatDoor
open Go.ChangeShapes Go.WideShapes Go.ChangeAt Go.RowKit Go.Deep DiskP ManP


/-- a disk that has come so far, behind world W -/
def At (d : Nat) (W : World) (S : DS) (w' : World) : Prop := (∃ A c, Dk d A c S w') ∧ DKeep d W w'

theorem write_post (d : Nat) (W : World) (S : DS) (b : ByteArray) (e : Ending) (w' : World)
    (h : allP (w1 S).2 (w2 S b).2 (w3 S b).2 (w4 S b).2 (At d W (w1 S).1) (At d W (w2 S b).1) (At d W (w3 S b).1) (At d W (w4 S b).1) e w') : DPost d (writeB S b).1 (.int .i64 (writeB S b).2) W e w' := by
  unfold allP at h
  unfold writeB
  by_cases e1 : (w1 S).2 ≠ 0
  · rw [if_pos e1] at h ⊢
    exact ⟨h.1, h.2.1.elim fun A x => x.elim fun c y => ⟨A, c, y, h.2.2⟩⟩
  · rw [if_neg e1] at h ⊢
    by_cases e2 : (w2 S b).2 ≠ 0
    · rw [if_pos e2] at h ⊢
      exact ⟨h.1, h.2.1.elim fun A x => x.elim fun c y => ⟨A, c, y, h.2.2⟩⟩
    · rw [if_neg e2] at h ⊢
      by_cases e3 : (w3 S b).2 ≠ 0
      · rw [if_pos e3] at h ⊢
        exact ⟨h.1, h.2.1.elim fun A x => x.elim fun c y => ⟨A, c, y, h.2.2⟩⟩
      · rw [if_neg e3] at h ⊢
        exact ⟨h.1, h.2.1.elim fun A x => x.elim fun c y => ⟨A, c, y, h.2.2⟩⟩
/-- the four steps, once their boxes stand -/
theorem man_steps (d bx bs bf : Nat) (S : DS) (R : Int) (i j : Nat) (hS : DInv R i j S) (hij : i ≤ 900 ∧ j ≤ 900) (b : ByteArray) (hb : b.size ≤ 100) (W : World) (A : Option Addr) (c : Nat) (h : Dk d A c S W) (T : TypeId) (hT : T ≠ 80)
    (hbx : W.heap[bx]? = some (.cells #[.pointer (some ⟨d, 0, none⟩)] 33 (0, 0))) (hbs : W.heap[bs]? = some (.cells #[.string b] 9 (0, 0)))
    (hbf : W.heap[bf]? = some (.cells #[.func (.func 49) #[] #[.pointer (some ⟨bx, 0, none⟩)], .func (.func 53) #[] #[.pointer (some ⟨bx, 0, none⟩), .pointer (some ⟨bs, 0, none⟩)], .func (.func 54) #[] #[.pointer (some ⟨bx, 0, none⟩)], .func (.func 56) #[] #[.pointer (some ⟨bx, 0, none⟩)]] T (0, 0)))
    (dx : bx ≠ d) (ds : bs ≠ d) (df : bf ≠ d) : Calls Tryz.prog 48 #[.slice (some ⟨bf, 0, none⟩) 4 4] W (DPost d (writeB S b).1 (.int .i64 (writeB S b).2) W) := by
  have kf : ∀ (S' : DS) (w' : World), At d W S' w' → _ := fun S' w' ha => bx_cells (dkeep_box ha.2 hbf df hT)
  have kx : ∀ (S' : DS) (w' : World), At d W S' w' → _ := fun S' w' ha => dkeep_box ha.2 hbx dx (by decide)
  have ks : ∀ (S' : DS) (w' : World), At d W S' w' → _ := fun S' w' ha => dkeep_box ha.2 hbs ds (by decide)
  have fin : ∀ (S' : DS) (v : Value) (x : World) (S0 : DS) (e : Ending) (w' : World), At d W S0 x → DPost d S' v x e w' → e = .returned v ∧ At d W S' w' := fun S' v x S0 e w' ha hp => by
    obtain ⟨h1, A, c, h2, h3⟩ := hp
    exact ⟨h1, ⟨A, c, h2⟩, ha.2.trans h3⟩
  have hi1 := hij.1
  have hj1 := hij.2
  refine (man_all bf _ _ _ _ (w1 S).2 (w2 S b).2 (w3 S b).2 (w4 S b).2 (At d W S) (At d W (w1 S).1) (At d W (w2 S b).1) (At d W (w3 S b).1) (At d W (w4 S b).1)
    (fun w' ha => kf _ w' ha 0) (fun w' ha => kf _ w' ha 1) (fun w' ha => kf _ w' ha 2) (fun w' ha => kf _ w' ha 3) ?_ ?_ ?_ ?_ W ⟨⟨A, c, h⟩, DKeep.refl _ _⟩).mono (write_post d W S b)
  · intro w' ha
    obtain ⟨A', c', hd⟩ := ha.1
    exact (man_Write1 d bx A' c' S (hS.ok (by omega) (by omega)) w' hd (kx _ _ ha)).mono fun e w'' hp => fin _ _ _ _ e w'' ha hp
  · intro w' ha
    obtain ⟨A', c', hd⟩ := ha.1
    exact (man_Write2 d bx bs A' c' (w1 S).1 ((w1_inv hS).ok (by omega) (by omega)) b (by omega) w' hd (kx _ _ ha) (ks _ _ ha)).mono fun e w'' hp => fin _ _ _ _ e w'' ha hp
  · intro w' ha
    obtain ⟨A', c', hd⟩ := ha.1
    exact (man_Write3 d bx A' c' (w2 S b).1 ((w2_inv hS hb).ok (by omega) (by omega)) w' hd (kx _ _ ha)).mono fun e w'' hp => fin _ _ _ _ e w'' ha hp
  · intro w' ha
    obtain ⟨A', c', hd⟩ := ha.1
    exact (man_Write4 d bx A' c' (w3 S b).1 ((w3_inv hS hb).ok (by omega) (by omega)) w' hd (kx _ _ ha)).mono fun e w'' hp => fin _ _ _ _ e w'' ha hp

set_option maxRecDepth 100000 in
set_option maxHeartbeats 2000000 in
theorem man_Write (d : Nat) (A : Option Addr) (c : Nat) (S : DS) (R : Int) (i j : Nat) (hS : DInv R i j S) (hij : i ≤ 900 ∧ j ≤ 900) (m : Mn) (i1 : I64 m.1) (i2 : I64 m.2) (w : World) (h : Dk d A c S w) :
    Calls Tryz.prog 15 #[.pointer (some ⟨d, 0, none⟩), .agg #[.int .i64 m.1, .int .i64 m.2]] w (DPost d (writeD S m).1 (.int .i64 (writeD S m).2) w) := by
  have hdl := h.lt
  have HP := Lib.hid (man_Put m i1 i2)
  have hb1 : Below w.heap.size w (w.alloc (.cells #[.pointer (some ⟨d, 0, none⟩)] 33)) := (Below.refl _ w).alloc (Nat.le_refl _) _
  have hb2 : Below w.heap.size w ((w.alloc (.cells #[.pointer (some ⟨d, 0, none⟩)] 33)).alloc (.cells #[.int .i64 m.1, .int .i64 m.2] 23)) := hb1.alloc (by rw [World.size_alloc]; omega) _
  by_cases hm : mayM m = true
  · have e : writeD S m = writeB S (bytesM m) := by unfold writeD; rw [if_pos hm]
    have e2 : putM m = (bodyM m ++ crc4 (bodyM m), 0) := by unfold putM; rw [if_pos hm]
    rw [e]
    rw [e2] at HP
    have HST := Lib.hid (fun (x1 : World) (T : TypeId) (hT : T ≠ 80) (b1 : Below ((w.alloc (.cells #[.pointer (some ⟨d, 0, none⟩)] 33)).alloc (.cells #[.int .i64 m.1, .int .i64 m.2] 23)).heap.size ((w.alloc (.cells #[.pointer (some ⟨d, 0, none⟩)] 33)).alloc (.cells #[.int .i64 m.1, .int .i64 m.2] 23)) x1) => (by
      have bb := below_step b1 hb2
      have hz := b1.size
      rw [World.size_alloc, World.size_alloc] at hz
      have k0 : x1.heap[w.heap.size]? = some (.cells #[.pointer (some ⟨d, 0, none⟩)] 33 (0, 0)) := by
        refine (b1.block w.heap.size (by rw [World.size_alloc, World.size_alloc]; omega)).trans ?_
        rw [heap_alloc_old _ _ (by rw [World.size_alloc]; omega)]
        exact heap_alloc_new w _
      have k1 : ((x1.alloc (.cells #[.string (bytesM m)] 9)).alloc (.cells #[.func (.func 49) #[] #[.pointer (some ⟨w.heap.size, 0, none⟩)], .func (.func 53) #[] #[.pointer (some ⟨w.heap.size, 0, none⟩), .pointer (some ⟨x1.heap.size, 0, none⟩)], .func (.func 54) #[] #[.pointer (some ⟨w.heap.size, 0, none⟩)], .func (.func 56) #[] #[.pointer (some ⟨w.heap.size, 0, none⟩)]] T)).heap[x1.heap.size]? = some (.cells #[.string (bytesM m)] 9 (0, 0)) := by
        rw [heap_alloc_old _ _ (by rw [World.size_alloc]; omega)]
        exact heap_alloc_new x1 _
      have q1 : Below x1.heap.size x1 ((x1.alloc (.cells #[.string (bytesM m)] 9)).alloc (.cells #[.func (.func 49) #[] #[.pointer (some ⟨w.heap.size, 0, none⟩)], .func (.func 53) #[] #[.pointer (some ⟨w.heap.size, 0, none⟩), .pointer (some ⟨x1.heap.size, 0, none⟩)], .func (.func 54) #[] #[.pointer (some ⟨w.heap.size, 0, none⟩)], .func (.func 56) #[] #[.pointer (some ⟨w.heap.size, 0, none⟩)]] T)) := ((Below.refl _ x1).alloc (Nat.le_refl _) _).alloc (by rw [World.size_alloc]; omega) _
      have q2 := below_step q1 bb
      have k2 := heap_alloc_new (x1.alloc (.cells #[.string (bytesM m)] 9)) (.cells #[.func (.func 49) #[] #[.pointer (some ⟨w.heap.size, 0, none⟩)], .func (.func 53) #[] #[.pointer (some ⟨w.heap.size, 0, none⟩), .pointer (some ⟨x1.heap.size, 0, none⟩)], .func (.func 54) #[] #[.pointer (some ⟨w.heap.size, 0, none⟩)], .func (.func 56) #[] #[.pointer (some ⟨w.heap.size, 0, none⟩)]] T)
      rw [World.size_alloc] at k2
      exact (man_steps d w.heap.size x1.heap.size (x1.heap.size + 1) S R i j hS hij (bytesM m) (by have := bytesM_len m; omega) _ A c (h.kept q2) T hT ((q1.block _ (by omega)).trans k0) k1 k2 (by omega) (by omega) (by omega)).mono fun e w' hp => dpost_from q2 (by omega) hp :
      Calls Tryz.prog 48 #[.slice (some ⟨x1.heap.size + 1, 0, none⟩) 4 4] ((x1.alloc (.cells #[.string (bytesM m)] 9)).alloc (.cells #[.func (.func 49) #[] #[.pointer (some ⟨w.heap.size, 0, none⟩)], .func (.func 53) #[] #[.pointer (some ⟨w.heap.size, 0, none⟩), .pointer (some ⟨x1.heap.size, 0, none⟩)], .func (.func 54) #[] #[.pointer (some ⟨w.heap.size, 0, none⟩)], .func (.func 56) #[] #[.pointer (some ⟨w.heap.size, 0, none⟩)]] T)) (DPost d (writeB S (bytesM m)).1 (.int .i64 (writeB S (bytesM m)).2) w)))
    have hbe : tx (bodyM m ++ crc4 (bodyM m)) = bytesM m := rfl
    simp only [hbe] at HP
    clear e e2 hm hbe
    generalize bytesM m = by_ at *
    generalize writeB S by_ = res at *
    obtain ⟨a, b⟩ := m
    simp only at *
    clear hb1 hb2 h hS i1 i2
    go_enter Tryz.func15, Tryz.ntmps15
    go_wp2_with (first
      | (go_at_call 6; (with_reducible refine (HP.out _).mono ?_); rintro e x1 ⟨rfl, b1⟩)
      | (go_at_call 48; (with_reducible refine (HST.out _ _ (by decide) b1).mono ?_); rintro e x2 ⟨rfl, A2, c2, q1, q2⟩))
    go_ret
    exact ⟨rfl, A2, c2, q1, q2⟩
  · have e : writeD S m = (S, 1) := by unfold writeD; rw [if_neg hm]
    have e2 : putM m = ([], 1) := by unfold putM; rw [if_neg hm]
    rw [e]
    rw [e2] at HP
    clear e e2 hm
    obtain ⟨a, b⟩ := m
    simp only at *
    go_enter Tryz.func15, Tryz.ntmps15
    go_wp2_with (go_at_call 6; (with_reducible refine (HP.out _).mono ?_); rintro e x1 ⟨rfl, b1⟩)
    go_ret
    have bT := (below_step b1 hb2).alloc (below_step b1 hb2).size (.cells #[.string (tx [])] 9)
    exact ⟨rfl, A, c, h.kept bT, DKeep.of_below bT (Nat.le_of_lt hdl)⟩
end Go.Proofs.YtabccphcoojbjaaGreatDoor

namespace Go.Proofs.YtabccphcoojbjaaGreatDoor
open Go.ChangeShapes Go.WideShapes Go.ChangeAt Go.RowKit Go.Deep DiskP ManP


theorem read_size (S : DS) (nm : ByteArray) : (readD S nm).1.size ≤ used S.fs := by
  unfold readD
  split
  · exact Nat.zero_le _
  · split
    · rename_i f hf
      split
      · exact used_mem hf
      · exact Nat.zero_le _
    · exact Nat.zero_le _
def mV (r : Mn × Int) : Value := .tuple #[.agg #[.int .i64 r.1.1, .int .i64 r.1.2], .int .i64 r.2]

set_option maxRecDepth 100000 in
theorem man_Read (d : Nat) (A : Option Addr) (c : Nat) (S : DS) (hS : OkD S) (hu : used S.fs ≤ 100000) (w : World) (h : Dk d A c S w) :
    Calls Tryz.prog 23 #[.pointer (some ⟨d, 0, none⟩)] w fun e w' => e = .returned (mV (readMD S)) ∧ Below w.heap.size w w' := by
  have hl : S.fs.length ≤ 1000 := by have := hS.many; omega
  have hdl := h.lt
  have hb0 : Below w.heap.size w (w.alloc (.cells #[.int .i64 0, .int .i64 0] 23)) := (Below.refl _ w).alloc (Nat.le_refl _) _
  have HR := Lib.hid (disk_Read d A c S mainB hS.sorted hl _ (h.kept hb0))
  have hsz := read_size S mainB
  have HT := Lib.hid (fun W => man_Take (readD S mainB).1 (by omega) W)
  have HE := Lib.hid (show readMD S = if (readD S mainB).2 ≠ 0 then ((0, 0), (readD S mainB).2) else takeM (readD S mainB).1.data.toList from rfl)
  have HK := Lib.hid (fun (W : World) (hb : Below (w.alloc (.cells #[.int .i64 0, .int .i64 0] 23)).heap.size (w.alloc (.cells #[.int .i64 0, .int .i64 0] 23)) W) => (by rw [World.size_alloc] at hb; exact ⟨mbox_cells (mbox_of hb), mbox_free (mbox_of hb), ((Below.refl _ w).alloc (Nat.le_refl _) _).trans (hb.mono (by omega))⟩ : (∀ j, W.cell? ⟨w.heap.size, j, none⟩ = #[Value.int .i64 0, .int .i64 0][j]?) ∧ (∀ j, W.frozen? ⟨w.heap.size, j, none⟩ = false) ∧ Below w.heap.size w W))
  clear h hS hu hsz hl hb0
  generalize readMD S = res at *
  generalize (readD S mainB).1 = s at *
  generalize (readD S mainB).2 = er at *
  by_cases he : er = 0
  · subst he
    have HE2 := HE.out
    rw [if_neg (by simp)] at HE2
    rw [HE2]
    clear HE HE2
    generalize takeM s.data.toList = tm at *
    obtain ⟨⟨ta, tb⟩, te⟩ := tm
    simp only at *
    unfold mV
    go_enter Tryz.func23, Tryz.ntmps23
    go_wp2_with (first
      | (go_at_call 58; (with_reducible refine (man_main _).mono ?_); rintro e x1 ⟨rfl, rfl⟩)
      | (go_at_call 25; (with_reducible refine (HR.out).mono ?_); rintro e x2 ⟨rfl, b2⟩)
      | (go_at_call 8; (with_reducible refine (HT.out _).mono ?_); rintro e x3 ⟨rfl, b3⟩; obtain ⟨cA, fA, bA⟩ := HK.out _ (below_step b3 b2)))
    refine bodyPost_ret (v := .tuple #[.agg #[.int .i64 ta, .int .i64 tb], .int .i64 te]) (by simp [results, Tryz.results23, go_sem, cA]) rfl ⟨rfl, ?_⟩
    repeat (with_reducible refine mbelow_own ?_ _ _)
    exact bA
  · have HE2 := HE.out
    rw [if_pos he] at HE2
    have hee : (er != 0) = true := by rw [bne_iff_ne]; exact he
    rw [HE2]
    clear HE HE2 he HT
    unfold mV
    go_enter Tryz.func23, Tryz.ntmps23
    go_wp2_with (first
      | (go_at_call 58; (with_reducible refine (man_main _).mono ?_); rintro e x1 ⟨rfl, rfl⟩)
      | (go_at_call 25; (with_reducible refine (HR.out).mono ?_); rintro e x2 ⟨rfl, b2⟩; obtain ⟨cA, fA, bA⟩ := HK.out _ b2))
    refine bodyPost_ret (v := .tuple #[.agg #[.int .i64 0, .int .i64 0], .int .i64 er]) (by simp [results, Tryz.results23, go_sem, cA]) rfl ⟨rfl, ?_⟩
    repeat (with_reducible refine mbelow_own ?_ _ _)
    exact bA
end Go.Proofs.YtabccphcoojbjaaGreatDoor
