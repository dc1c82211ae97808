/- Walks of layer 6 (frame): the iterator over frames, and all frames. -/
import Derived.RangeFuncNested
import Derived.RangeFuncBound
import Derived.RangeFuncCalls
import Derived.RangeFuncLeaves
import Derived.Shelf.Abstract
import Derived.Shelf.RegionOpen
import Derived.WalkKit
import Derived.OwnWalkIn
import Derived.TacticsInMore
import Derived.LoopNIn
import Derived.LoopIn
import Derived.Test.YtaocmepffhochaaFrameD
namespace Go.Proofs.Ytaocmepffhochaa
open Go.ChangeShapes Go.WideShapes Go.ChangeAt Go.RowKit Go.Deep Go.Shelf BigP

attribute [local go_sem] Oper.semAt_some
theorem grown_of_below {w w' : World} (hb : Below w.heap.size w w') : w.grownBy w' none := ⟨hb.os, hb.tape, hb.output, hb.size, fun k hk _ => hb.block k hk⟩
theorem ex_all (s : ByteArray) : s.extract 0 s.size = s := by simp
def strSize (v : Value) : Nat := match v with | .string r => r.size | _ => 0

set_option maxRecDepth 100000 in
set_option maxHeartbeats 2000000 in
/-- the iterator's function, for every loop body -/
theorem each1_in (n : Nat) (hn : 1 ≤ n) (l Bn : Nat) (s : ByteArray) (hs : s.size ≤ maxLen) (J Jx : List FrameP.Fr → World → Prop) (B : Nat) (hJ : AbidesFrom B J)
    (hY : ∀ pre x W, J pre W → pre.length < (FrameP.all s.data.toList).1.length → YieldAt Fence.wide (n - 1) Try.prog l #[frV x] W fun e W' =>
      (e = .returned (.bool true) ∧ J (pre ++ [x]) W' ∧ True) ∨ (e = .returned (.bool false) ∧ Jx (pre ++ [x]) W'))
    (W : World) (hBn : W.cell? ⟨Bn, 0, none⟩ = some (.string s)) (h0 : J [] W) :
    CallsIn Fence.wide n Try.prog 55 #[.func (.yield l) #[] #[], .pointer (some ⟨Bn, 0, none⟩)] W fun e W' => (∃ v, e = .returned v) ∧
      ((∃ ys, ys = (FrameP.all s.data.toList).1 ∧ J ys W') ∨ (∃ pre, pre <+: (FrameP.all s.data.toList).1 ∧ Jx pre W')) := by
  have HY := Lib.hid hY
  have HJ := Lib.hid hJ
  clear hY hJ
  refine callsIn_of_wp Try.func55 rfl trivial ?_ rfl
  simp only [Try.ntmps55, List.size_toArray, List.length_cons, List.length_nil, Nat.reduceAdd, Nat.reduceSub, Array.replicate_succ, Array.replicate_zero, List.push_toArray, List.append_toArray, List.nil_append, List.cons_append]
  gi_wp2
  gi_loopw [3] (fun p wr => ∃ (pre : List FrameP.Fr) (r : ByteArray), p = .string r ∧ r.size ≤ maxLen ∧ (FrameP.all s.data.toList).1 = pre ++ (FrameP.all r.data.toList).1 ∧ J pre wr)
    (fun p wr => strSize p)
  case atStart => exact ⟨[], s, rfl, hs, rfl, h0⟩
  case round =>
    obtain ⟨pre, r, rfl, hr, hx, hJs⟩ := hrel
    by_cases hne : r.data.toList = []
    · have hne2 : (!r.toList.isEmpty) = false := by rw [ByteArray.toList_eq]; simpa using hne
      have hne3 : r.toList = [] := by rw [ByteArray.toList_eq]; exact hne
      have HX := Lib.hid hx
      have HNE := Lib.hid hne
      clear hx hne
      gi_wp2
      go_end0
      exact ⟨⟨_, rfl⟩, .inl ⟨_, rfl, by rw [HX.out, HNE.out, FrameP.all_nil, List.append_nil]; exact hJs⟩⟩
    · rcases htk : FrameP.take r.data.toList with ⟨x, m, er⟩
      have ht := frame_Take r hr
      rw [htk] at ht
      unfold tfV at ht
      simp only at ht
      have HT := Lib.hid ht
      clear ht
      have hne2 : (!r.toList.isEmpty) = true := by rw [ByteArray.toList_eq]; simpa using hne
      by_cases her : er = 0
      · subst her
        have hst := all_step_ok _ x m hne htk
        obtain ⟨hm1, hm2, _⟩ := FrameP.take_ok _ _ _ htk
        have hm2' : m ≤ r.size := hm2
        have HM : 16 ≤ m := by omega
        rw [hst] at hx
        have HX := Lib.hid hx
        have hlen := Lib.hid (show pre.length < (FrameP.all s.data.toList).1.length by rw [hx]; simp)
        clear htk hx hst hm1 hm2
        have hi0 : (0 : Int) ≤ (m : Int) := by omega
        have hi1 : (m : Int) ≤ (r.size : Int) := by omega
        gi_wp2_with (refine ⟨trivial, ?_⟩; gi_at_call 34; refine (callsIn_wide.2 (HT.out _)).mono ?_; rintro e w1 ⟨rfl, hb1⟩; have hJ2 := HJ.out pre w1 (w1.alloc (.cells #[.int .i64 x.1, .string ⟨x.2.toArray⟩] 44)) none (HJ.out pre wr w1 none hJs (grown_of_below hb1) (by simp)) (World.grownBy_alloc _ _ _) (by simp); obtain ⟨fn, tmps, assign, body, hy, hR⟩ := HY.out pre x _ hJ2 hlen.out; unfold frV at hy)
        refine hR.mono ?_
        rintro e W3 (⟨rfl, hJ3, _⟩ | ⟨rfl, hJx3⟩)
        · gi_wp2
          refine ⟨⟨pre ++ [x], r.extract m r.size, rfl, by rw [ByteArray.size_extract]; omega, by rw [HX.out, ex_drop]; simp, hJ3⟩, ?_⟩
          show (r.extract m r.size).size < r.size
          rw [ByteArray.size_extract]; omega
        · gi_wp2
          refine bodyPost_ret (results_none rfl _ _ _) rfl ?_
          exact ⟨⟨_, rfl⟩, .inr ⟨pre ++ [x], ⟨(FrameP.all (r.data.toList.drop m)).1, by rw [HX.out]; simp⟩, hJx3⟩⟩
      · have hst := all_step_bad _ x m er hne htk her
        rw [hst] at hx
        have HX := Lib.hid hx
        have hne3 : (er != 0) = true := by rw [bne_iff_ne]; exact her
        clear htk hx hst her
        gi_wp2_with (refine ⟨trivial, ?_⟩; gi_at_call 34; refine (callsIn_wide.2 (HT.out _)).mono ?_; rintro e w1 ⟨rfl, hb1⟩; have hJ2 := HJ.out pre w1 (w1.alloc (.cells #[.int .i64 x.1, .string ⟨x.2.toArray⟩] 44)) none (HJ.out pre wr w1 none hJs (grown_of_below hb1) (by simp)) (World.grownBy_alloc _ _ _) (by simp))
        all_goals
          refine ⟨fun _ h => (by cases h), ?_⟩
          gi_wp2
          refine bodyPost_ret (results_none rfl _ _ _) rfl ?_
          exact ⟨⟨_, rfl⟩, .inl ⟨_, rfl, by rw [HX.out, List.append_nil]; exact hJ2⟩⟩

/-- frame.Each hands back such an iterator -/
theorem frame_Each (s : ByteArray) (w : World) :
    Calls Try.prog 39 #[.string s] w fun e w' => e = .returned (.func (.func 55) #[] #[.pointer (some ⟨w.heap.size, 0, none⟩)]) ∧ w' = w.alloc (.cells #[.string s] 9) := by
  go_enter Try.func39, Try.ntmps39
  go_wp2
  go_ret
  exact ⟨rfl, rfl⟩
theorem each_stops (n : Nat) (hn : 1 ≤ n) (Bn : Nat) (s : ByteArray) (hs : s.size ≤ maxLen) (w : World) (hBn : Bn < w.heap.size) (hc : w.cell? ⟨Bn, 0, none⟩ = some (.string s)) :
    SeqStopsK Fence.wide n Try.prog 55 #[.pointer (some ⟨Bn, 0, none⟩)] (fun x : FrameP.Fr => #[frV x]) (fun _ _ => True) (fun ys => ys = (FrameP.all s.data.toList).1) (fun pre => pre <+: (FrameP.all s.data.toList).1) (FrameP.all s.data.toList).1.length w := fun l J Jx W hW hJ _ hY h0 =>
  each1_in n hn l Bn s hs J Jx _ hJ hY W ((hW.cell (p := ⟨Bn, 0, none⟩) hBn).trans hc) h0

/-- a frame in a box of two cells -/
def Box2 (W : World) (B : Nat) (t : TypeId) (a b : Value) : Prop := W.heap[B]? = some (.cells #[a, b] t (0, 0))
theorem Box2.own (B : Nat) (t : TypeId) (a b : Value) : Own (fun (_ : Unit) W => Box2 W B t a b) := fun _ X Y row hs hg hrow => by
  have hs' : X.heap[B]? = some (.cells #[a, b] t (0, 0)) := hs
  show Y.heap[B]? = _
  rw [hg.block B (Array.getElem?_eq_some_iff.1 hs').1 (fun e' => by obtain ⟨o, ho, hc⟩ := hrow B e'.symm; rw [hs'] at ho; cases ho; cases hc)]
  exact hs'
theorem Box2.new (W : World) (t : TypeId) (a b : Value) : Box2 (W.alloc (.cells #[a, b] t)) W.heap.size t a b := World.alloc_heap_new W _
theorem Box2.cells {W : World} {B : Nat} {t : TypeId} {a b : Value} (h : Box2 W B t a b) : W.cell? ⟨B, 0, none⟩ = some a ∧ W.cell? ⟨B, 1, none⟩ = some b := by
  constructor
  · rw [cell_of_row _ _ _ _ t _ h]; rfl
  · rw [cell_of_row _ _ _ _ t _ h]; rfl
end Go.Proofs.Ytaocmepffhochaa
