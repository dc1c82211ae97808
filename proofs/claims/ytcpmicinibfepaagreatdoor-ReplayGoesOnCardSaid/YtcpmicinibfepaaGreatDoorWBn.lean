/- Layer 33: an iterator from the last to the first (slices.Backward); what a repair does to a disk · Layer 33: a repair (Repair). -/
import Derived.Test.YtcpmicinibfepaaGreatDoorWBj
import Derived.RangeFuncNested
import Derived.RangeFuncBound
import Derived.RangeFuncCalls
import Derived.RangeFuncLeaves
import Derived.Shelf.Abstract
import Derived.Shelf.RegionOpen
import Derived.WalkKit
import Derived.OwnWalkIn
import Derived.TacticsInMore
import Derived.LoopNIn
import Derived.LoopIn
import Derived.BigRegionIn
import Derived.Test.YtcpmicinibfepaaGreatDoorWAt
namespace Go.Proofs.YtcpmicinibfepaaGreatDoor
open Go.ChangeShapes Go.WideShapes Go.ChangeAt Go.RowKit Go.Deep Go.Shelf DiskP NameP


/-- files are taken away, one by one, as long as it goes -/
def remAll : DS → List ByteArray → DS × Int
  | S, [] => (S, 0)
  | S, n :: r => if (removeD S n).2 ≠ 0 then removeD S n else remAll (removeD S n).1 r
/-- a repair -/
def repairD (S : DS) (file : ByteArray) (keep : Int) (xs : List ByteArray) : DS × Int :=
  if (remAll S xs.reverse).2 ≠ 0 then remAll S xs.reverse
  else if file = ⟨#[]⟩ then ((remAll S xs.reverse).1, 0)
  else if (readD (remAll S xs.reverse).1 file).2 ≠ 0 then ((remAll S xs.reverse).1, (readD (remAll S xs.reverse).1 file).2)
  else if keep = 0 then removeD (remAll S xs.reverse).1 file
  else if keep = ((readD (remAll S xs.reverse).1 file).1.size : Int) then ((remAll S xs.reverse).1, 0)
  else cutD (remAll S xs.reverse).1 file keep
theorem remAll_snoc : ∀ (l : List ByteArray) (S : DS), (remAll S l).2 = 0 → ∀ n, remAll S (l ++ [n]) = removeD (remAll S l).1 n := by
  intro l
  induction l with
  | nil =>
    intro S _ n
    simp only [List.nil_append, remAll]
    split
    · rfl
    · rename_i h
      have h0 : (removeD S n).2 = 0 := by simpa using h
      exact Prod.ext rfl h0.symm
  | cons a l ih =>
    intro S h n
    simp only [List.cons_append, remAll] at h ⊢
    split at h
    · rename_i h1; exact absurd h h1
    · rename_i h1
      rw [if_neg h1, if_neg h1]
      exact ih _ h n
theorem remAll_bad : ∀ (l r : List ByteArray) (S : DS), (remAll S l).2 ≠ 0 → remAll S (l ++ r) = remAll S l := by
  intro l
  induction l with
  | nil => intro r S h; exact absurd rfl h
  | cons a l ih =>
    intro r S h
    simp only [List.cons_append, remAll] at h ⊢
    split
    · rfl
    · rename_i h1
      rw [if_neg h1] at h
      exact ih r _ h
/-- what the iterator hands out at its round x -/
def backV (xs : List ByteArray) (x : Nat) : Array Value := #[.int .i64 ((xs.length - 1 - x : Nat) : Int), .string ((xs[xs.length - 1 - x]?).getD ⟨#[]⟩)]
theorem range_pre' {a b : Nat} (h : a ≤ b) : List.range a <+: List.range b := by
  obtain ⟨c, rfl⟩ := Nat.le.dest h
  rw [List.range_add]
  exact List.prefix_append _ _

theorem slices_Backward (A : Option Addr) (n c : Nat) (w : World) : Calls Tryz.prog 51 #[.slice A n c] w fun e w' => e = .returned (.func (.func 76) #[] #[.pointer (some ⟨w.heap.size, 0, none⟩)]) ∧ w' = w.alloc (.cells #[.slice A n c] 36) := by
  go_enter Tryz.func51, Tryz.ntmps51
  go_wp2
  go_ret
  exact ⟨rfl, rfl⟩

set_option maxRecDepth 100000 in
set_option maxHeartbeats 2000000 in
theorem back1_in (n : Nat) (hn : 1 ≤ n) (l B1 : Nat) (A : Option Addr) (c : Nat) (xs : List ByteArray) (hx : xs.length ≤ 1000) (J Jx : List Nat → World → Prop)
    (hJc : ∀ pre W, J pre W → W.cell? ⟨B1, 0, none⟩ = some (.slice A xs.length c) ∧ Rd W W.heap.size A (xs.map Value.string))
    (hY : ∀ pre x W, J pre W → pre.length < xs.length → x = pre.length → YieldAt Fence.wide (n - 1) Tryz.prog l (backV xs x) W fun e W' =>
      (e = .returned (.bool true) ∧ J (pre ++ [x]) W' ∧ True) ∨ (e = .returned (.bool false) ∧ Jx (pre ++ [x]) W'))
    (W : World) (h0 : J [] W) :
    CallsIn Fence.wide n Tryz.prog 76 #[.func (.yield l) #[] #[], .pointer (some ⟨B1, 0, none⟩)] W fun e W' => (∃ v, e = .returned v) ∧
      ((∃ ys, ys = List.range xs.length ∧ J ys W') ∨ (∃ pre, pre <+: List.range xs.length ∧ Jx pre W')) := by
  have HY := Lib.hid hY
  have HJC := Lib.hid hJc
  clear hY hJc
  have x0 := (HJC.out _ _ h0).1
  refine callsIn_of_wp Tryz.func76 rfl trivial ?_ rfl
  simp only [Tryz.ntmps76, List.size_toArray, List.length_cons, List.length_nil, Nat.reduceAdd, Nat.reduceSub, Array.replicate_succ, Array.replicate_zero, List.push_toArray, List.append_toArray, List.nil_append, List.cons_append]
  gi_wp2
  gi_loopw [3] (fun i wr => ∃ r k : Nat, r + k = xs.length ∧ i = .int .i64 ((r : Int) - 1) ∧ J (List.range k) wr) (fun i _ => (intOf i + 1).toNat)
  case atStart => exact ⟨xs.length, 0, rfl, rfl, h0⟩
  case round =>
    obtain ⟨r, k, hrk, rfl, hJs⟩ := hrel
    clear x0
    cases r with
    | zero =>
      have e0 : ((0 : Nat) : Int) - 1 = -1 := rfl
      rw [e0]
      obtain rfl : k = xs.length := by omega
      gi_wp2
      go_end0
      exact ⟨⟨_, rfl⟩, .inl ⟨_, rfl, hJs⟩⟩
    | succ q =>
      have e0 : ((q + 1 : Nat) : Int) - 1 = (q : Int) := by omega
      rw [e0]
      have hqk : xs.length - 1 - k = q := by omega
      obtain ⟨s, hs⟩ : ∃ s, xs[q]? = some s := ⟨xs[q]'(by omega), List.getElem?_eq_getElem _⟩
      obtain ⟨x1, x2⟩ := HJC.out _ _ hJs
      obtain ⟨ad, rfl, _, z⟩ := x2 q (.string s) (by rw [List.getElem?_map, hs]; rfl)
      obtain ⟨fn, tmps, assign, body, hy, hR⟩ := HY.out (List.range k) k wr hJs (by simp; omega) (by simp)
      have hcv : backV xs k = #[.int .i64 (q : Int), .string s] := by unfold backV; rw [hqk, hs]; rfl
      rw [hcv] at hy
      have hi1 : (q : Int) < (xs.length : Int) := by omega
      have hi2 : (0 : Int) ≤ (q : Int) := by omega
      have HQ := Lib.hid hrk
      clear hs x2 hcv hqk hrk e0
      gi_wp2
      refine hR.mono ?_
      rintro e W3 (⟨rfl, hJ3, _⟩ | ⟨rfl, hJx3⟩)
      · gi_wp2
        refine ⟨⟨q, k + 1, by have := HQ.out; omega, rfl, by rw [List.range_succ]; exact hJ3⟩, ?_⟩
        simp [intOf]
        try omega
      · gi_wp2
        refine bodyPost_ret (results_none rfl _ _ _) rfl ?_
        exact ⟨⟨_, rfl⟩, .inr ⟨List.range k ++ [k], by rw [← List.range_succ]; exact range_pre' (by have := HQ.out; omega), hJx3⟩⟩

/-- what the iterator needs of the world: its box, and the row that it reads -/
def BkK (B1 : Nat) (A : Option Addr) (W1 W' : World) : Prop := W'.heap[B1]? = W1.heap[B1]? ∧ ∀ a, A = some a → W'.heap[a.block]? = W1.heap[a.block]?
theorem cells_keep {X Y : World} {B : Nat} {row : Option Nat} (hg : X.grownBy Y row) (hr : ∀ r, row = some r → B ≤ r ∧ ∃ o : Obj, X.heap[r]? = some o ∧ o.isCells = false) {b : Nat} {cs : Array Value} {T : TypeId} (h : X.heap[b]? = some (.cells cs T (0, 0))) : Y.heap[b]? = X.heap[b]? := by
  refine hg.block b (bx_lt h) fun e => ?_
  obtain ⟨_, o, ho, hc⟩ := hr b e.symm
  rw [h] at ho
  cases ho
  cases hc
theorem cells_walk {X Y : World} {B : Nat} {row : Option Nat} (hg : X.grownBy Y row) (hr : ∀ r, row = some r → B ≤ r ∧ ∃ o : Obj, X.heap[r]? = some o ∧ o.isWalk = true) {b : Nat} {cs : Array Value} {T : TypeId} (h : X.heap[b]? = some (.cells cs T (0, 0))) : Y.heap[b]? = X.heap[b]? :=
  cells_keep (B := B) hg (fun r e => by obtain ⟨h1, o, h2, h3⟩ := hr r e; exact ⟨h1, o, h2, Obj.not_cells_of_walk h3⟩) h
theorem row_cells {w : World} {B n c : Nat} {e : TypeId} {A : Option Addr} {xs : List Value} (h : w.ownsRow B e 1 (.slice A n c) n xs) : ∀ a, A = some a → ∃ cs T, w.heap[a.block]? = some (.cells cs T (0, 0)) := fun a ha => by
  obtain ⟨cur, hc⟩ := own_type h (g := a.block) (by rw [ha]; rfl)
  exact ⟨cur, e, hc⟩
theorem row_move {w w' : World} {B n c : Nat} {e : TypeId} {A : Option Addr} {xs : List Value} (h : w.ownsRow B e 1 (.slice A n c) n xs) (hk : ∀ a, A = some a → w'.heap[a.block]? = w.heap[a.block]?) : w'.ownsRow B e 1 (.slice A n c) n xs := by
  refine own_at h fun g hg => ?_
  cases A with
  | none => simp [Value.ownBlock] at hg
  | some a => exact hk a rfl |> fun h => by simp [Value.ownBlock] at hg; rw [← hg]; exact h
theorem back_stops (n : Nat) (hn : 1 ≤ n) (B1 B : Nat) (A : Option Addr) (c : Nat) (xs : List ByteArray) (hx : xs.length ≤ 1000) (w : World) (h1 : w.heap[B1]? = some (.cells #[.slice A xs.length c] 36 (0, 0))) (h2 : w.ownsRow B 9 1 (.slice A xs.length c) xs.length (xs.map Value.string)) :
    SeqStopsK Fence.wide n Tryz.prog 76 #[.pointer (some ⟨B1, 0, none⟩)] (fun x : Nat => backV xs x) (BkK B1 A) (fun ys => ys = List.range xs.length) (fun pre => pre <+: List.range xs.length) xs.length w := fun l J Jx W hW hJ _ hY h0 => by
  have k1 := bx_kept h1 hW
  have k2 := own_below h2 hW
  refine (back1_in n hn l B1 A c xs hx (fun pre W => J pre W ∧ W.heap[B1]? = some (.cells #[.slice A xs.length c] 36 (0, 0)) ∧ W.ownsRow B 9 1 (.slice A xs.length c) xs.length (xs.map Value.string)) Jx
    (fun pre X hX => ⟨(bx_cells hX.2.1 0).trans rfl, Rd.own hX.2.2⟩)
    (fun pre x X hX hl hxp => ?_) W ⟨h0, k1, k2⟩).mono ?_
  · obtain ⟨fn, tmps, assign, body, hy, hR⟩ := hY pre x X hX.1 hl
    refine ⟨fn, tmps, assign, body, hy, hR.mono ?_⟩
    rintro e W' (⟨he, hj, q1, q2⟩ | ⟨he, hj⟩)
    · exact .inl ⟨he, ⟨hj, q1.trans hX.2.1, row_move hX.2.2 q2⟩, trivial⟩
    · exact .inr ⟨he, hj⟩
  · rintro e W' ⟨he, (⟨ys, hys, hj⟩ | ⟨pre, hp, hj⟩)⟩
    · exact ⟨he, .inl ⟨ys, hys, hj.1⟩⟩
    · exact ⟨he, .inr ⟨pre, hp, hj⟩⟩
end Go.Proofs.YtcpmicinibfepaaGreatDoor

namespace Go.Proofs.YtcpmicinibfepaaGreatDoor
open Go.ChangeShapes Go.WideShapes Go.ChangeAt Go.RowKit Go.Deep Go.Shelf DiskP NameP


attribute [local go_sem] Oper.semAt_some

/-- the name at a round -/
def bkS (xs : List ByteArray) (x : Nat) : ByteArray := (xs[xs.length - 1 - x]?).getD ⟨#[]⟩
/-- what holds between the rounds of a repair, in the world w ahead of it -/
structure RpI (w : World) (d : Nat) (S : DS) (tl : Array Value) (A2 : Option Addr) (c2 B : Nat) (xs : List ByteArray) (pre : List Nat) (W : World) : Prop where
  dk : ∃ A c, Dk d A c (remAll S (pre.map (bkS xs))).1 W
  ok : (remAll S (pre.map (bkS xs))).2 = 0
  b0 : W.heap[w.heap.size]? = some (.cells #[.pointer (some ⟨d, 0, none⟩)] 25 (0, 0))
  b1 : W.heap[w.heap.size + 1]? = some (.cells tl 58 (0, 0))
  b2 : W.heap[w.heap.size + 1 + 1]? = some (.cells #[.int .i64 0] 31 (0, 0))
  b3 : W.heap[w.heap.size + 1 + 1 + 1]? = some (.cells #[.slice A2 xs.length c2] 36 (0, 0))
  row : W.ownsRow B 9 1 (.slice A2 xs.length c2) xs.length (xs.map Value.string)
  keep : DKeep d w W
/-- a removal failed -/
structure RpX (w : World) (d : Nat) (S : DS) (xs : List ByteArray) (pre : List Nat) (W : World) : Prop where
  dk : ∃ A c, Dk d A c (remAll S (pre.map (bkS xs))).1 W
  bad : (remAll S (pre.map (bkS xs))).2 ≠ 0
  b2 : W.heap[w.heap.size + 1 + 1]? = some (.cells #[.int .i64 (remAll S (pre.map (bkS xs))).2] 31 (0, 0))
  keep : DKeep d w W
theorem dk_move {d : Nat} {A : Option Addr} {c : Nat} {S : DS} {X Y : World} (h : Dk d A c S X) (hk : ∀ (b : Nat) (cs : Array Value) (T : TypeId), X.heap[b]? = some (Obj.cells cs T (0, 0)) → Y.heap[b]? = X.heap[b]?) : Dk d A c S Y :=
  ⟨(hk d _ _ h.box).trans h.box, own_at h.row fun g hg => by obtain ⟨cur, hc⟩ := own_type h.row hg; exact hk g _ _ hc⟩
theorem dkeep_move {d : Nat} {w X Y : World} {row : Option Nat} (h : DKeep d w X) (hg : X.grownBy Y row) (hd : d ≤ w.heap.size) (hr : ∀ r, row = some r → w.heap.size ≤ r) : DKeep d w Y :=
  ⟨h.below.grown hg (Nat.le_trans hd h.below.size) (fun k e => Nat.le_trans hd (hr k e)), fun b hb hbs ht => (hg.block b (Nat.lt_of_lt_of_le hbs h.below.size) (fun e => by have := hr b e.symm; omega)).trans (h.others b hb hbs ht)⟩
theorem rpI_own (w : World) (d : Nat) (hd : d < w.heap.size) (S : DS) (tl : Array Value) (A2 : Option Addr) (c2 B B' : Nat) (xs : List ByteArray) (hB : w.heap.size ≤ B') : OwnFrom B' (RpI w d S tl A2 c2 B xs) := by
  intro pre X Y row h hg hr
  have hk : ∀ (b : Nat) (cs : Array Value) (T : TypeId), X.heap[b]? = some (Obj.cells cs T (0, 0)) → Y.heap[b]? = X.heap[b]? := fun b cs T hb => cells_keep hg hr hb
  obtain ⟨A, c, hdk⟩ := h.dk
  exact ⟨⟨A, c, dk_move hdk hk⟩, h.ok, (hk _ _ _ h.b0).trans h.b0, (hk _ _ _ h.b1).trans h.b1, (hk _ _ _ h.b2).trans h.b2, (hk _ _ _ h.b3).trans h.b3, row_move h.row (fun a ha => by obtain ⟨cs, T, hc⟩ := row_cells h.row a ha; exact hk _ _ _ hc), dkeep_move h.keep hg (Nat.le_of_lt hd) (fun r e => Nat.le_trans hB (hr r e).1)⟩
theorem rpX_own (w : World) (d : Nat) (hd : d < w.heap.size) (S : DS) (xs : List ByteArray) (B' : Nat) (hB : w.heap.size ≤ B') : OwnFrom B' (RpX w d S xs) := by
  intro pre X Y row h hg hr
  have hk : ∀ (b : Nat) (cs : Array Value) (T : TypeId), X.heap[b]? = some (Obj.cells cs T (0, 0)) → Y.heap[b]? = X.heap[b]? := fun b cs T hb => cells_keep hg hr hb
  obtain ⟨A, c, hdk⟩ := h.dk
  exact ⟨⟨A, c, dk_move hdk hk⟩, h.bad, (hk _ _ _ h.b2).trans h.b2, dkeep_move h.keep hg (Nat.le_of_lt hd) (fun r e => Nat.le_trans hB (hr r e).1)⟩
theorem remAll_inv {R : Int} {j : Nat} : ∀ (l : List ByteArray) (i : Nat) (S : DS), DInv R i j S → DInv R (i + l.length) j (remAll S l).1 := by
  intro l
  induction l with
  | nil => intro i S h; exact h
  | cons a l ih =>
    intro i S h
    have h1 := (removeD_inv h a).1
    simp only [remAll]
    split
    · exact h1.more (by simp) (Nat.le_refl _)
    · have := ih (i + 1) _ h1
      rw [List.length_cons, show i + (l.length + 1) = i + 1 + l.length by omega]
      exact this
theorem keeps_of_dkeep {d B : Nat} {W W' : World} (h : DKeep d W W') (hd : d < B) : KeepsFrom B W W' :=
  ⟨h.below.size, fun k o hB hk ho => (h.others k (by omega) (bx_lt hk) (fun cs z e => by rw [hk] at e; cases e; cases ho)).trans hk⟩
theorem bk_names (xs : List ByteArray) : (List.range xs.length).map (bkS xs) = xs.reverse := by
  apply List.ext_getElem
  · simp
  · intro n h1 h2
    simp only [List.length_map, List.length_range] at h1
    simp only [List.getElem_map, List.getElem_range, List.getElem_reverse, bkS]
    rw [List.getElem?_eq_getElem (by omega)]
    rfl
theorem dk_not {d : Nat} {A : Option Addr} {c : Nat} {S : DS} {w : World} (h : Dk d A c S w) {b : Nat} {cs : Array Value} {T : TypeId} (hb : w.heap[b]? = some (.cells cs T (0, 0))) (hT : T ≠ 81) : Value.ownBlock (.slice A S.fs.length c) ≠ some b := fun e => by
  obtain ⟨cur, hc⟩ := own_type h.row e
  rw [hb] at hc
  simp at hc
  exact hT hc.2

theorem rep_end {tmps : Array Value} {D p d : Nat} {Z w : World} {S' : DS} {er : Int} (ht : tmps.getD 4 undef = .pointer (some ⟨p, 0, none⟩)) (hZ : Z.heap[D]? = some (.deferred (some []))) (hp : Z.heap[p]? = some (.cells #[.int .i64 er] 31 (0, 0))) (hdk : ∃ A c, Dk d A c S' Z) (hk : DKeep d w Z) (hd : d < w.heap.size) (hD : w.heap.size ≤ D) :
    bodyPostM Fence.wide 3 Tryz.prog Tryz.f29 (DPost d S' (.int .i64 er) w) Exit.ret { tmps := tmps, defers := [{ target := .collected D, args := #[] }] } Z := by
  obtain ⟨A, c, hdk⟩ := hdk
  have hg := grownBy_putObj' Z D (.deferred none)
  have hr : ∀ r, some D = some r → w.heap.size ≤ r ∧ ∃ o : Obj, Z.heap[r]? = some o ∧ o.isCells = false := fun r e => by cases e; exact ⟨hD, _, hZ, rfl⟩
  have hp2 := (cells_keep hg hr hp).trans hp
  have x0 := bx_cells hp2 0
  refine ⟨by simp, .inl ⟨_, _, rfl, run_takeDeferred hZ, ?_⟩⟩
  refine ⟨.int .i64 er, ?_, rfl, A, c, dk_move hdk (fun b cs T hb => cells_keep hg hr hb), dkeep_move hk hg (Nat.le_of_lt hd) (fun r e => (hr r e).1)⟩
  have ht' : tmps[4]?.getD undef = .pointer (some ⟨p, 0, none⟩) := by simpa using ht
  have hl : (loadVar 31 ⟨p, 0, none⟩).run Tryz.prog (Z.putObj D (.deferred none)) = .ok (.int .i64 er) (Z.putObj D (.deferred none)) := by
    unfold loadVar
    go_simp
  simp [results, ht', asAddr, hl]

set_option maxRecDepth 100000 in
set_option maxHeartbeats 8000000 in
theorem rep_Repair (d : Nat) (A : Option Addr) (c : Nat) (S : DS) (R : Int) (i j : Nat) (hI : DInv R i j S) (hij : i ≤ 700 ∧ j ≤ 900) (A1 : Option Addr) (n1 c1 : Nat) (file : ByteArray) (keep : Int) (B : Nat) (A2 : Option Addr) (c2 : Nat) (xs : List ByteArray) (hx : xs.length ≤ 100) (hdB : d < B) (w : World) (h : Dk d A c S w)
    (ho : w.ownsRow B 9 1 (.slice A2 xs.length c2) xs.length (xs.map Value.string)) :
    Calls Tryz.prog 29 #[.pointer (some ⟨d, 0, none⟩), .agg #[.slice A1 n1 c1, .string file, .int .i64 keep, .slice A2 xs.length c2]] w (DPost d (repairD S file keep xs).1 (.int .i64 (repairD S file keep xs).2) w) := by
  have hdl := h.lt
  have HBK := Lib.hid (slices_Backward A2 xs.length c2)
  have HH := Lib.hid h
  have HO := Lib.hid ho
  have HI := Lib.hid hI
  refine (callsIn_wide (n := 3)).1 ?_
  refine callsIn_of_wp_marks Tryz.func29 rfl trivial ?_ rfl
  simp only [Tryz.ntmps29, List.size_toArray, List.length_cons, List.length_nil, Nat.reduceAdd, Nat.reduceSub, Array.replicate_succ, Array.replicate_zero, List.push_toArray, List.append_toArray, List.nil_append, List.cons_append]
  clear h ho hI
  gi_wp2_with (refine ⟨trivial, ?_⟩; gi_at_call 51; refine (callsIn_wide.2 (HBK.out _)).mono ?_; rintro e w1 ⟨rfl, rfl⟩)
  have b0 := kept_new (kept_new (kept_new (heap_alloc_new w (.cells #[.pointer (some ⟨d, 0, none⟩)] 25)) (.cells #[.slice A1 n1 c1, .string file, .int .i64 keep, .slice A2 xs.length c2] 58)) (.cells #[.int .i64 0] 31)) (.cells #[.slice A2 xs.length c2] 36)
  have b1 := heap_alloc_new (w.alloc (.cells #[.pointer (some ⟨d, 0, none⟩)] 25)) (.cells #[.slice A1 n1 c1, .string file, .int .i64 keep, .slice A2 xs.length c2] 58)
  replace b1 := kept_new (kept_new b1 (.cells #[.int .i64 0] 31)) (.cells #[.slice A2 xs.length c2] 36)
  have b2 := kept_new (heap_alloc_new ((w.alloc (.cells #[.pointer (some ⟨d, 0, none⟩)] 25)).alloc (.cells #[.slice A1 n1 c1, .string file, .int .i64 keep, .slice A2 xs.length c2] 58)) (.cells #[.int .i64 0] 31)) (.cells #[.slice A2 xs.length c2] 36)
  have b3 := heap_alloc_new (((w.alloc (.cells #[.pointer (some ⟨d, 0, none⟩)] 25)).alloc (.cells #[.slice A1 n1 c1, .string file, .int .i64 keep, .slice A2 xs.length c2] 58)).alloc (.cells #[.int .i64 0] 31)) (.cells #[.slice A2 xs.length c2] 36)
  have hB0 : Below w.heap.size w ((((w.alloc (.cells #[.pointer (some ⟨d, 0, none⟩)] 25)).alloc (.cells #[.slice A1 n1 c1, .string file, .int .i64 keep, .slice A2 xs.length c2] 58)).alloc (.cells #[.int .i64 0] 31)).alloc (.cells #[.slice A2 xs.length c2] 36)) := by (repeat (first | assumption | exact Below.refl _ _ | refine below_step (by assumption) ?_ | refine below_alloc' _ ?_ | refine below_drewN ?_ _ | refine Below.drew ?_))
  have hsz0 : ((((w.alloc (.cells #[.pointer (some ⟨d, 0, none⟩)] 25)).alloc (.cells #[.slice A1 n1 c1, .string file, .int .i64 keep, .slice A2 xs.length c2] 58)).alloc (.cells #[.int .i64 0] 31)).alloc (.cells #[.slice A2 xs.length c2] 36)).heap.size = w.heap.size + 1 + 1 + 1 + 1 := by simp only [World.size_alloc]
  simp only [World.size_alloc] at b1 b2 b3
  obtain ⟨W0, hW0⟩ : ∃ W0, ((((w.alloc (.cells #[.pointer (some ⟨d, 0, none⟩)] 25)).alloc (.cells #[.slice A1 n1 c1, .string file, .int .i64 keep, .slice A2 xs.length c2] 58)).alloc (.cells #[.int .i64 0] 31)).alloc (.cells #[.slice A2 xs.length c2] 36)) = W0 := ⟨_, rfl⟩
  rw [hW0] at b0 b1 b2 b3 hB0 hsz0 ⊢
  clear hW0
  have hablk : ∀ a, A2 = some a → a.block < w.heap.size := fun a ha => (HO.out.lt a.block (by rw [ha]; rfl)).2
  have row0 := own_below HO.out hB0
  refine wpIn_rangeFunc_ownH rfl (by omega) (gf := 76) (lb := #[.pointer (some ⟨w.heap.size + 1 + 1 + 1, 0, none⟩)]) rfl trivial (enters_of Tryz.func76 (by kernel_rfl) rfl)
    (back_stops 2 (by omega) (w.heap.size + 1 + 1 + 1) B A2 c2 xs (by omega) W0 b3 row0)
    (fun h1 h2 => ⟨h2.1.trans h1.1, fun a ha => (h2.2 a ha).trans (h1.2 a ha)⟩) (fun W lo o o' hlo hwo _ _ => ⟨World.putObj_heap_other (by omega), fun a ha => World.putObj_heap_other (by have := hablk a ha; omega)⟩) (Below.refl _ _) (fun _ => rfl)
    (RpI w d S #[.slice A1 n1 c1, .string file, .int .i64 keep, .slice A2 xs.length c2] A2 c2 B xs) (fun cd pre W => cd = .ret ∧ RpX w d S xs pre W) (rpI_own w d hdl S _ A2 c2 B _ xs (by omega)) (fun cd pre X Y row hs hg hr => ⟨hs.1, rpX_own w d hdl S xs _ (by omega) pre X Y row hs.2 hg hr⟩)
    ⟨⟨A, c, HH.out.kept hB0⟩, rfl, b0, b1, b2, b3, row0, DKeep.of_below hB0 (Nat.le_of_lt hdl)⟩
    (fun x a' _ => a' = { tmps := #[.pointer (some ⟨d, 0, none⟩), .agg #[.slice A1 n1 c1, .string file, .int .i64 keep, .slice A2 xs.length c2], .pointer (some ⟨w.heap.size, 0, none⟩), .pointer (some ⟨w.heap.size + 1, 0, none⟩), .pointer (some ⟨w.heap.size + 1 + 1, 0, none⟩), undef, .string (bkS xs x), undef, undef, undef, .pointer (some ⟨w.heap.size + 1, 3, none⟩), .slice A2 xs.length c2, .func (.func 76) #[] #[.pointer (some ⟨w.heap.size + 1 + 1 + 1, 0, none⟩)], .int .i64 ((xs.length - 1 - x : Nat) : Int), .string (bkS xs x), undef, undef, undef, undef, undef, undef, undef, undef, undef, undef, undef, undef, undef, undef, undef, undef, undef, undef, undef, undef, undef, undef, undef, undef, undef, undef, undef, undef, undef, undef, undef, undef, undef, undef, undef, undef, undef, undef, undef, undef], defers := [] }) (fun x a' _ X Y row hs hg hr => hs)
    ?assign ?body ?done ?stop
  case assign =>
    rintro l0 pre x W Kk hI hK
    unfold backV
    gi_wp2
    exact hK _ _ (KeepsFrom.refl _ _) ⟨rfl, fun _ _ => rfl⟩ hI rfl
  case body =>
    rintro l0 pre x a' W hl0 ⟨r, hr⟩ hI rfl hlt
    obtain ⟨A3, c3, hdk⟩ := hI.dk
    have hinv := (remAll_inv (pre.map (bkS xs)) i S HI.out)
    rw [List.length_map] at hinv
    have CR := Lib.hid (disk_Remove d A3 c3 _ (hinv.ok (by omega) (by omega)) (bkS xs x) W hdk)
    have y0 := bx_cells hI.b0 0
    have HR := Lib.hid hI
    generalize hrem : removeD (remAll S (pre.map (bkS xs))).1 (bkS xs x) = rr at CR
    obtain ⟨S', er⟩ := rr
    have HREM := Lib.hid hrem
    clear hrem hI hdk hinv
    by_cases her : er = 0
    · subst her
      gi_wp2_with (refine ⟨trivial, ?_⟩; gi_at_call 44; refine (CallsIn.inRound _ (callsIn_wide.2 CR.out)).mono ?_; rintro e w2 ⟨rfl, A4, c4, hd4, hk4⟩)
      have hb3 := dkeep_box hk4 HR.out.b3 (by omega) (by decide)
      have hrow : ∀ a, A2 = some a → w2.heap[a.block]? = W.heap[a.block]? := fun a ha => by
        obtain ⟨cur, hc⟩ := own_type HR.out.row (g := a.block) (by rw [ha]; rfl)
        have := (HR.out.row.lt a.block (by rw [ha]; rfl)).1
        exact (dkeep_box hk4 hc (by omega) (by decide)).trans hc.symm
      have hsn := remAll_snoc (pre.map (bkS xs)) S HR.out.ok (bkS xs x)
      rw [HREM.out] at hsn
      have hmap : (pre ++ [x]).map (bkS xs) = pre.map (bkS xs) ++ [bkS xs x] := by rw [List.map_append]; rfl
      exact ⟨keeps_of_dkeep hk4 (by omega), ⟨hb3.trans HR.out.b3.symm, hrow⟩, ⟨⟨A4, c4, by rw [hmap, hsn]; exact hd4⟩, by rw [hmap, hsn], dkeep_box hk4 HR.out.b0 (by omega) (by decide), dkeep_box hk4 HR.out.b1 (by omega) (by decide), dkeep_box hk4 HR.out.b2 (by omega) (by decide), hb3, row_move HR.out.row hrow, HR.out.keep.trans hk4⟩⟩
    · have hne : (er != 0) = true := by rw [bne_iff_ne]; exact her
      have HER := Lib.hid her
      clear her
      gi_wp2_with (refine ⟨trivial, ?_⟩; gi_at_call 44; refine (CallsIn.inRound _ (callsIn_wide.2 CR.out)).mono ?_; rintro e w2 ⟨rfl, A4, c4, hd4, hk4⟩; have hb2 := dkeep_box hk4 HR.out.b2 (by omega) (by decide); have y2 := bx_cells hb2 0; have f2 := bx_free hb2 0)
      have hsn := remAll_snoc (pre.map (bkS xs)) S HR.out.ok (bkS xs x)
      rw [HREM.out] at hsn
      have hmap : (pre ++ [x]).map (bkS xs) = pre.map (bkS xs) ++ [bkS xs x] := by rw [List.map_append]; rfl
      exact ⟨(keeps_of_dkeep hk4 (by omega)).trans ((KeepsOthers.setCell _ _ _).from _), rfl, ⟨⟨A4, c4, by rw [hmap, hsn]; exact hd4.set_other (by omega) (dk_not hd4 hb2 (by decide)) 0 _⟩, by rw [hmap, hsn]; exact HER.out, by rw [hmap, hsn]; exact bx_set hb2 0 _, (HR.out.keep.trans hk4).set_new (by omega) (by omega) 0 _⟩⟩
  case done =>
    rintro D ys W hD rfl hI hKd
    obtain ⟨A3, c3, hdk⟩ := hI.dk
    have hok := hI.ok
    rw [bk_names] at hdk hok
    have hinv := (remAll_inv xs.reverse i S HI.out)
    rw [List.length_reverse] at hinv
    have y0 := bx_cells hI.b0 0
    have y1 := bx_cells hI.b1 1
    have y2 := bx_cells hI.b1 2
    have z2 := bx_cells hI.b2 0
    have fz2 := bx_free hI.b2 0
    have HR := Lib.hid hI
    have HOK := Lib.hid hok
    by_cases hf : file = ⟨#[]⟩
    · subst hf
      have hrep : repairD S ⟨#[]⟩ keep xs = ((remAll S xs.reverse).1, 0) := by unfold repairD; rw [if_neg (by rw [HOK.out]; decide), if_pos rfl]
      gi_wp2
      rw [hrep]
      exact rep_end (p := w.heap.size + 1 + 1) rfl ((heap_setCell_other W ⟨w.heap.size + 1 + 1, 0, none⟩ D _ (by show D ≠ w.heap.size + 1 + 1; omega)).trans hKd) (bx_set HR.out.b2 0 _) ⟨A3, c3, hdk.set_other (by omega) (dk_not hdk HR.out.b2 (by decide)) 0 _⟩ (HR.out.keep.set_new (by omega) (by omega) 0 _) hdl (by omega)
    · have CRd := Lib.hid (disk_Read d A3 c3 (remAll S xs.reverse).1 file hinv.sorted (by have := hinv.many; omega) W hdk)
      have HF := Lib.hid hf
      have hfe : file.toList.isEmpty = false := by rw [emp_eq]; simpa using hf
      have hWs := bx_lt HR.out.b3
      generalize hrd : readD (remAll S xs.reverse).1 file = rr at CRd
      obtain ⟨s, er⟩ := rr
      have HRD := Lib.hid hrd
      simp only at CRd
      have HINV := Lib.hid hinv
      clear hrd hinv hok hI hf
      by_cases her : er = 0
      · subst her
        have hrep0 : repairD S file keep xs = if keep = 0 then removeD (remAll S xs.reverse).1 file else if keep = (s.size : Int) then ((remAll S xs.reverse).1, 0) else cutD (remAll S xs.reverse).1 file keep := by unfold repairD; rw [if_neg (by rw [HOK.out]; decide), if_neg HF.out, HRD.out]; simp
        have CRm := Lib.hid (fun (u : World) (hb : Below W.heap.size W u) => disk_Remove d A3 c3 (remAll S xs.reverse).1 (HINV.out.ok (by omega) (by omega)) file u (hdk.kept hb))
        have CCt := Lib.hid (fun (u : World) (hb : Below W.heap.size W u) => disk_Cut d A3 c3 (remAll S xs.reverse).1 (HINV.out.ok (by omega) (by omega)) file keep u (hdk.kept hb))
        by_cases hk0 : keep = 0
        · have g0 : (keep == 0) = true := by simpa using hk0
          have HREP := Lib.hid (show repairD S file keep xs = removeD (remAll S xs.reverse).1 file by rw [hrep0, if_pos hk0])
          clear hk0 hrep0
          gi_wp2_with (first
            | (refine ⟨trivial, ?_⟩; gi_at_call 14; refine (callsIn_wide.2 (CRd.out)).mono ?_; rintro e w2 ⟨rfl, b2⟩; have v0 := bx_cells (bx_kept HR.out.b0 b2) 0; have v1 := bx_cells (bx_kept HR.out.b1 b2) 1; have v2 := bx_cells (bx_kept HR.out.b1 b2) 2)
            | (refine ⟨trivial, ?_⟩; gi_at_call 44; refine (callsIn_wide.2 (CRm.out _ b2)).mono ?_; rintro e w3 ⟨rfl, A4, c4, hd4, hk4⟩; have hb2 := dkeep_box hk4 (bx_kept HR.out.b2 b2) (by omega) (by decide); have u2 := bx_cells hb2 0; have uf2 := bx_free hb2 0))
          rw [HREP.out]
          have hk2 := (HR.out.keep.trans (DKeep.of_below (d := d) b2 (by omega))).trans hk4
          have hkD := (hk4.others D (by omega) (Nat.lt_of_lt_of_le (bx_lt hKd) b2.size) (fun cs z e => by rw [(b2.block D (bx_lt hKd)).trans hKd] at e; cases e)).trans ((b2.block D (bx_lt hKd)).trans hKd)
          exact rep_end (p := w.heap.size + 1 + 1) rfl ((heap_setCell_other w3 ⟨w.heap.size + 1 + 1, 0, none⟩ D _ (by show D ≠ w.heap.size + 1 + 1; omega)).trans hkD) (bx_set hb2 0 _) ⟨A4, c4, hd4.set_other (by omega) (dk_not hd4 hb2 (by decide)) 0 _⟩ (hk2.set_new (by omega) (by omega) 0 _) hdl (by omega)
        · have g0 : (keep == 0) = false := by simpa using hk0
          by_cases hks : keep = (s.size : Int)
          · have g1 : (keep == (s.size : Int)) = true := by simpa using hks
            have HREP := Lib.hid (show repairD S file keep xs = ((remAll S xs.reverse).1, 0) by rw [hrep0, if_neg hk0, if_pos hks])
            clear hk0 hrep0 hks
            gi_wp2_with (refine ⟨trivial, ?_⟩; gi_at_call 14; refine (callsIn_wide.2 (CRd.out)).mono ?_; rintro e w2 ⟨rfl, b2⟩; have v0 := bx_cells (bx_kept HR.out.b0 b2) 0; have v1 := bx_cells (bx_kept HR.out.b1 b2) 1; have v2 := bx_cells (bx_kept HR.out.b1 b2) 2; have hb2 := bx_kept HR.out.b2 b2; have u2 := bx_cells hb2 0; have uf2 := bx_free hb2 0)
            rw [HREP.out]
            have hkD := (b2.block D (bx_lt hKd)).trans hKd
            have hd2 := hdk.kept b2
            have hk2 := HR.out.keep.trans (DKeep.of_below (d := d) b2 (by omega))
            exact rep_end (p := w.heap.size + 1 + 1) rfl ((heap_setCell_other w2 ⟨w.heap.size + 1 + 1, 0, none⟩ D _ (by show D ≠ w.heap.size + 1 + 1; omega)).trans hkD) (bx_set hb2 0 _) ⟨A3, c3, hd2.set_other (by omega) (dk_not hd2 hb2 (by decide)) 0 _⟩ (hk2.set_new (by omega) (by omega) 0 _) hdl (by omega)
          · have g1 : (keep == (s.size : Int)) = false := by simpa using hks
            have HREP := Lib.hid (show repairD S file keep xs = cutD (remAll S xs.reverse).1 file keep by rw [hrep0, if_neg hk0, if_neg hks])
            clear hk0 hrep0 hks
            gi_wp2_with (first
              | (refine ⟨trivial, ?_⟩; gi_at_call 14; refine (callsIn_wide.2 (CRd.out)).mono ?_; rintro e w2 ⟨rfl, b2⟩; have v0 := bx_cells (bx_kept HR.out.b0 b2) 0; have v1 := bx_cells (bx_kept HR.out.b1 b2) 1; have v2 := bx_cells (bx_kept HR.out.b1 b2) 2)
              | (refine ⟨trivial, ?_⟩; gi_at_call 52; refine (callsIn_wide.2 (CCt.out _ b2)).mono ?_; rintro e w3 ⟨rfl, A4, c4, hd4, hk4⟩; have hb2 := dkeep_box hk4 (bx_kept HR.out.b2 b2) (by omega) (by decide); have u2 := bx_cells hb2 0; have uf2 := bx_free hb2 0))
            rw [HREP.out]
            have hk2 := (HR.out.keep.trans (DKeep.of_below (d := d) b2 (by omega))).trans hk4
            have hkD := (hk4.others D (by omega) (Nat.lt_of_lt_of_le (bx_lt hKd) b2.size) (fun cs z e => by rw [(b2.block D (bx_lt hKd)).trans hKd] at e; cases e)).trans ((b2.block D (bx_lt hKd)).trans hKd)
            exact rep_end (p := w.heap.size + 1 + 1) rfl ((heap_setCell_other w3 ⟨w.heap.size + 1 + 1, 0, none⟩ D _ (by show D ≠ w.heap.size + 1 + 1; omega)).trans hkD) (bx_set hb2 0 _) ⟨A4, c4, hd4.set_other (by omega) (dk_not hd4 hb2 (by decide)) 0 _⟩ (hk2.set_new (by omega) (by omega) 0 _) hdl (by omega)
      · have hne : (er != 0) = true := by rw [bne_iff_ne]; exact her
        have hrep : repairD S file keep xs = ((remAll S xs.reverse).1, er) := by unfold repairD; rw [if_neg (by rw [HOK.out]; decide), if_neg HF.out, HRD.out, if_pos her]
        have HREP := Lib.hid hrep
        clear her hrep
        gi_wp2_with (refine ⟨trivial, ?_⟩; gi_at_call 14; refine (callsIn_wide.2 (CRd.out)).mono ?_; rintro e w2 ⟨rfl, b2⟩; have hb2 := bx_kept HR.out.b2 b2; have u2 := bx_cells hb2 0; have uf2 := bx_free hb2 0)
        rw [HREP.out]
        have hkD := (b2.block D (bx_lt hKd)).trans hKd
        have hd2 := hdk.kept b2
        have hk2 := HR.out.keep.trans (DKeep.of_below (d := d) b2 (by omega))
        exact rep_end (p := w.heap.size + 1 + 1) rfl ((heap_setCell_other w2 ⟨w.heap.size + 1 + 1, 0, none⟩ D _ (by show D ≠ w.heap.size + 1 + 1; omega)).trans hkD) (bx_set hb2 0 _) ⟨A3, c3, hd2.set_other (by omega) (dk_not hd2 hb2 (by decide)) 0 _⟩ (hk2.set_new (by omega) (by omega) 0 _) hdl (by omega)
  case stop =>
    rintro D cd pre W hD hpre ⟨rfl, hX⟩ hKd
    have hrev : remAll S xs.reverse = remAll S (pre.map (bkS xs)) := by
      obtain ⟨r, hr⟩ := hpre
      rw [← bk_names, ← hr, List.map_append]
      exact remAll_bad _ _ S hX.bad
    have hrep : repairD S file keep xs = remAll S (pre.map (bkS xs)) := by unfold repairD; rw [hrev, if_pos hX.bad]
    gi_wp2
    rw [hrep]
    exact rep_end (p := w.heap.size + 1 + 1) rfl hKd hX.b2 hX.dk hX.keep hdl (by omega)
end Go.Proofs.YtcpmicinibfepaaGreatDoor
