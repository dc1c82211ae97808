/- Layer 11 (lot): Chunk as an iterator; Cut. -/
import Derived.Test.YtkhnmdmpkedifaaLotG
import Derived.RangeFuncNested
import Derived.RangeFuncBound
import Derived.RangeFuncCalls
import Derived.RangeFuncLeaves
import Derived.Shelf.Abstract
import Derived.Shelf.RegionOpen
import Derived.WalkKit
import Derived.OwnWalkIn
import Derived.TacticsInMore
import Derived.LoopNIn
import Derived.LoopIn
import Derived.BigRegionIn
namespace Go.Proofs.Ytkhnmdmpkedifaa
open Go.ChangeShapes Go.WideShapes Go.ChangeAt Go.RowKit Go.Deep Go.Shelf

/-- the slice that Chunk hands out at its round k -/
def chunkC (ad : Addr) (m n k : Nat) : Value := .slice (some (ad.add (k * m * 9))) (min m (n - k * m)) (min m (n - k * m))
theorem range_pre {a b : Nat} (h : a ≤ b) : List.range a <+: List.range b := by
  obtain ⟨c, rfl⟩ := Nat.le.dest h
  rw [List.range_add]
  exact List.prefix_append _ _
set_option maxRecDepth 100000 in
set_option maxHeartbeats 2000000 in
theorem chunk1_in (n : Nat) (hn : 1 ≤ n) (l B1 B2 : Nat) (A : Option Addr) (ad : Addr) (c N m K : Nat) (hA : 0 < N → A = some ad) (hNc : N ≤ c) (hc : c ≤ maxLen) (hN : N ≤ 1000) (hm : 1 ≤ m) (hm2 : (m : Int) ≤ 9223372036854775807) (hK : K * m < N + m ∧ N ≤ K * m) (J Jx : List Nat → World → Prop) (B : Nat) (hJ : AbidesFrom B J)
    (hJc : ∀ pre W, J pre W → W.cell? ⟨B1, 0, none⟩ = some (.slice A N c) ∧ W.cell? ⟨B2, 0, none⟩ = some (.int .i64 (m : Int)) ∧ B1 < W.heap.size ∧ B2 < W.heap.size)
    (hY : ∀ pre x W, J pre W → pre.length < K → x = pre.length → YieldAt Fence.wide (n - 1) Try.prog l #[chunkC ad m N x] W fun e W' =>
      (e = .returned (.bool true) ∧ J (pre ++ [x]) W' ∧ True) ∨ (e = .returned (.bool false) ∧ Jx (pre ++ [x]) W'))
    (W : World) (h0 : J [] W) :
    CallsIn Fence.wide n Try.prog 107 #[.func (.yield l) #[] #[], .pointer (some ⟨B1, 0, none⟩), .pointer (some ⟨B2, 0, none⟩)] W fun e W' => (∃ v, e = .returned v) ∧
      ((∃ ys, ys = List.range K ∧ J ys W') ∨ (∃ pre, pre <+: List.range K ∧ Jx pre W')) := by
  have HA := Lib.hid hA
  clear hA
  have HY := Lib.hid hY
  have HJ := Lib.hid hJ
  have HJC := Lib.hid hJc
  clear hY hJ hJc
  unfold maxLen at hc
  refine callsIn_of_wp Try.func107 rfl trivial ?_ rfl
  simp only [Try.ntmps107, List.size_toArray, List.length_cons, List.length_nil, Nat.reduceAdd, Nat.reduceSub, Array.replicate_succ, Array.replicate_zero, List.push_toArray, List.append_toArray, List.nil_append, List.cons_append]
  gi_wp2
  gi_loopw [4] (fun i wr => ∃ k : Nat, k ≤ K ∧ (k < K → k * m < N) ∧ i = .int .i64 (k * m : Nat) ∧ J (List.range k) wr) (fun i _ => N + m - (intOf i).toNat)
  case atStart => exact ⟨0, by omega, fun h => by have : N ≠ 0 := (by intro h0; subst h0; have := hK.1; have : m ≤ K * m := Nat.le_mul_of_pos_left m (by omega); omega); omega, by simp, h0⟩
  case round =>
    obtain ⟨k, hk, hkl, rfl, hJs⟩ := hrel
    obtain ⟨x1, x2, z1, z2⟩ := HJC.out _ _ hJs
    obtain ⟨p, hp⟩ : ∃ p, k * m = p := ⟨_, rfl⟩
    rw [hp] at hkl ⊢
    have HP := Lib.hid hp
    by_cases hlt : p < N
    · obtain rfl := HA.out (by omega)
      have hkK : k < K := by
        rcases Nat.lt_or_ge k K with h | h
        · exact h
        · have := Nat.mul_le_mul_right m h
          have := hK.2
          omega
      have hw : p + m ≤ 9223372036854775807 := by
        rcases Nat.eq_zero_or_pos k with h | h
        · subst h; simp at hp; omega
        · have := Nat.le_mul_of_pos_left m h
          omega
      have HW := Lib.hid hw
      obtain ⟨q, hq⟩ : ∃ q, min m (N - p) = q := ⟨_, rfl⟩
      have hmin : min (m : Int) ((N : Int) - (p : Int)) = (q : Int) := by omega
      have hmin2 : min (m : Int) ((N - p : Nat) : Int) = (q : Int) := by omega
      have hi1 : (p : Int) < (N : Int) := by omega
      have hi2 : (p : Int) + (q : Int) ≤ (c : Int) := by omega
      have hi3 : (p : Int) ≤ (c : Int) := by omega
      have hi4 : (p : Int) ≤ (p : Int) + (q : Int) := by omega
      have HQ := Lib.hid hq
      have L1 := fun u : Later wr.heap.size wr => (u.h.cell (p := ⟨B1, 0, none⟩) z1).trans x1
      have L2 := fun u : Later wr.heap.size wr => (u.h.cell (p := ⟨B2, 0, none⟩) z2).trans x2
      clear hp hq hw
      gi_wp2
      refine wpIn_wide.2 ?_
      refine wp_region_later wr.heap.size (by kernel_rfl) (by kernel_rfl) ?_
      repeat (go_big_quiet_step (fail))
      refine wpQuiet_nil ?_; intro _ hw'; obtain ⟨u, hw''⟩ := hw'; subst hw''
      have hJ2 := HJ.out _ wr u.w none hJs ⟨u.h.os, u.h.tape, u.h.output, u.h.size, fun k hk _ => u.h.block k hk⟩ (by simp)
      obtain ⟨y1, y2, _, _⟩ := HJC.out _ _ hJ2
      obtain ⟨fn, tmps, assign, body, hy, hR⟩ := HY.out (List.range k) k u.w hJ2 (by simpa using hkK) (by simp)
      have hcv : chunkC ad m N k = .slice (some (ad.add (p * 9))) q q := by unfold chunkC; rw [HP.out, HQ.out]
      rw [hcv] at hy
      gi_wp2
      refine hR.mono ?_
      rintro e W3 (⟨rfl, hJ3, _⟩ | ⟨rfl, hJx3⟩)
      · obtain ⟨v1, v2, _, _⟩ := HJC.out _ _ hJ3
        have hw1 : (p : Int) + (m : Int) ≤ 9223372036854775807 := by have := HW.out; omega
        have hsm : (k + 1) * m = p + m := by rw [Nat.succ_mul, HP.out]
        have HSM := Lib.hid hsm
        have hnx : k + 1 < K → p + m < N := fun h => by
          have := Nat.mul_le_mul_right m (show k + 2 ≤ K by omega)
          have h2 : (k + 2) * m = p + m + m := by rw [Nat.succ_mul, hsm]
          have := hK.1
          omega
        have HNX := Lib.hid hnx
        clear hsm hnx
        gi_wp2
        refine ⟨⟨k + 1, by omega, by rw [HSM.out]; exact HNX.out, by rw [HSM.out]; exact congrArg (Value.int .i64) (by omega), by rw [List.range_succ]; exact hJ3⟩, ?_⟩
        simp [intOf]
        omega
      · gi_wp2
        refine bodyPost_ret (results_none rfl _ _ _) rfl ?_
        exact ⟨⟨_, rfl⟩, .inr ⟨List.range k ++ [k], by rw [← List.range_succ]; exact range_pre (by omega), hJx3⟩⟩
    · have hkK : k = K := by
        rcases Nat.lt_or_ge k K with h | h
        · exact absurd (hkl h) hlt
        · omega
      subst hkK
      gi_wp2
      go_end0
      exact ⟨⟨_, rfl⟩, .inl ⟨_, rfl, hJs⟩⟩
end Go.Proofs.Ytkhnmdmpkedifaa
namespace Go.Proofs.Ytkhnmdmpkedifaa
open Go.ChangeShapes Go.WideShapes Go.ChangeAt Go.RowKit Go.Deep Go.Shelf

def ChB (B1 B2 : Nat) (v1 v2 : Value) (W : World) : Prop := W.heap[B1]? = some (.cells #[v1] 24 (0, 0)) ∧ W.heap[B2]? = some (.cells #[v2] 3 (0, 0))
theorem box_walk {X Y : World} {B b : Nat} {v : Value} {t : TypeId} {row : Option Nat} (h : X.heap[b]? = some (.cells #[v] t (0, 0))) (hg : X.grownBy Y row) (hr : ∀ r, row = some r → B ≤ r ∧ ∃ o : Obj, X.heap[r]? = some o ∧ o.isWalk = true) : Y.heap[b]? = some (.cells #[v] t (0, 0)) := by
  rw [hg.block b (Array.getElem?_eq_some_iff.1 h).1 (fun e' => by obtain ⟨_, o, ho, hc⟩ := hr b e'.symm; rw [h] at ho; cases ho; cases hc)]
  exact h
theorem chunk_stops (n : Nat) (hn : 1 ≤ n) (B1 B2 : Nat) (A : Option Addr) (ad : Addr) (c N m K : Nat) (hA : 0 < N → A = some ad) (hNc : N ≤ c) (hc : c ≤ maxLen) (hN : N ≤ 1000) (hm : 1 ≤ m) (hm2 : (m : Int) ≤ 9223372036854775807) (hK : K * m < N + m ∧ N ≤ K * m) (w : World) (h : ChB B1 B2 (.slice A N c) (.int .i64 (m : Int)) w) :
    SeqStopsK Fence.wide n Try.prog 107 #[.pointer (some ⟨B1, 0, none⟩), .pointer (some ⟨B2, 0, none⟩)] (fun x : Nat => #[chunkC ad m N (min x (K - 1))])
      (fun W1 W' => W'.heap[B1]? = W1.heap[B1]? ∧ W'.heap[B2]? = W1.heap[B2]?) (fun ys => ys = List.range K) (fun pre => pre <+: List.range K) K w := fun l J Jx W hW hJ _ hY h0 => by
  have hc0 : ChB B1 B2 (.slice A N c) (.int .i64 (m : Int)) W := ⟨(hW.block B1 (box_lt h.1)).trans h.1, (hW.block B2 (box_lt h.2)).trans h.2⟩
  refine (chunk1_in n hn l B1 B2 A ad c N m K hA hNc hc hN hm hm2 hK (fun pre W => J pre W ∧ ChB B1 B2 (.slice A N c) (.int .i64 (m : Int)) W) Jx W.heap.size
    (fun s X Y row hs hg hr => ⟨hJ s X Y row hs.1 hg hr, box_walk hs.2.1 hg hr, box_walk hs.2.2 hg hr⟩)
    (fun pre X hX => ⟨box_cells hX.2.1 0, box_cells hX.2.2 0, box_lt hX.2.1, box_lt hX.2.2⟩)
    (fun pre x X hX hl hx => ?_) W ⟨h0, hc0⟩).mono ?_
  · obtain ⟨fn, tmps, assign, body, hy, hR⟩ := hY pre x X hX.1 hl
    simp only [show min x (K - 1) = x by omega] at hy
    refine ⟨fn, tmps, assign, body, hy, hR.mono ?_⟩
    rintro e W' (⟨he, hj, k1, k2⟩ | ⟨he, hj⟩)
    · exact .inl ⟨he, ⟨hj, k1.trans hX.2.1, k2.trans hX.2.2⟩, trivial⟩
    · exact .inr ⟨he, hj⟩
  · rintro e W' ⟨he, (⟨ys, hys, hj⟩ | ⟨pre, hp, hj⟩)⟩
    · exact ⟨he, .inl ⟨ys, hys, hj.1⟩⟩
    · exact ⟨he, .inr ⟨pre, hp, hj⟩⟩
end Go.Proofs.Ytkhnmdmpkedifaa
namespace Go.Proofs.Ytkhnmdmpkedifaa
open Go.ChangeShapes Go.WideShapes Go.ChangeAt Go.RowKit Go.Deep Go.Shelf

attribute [local go_sem] Oper.semAt_some
/-- lots, each a slice of records of the call's own -/
def Lots (W : World) (B m K : Nat) (l : List Sp) (xs : List Nat) (vs : List Value) : Prop :=
  ∀ (j : Nat) (v : Value) (k : Nat), vs[j]? = some v → xs[j]? = some k → W.ownsRow B 23 9 v (chunk m l (min k (K - 1))).length ((chunk m l (min k (K - 1))).flatMap spCells)
theorem Lots.kept {W W' : World} {B m K : Nat} {l : List Sp} {xs : List Nat} {vs : List Value} {row : Option Nat} (h : Lots W B m K l xs vs) (hg : W.grownBy W' row) (hne : ∀ g, row = some g → ∀ cs z, W.heap[g]? = some (.cells cs 23 z) → False) : Lots W' B m K l xs vs := fun j v k hj hk => by
  have h1 := h j v k hj hk
  refine h1.kept hg ?_
  rcases h1.2 with ⟨e, _⟩ | ⟨g, cap, cur, e, _, hgb, _⟩
  · exact .inl (by rw [e]; rfl)
  · refine .inr fun e' => ?_
    rw [e] at e'
    exact hne g e'.symm _ _ hgb
theorem Lots.snoc {W : World} {B m K : Nat} {l : List Sp} {xs : List Nat} {vs : List Value} (h : Lots W B m K l xs vs) (hl : vs.length = xs.length) {k : Nat} {v : Value} (hv : W.ownsRow B 23 9 v (chunk m l (min k (K - 1))).length ((chunk m l (min k (K - 1))).flatMap spCells)) : Lots W B m K l (xs ++ [k]) (vs ++ [v]) := fun j u q hj hk => by
  rcases Nat.lt_or_ge j vs.length with hlt | hge
  · rw [List.getElem?_append_left hlt] at hj
    rw [List.getElem?_append_left (by omega)] at hk
    exact h j u q hj hk
  · rw [List.getElem?_append_right hge] at hj
    rw [List.getElem?_append_right (by omega)] at hk
    obtain rfl : j = vs.length := by
      have := (List.getElem?_eq_some_iff.1 hj).1
      simp at this
      omega
    rw [show vs.length - xs.length = 0 by omega] at hk
    simp at hj hk
    subst hj hk
    exact hv
theorem ownsRow_mono {W : World} {B B' : Nat} {e : TypeId} {sz n : Nat} {v : Value} {xs : List Value} (h : W.ownsRow B e sz v n xs) (hB : B' ≤ B) : W.ownsRow B' e sz v n xs := by
  obtain ⟨h0, h1 | ⟨g, cap, cur, e1, e2, h2⟩⟩ := h
  · exact ⟨h0, .inl h1⟩
  · exact ⟨h0, .inr ⟨g, cap, cur, e1, Nat.le_trans hB e2, h2⟩⟩
theorem box_not {W : World} {b : Nat} {t t' : TypeId} {v : Value} (h : Boxed W b t v) (ht : t ≠ t') : ∀ cs z, W.heap[b]? = some (.cells cs t' z) → False := fun cs z hc => by
  have h' : W.heap[b]? = some (.cells #[v] t (0, 0)) := h
  rw [h'] at hc
  simp at hc
  exact ht hc.2.1
theorem row_not {W : World} {B : Nat} {t t' : TypeId} {sz n : Nat} {v : Value} {xs : List Value} (h : W.ownsRow B t sz v n xs) (ht : t ≠ t') : ∀ g, v.ownBlock = some g → ∀ cs z, W.heap[g]? = some (.cells cs t' z) → False := fun g hg cs z hc => by
  rcases h.2 with ⟨rfl, _⟩ | ⟨g', cap, cur, rfl, _, hgb, _⟩
  · simp [Value.ownBlock] at hg
  · obtain rfl : g' = g := by simpa [Value.ownBlock] using hg
    rw [hgb] at hc
    simp at hc
    exact ht hc.2.1
/-- what Cut hands back -/
def CutPost (m K : Nat) (l : List Sp) (w : World) (e : Ending) (w' : World) : Prop :=
  ∃ A cap vs, e = .returned (.slice A K cap) ∧ w'.ownsRow w.heap.size 24 1 (.slice A K cap) K vs ∧ vs.length = K ∧ Lots w' w.heap.size m K l (List.range K) vs ∧ Below w.heap.size w w'
/-- the cells of a slice of records -/
theorem news_all {W : World} {B : Nat} {ad : Addr} {l : List Sp} (h : RdS W B (some ad) l) : ∀ j u, (l.flatMap spCells)[j]? = some u → W.cell? (ad.add j) = some u := by
  intro j u hj
  have hlt : j < l.length * 9 := by
    have := (List.getElem?_eq_some_iff.1 hj).1
    rwa [spCells_len] at this
  have hq : j / 9 < l.length := by omega
  obtain ⟨x, hx⟩ : ∃ x, l[j / 9]? = some x := ⟨_, List.getElem?_eq_getElem hq⟩
  have hc : ∀ (l : List Sp) (q : Nat) (x : Sp), l[q]? = some x → ∀ r, r < 9 → (l.flatMap spCells)[q * 9 + r]? = (spCells x)[r]? := by
    intro l
    induction l with
    | nil => intro q x hq; simp at hq
    | cons y l ih =>
      intro q x hq r hr
      rw [List.flatMap_cons]
      cases q with
      | zero =>
        obtain rfl : y = x := by simpa using hq
        rw [List.getElem?_append_left (by simp [spCells]; omega), Nat.zero_mul, Nat.zero_add]
      | succ q =>
        rw [List.getElem?_append_right (by simp [spCells]; omega)]
        rw [← ih q x (by simpa using hq) r hr]
        congr 1
        simp [spCells]; omega
  have hr : j % 9 < 9 := Nat.mod_lt _ (by omega)
  have e1 := hc _ _ _ hx (j % 9) hr
  rw [show j / 9 * 9 + j % 9 = j by omega] at e1
  rw [e1] at hj
  have hat := h.at (Below.refl _ _) (k := j / 9) (x := x) hx
  obtain ⟨h0, h1, h2, h3, h4, h5, h6, h7, h8⟩ := hat
  have ea : ∀ r, 0 < r → j / 9 * 9 + r = j → (⟨(ad.add (j / 9 * 9)).block, (ad.add (j / 9 * 9)).off + r, none⟩ : Addr) = ad.add j := fun r hr0 hrj => by
    have e2 : ad.add j = (ad.add (j / 9 * 9)).add r := by rw [Deep.add_add, hrj]
    rw [e2]
    generalize ad.add (j / 9 * 9) = b
    unfold Addr.add
    rw [if_neg (by omega)]
  have hrr : j % 9 = 0 ∨ j % 9 = 1 ∨ j % 9 = 2 ∨ j % 9 = 3 ∨ j % 9 = 4 ∨ j % 9 = 5 ∨ j % 9 = 6 ∨ j % 9 = 7 ∨ j % 9 = 8 := by omega
  rcases hrr with e | e | e | e | e | e | e | e | e <;> rw [e] at hj <;> simp only [spCells, List.getElem?_cons_zero, List.getElem?_cons_succ, Option.some.injEq] at hj <;> subst hj
  · rw [show j = j / 9 * 9 by omega]; exact h0
  · rw [← ea 1 (by omega) (by omega)]; exact h1
  · rw [← ea 2 (by omega) (by omega)]; exact h2
  · rw [← ea 3 (by omega) (by omega)]; exact h3
  · rw [← ea 4 (by omega) (by omega)]; exact h4
  · rw [← ea 5 (by omega) (by omega)]; exact h5
  · rw [← ea 6 (by omega) (by omega)]; exact h6
  · rw [← ea 7 (by omega) (by omega)]; exact h7
  · rw [← ea 8 (by omega) (by omega)]; exact h8
theorem RdS_chunk {W : World} {B : Nat} {ad : Addr} {l : List Sp} (h : RdS W B (some ad) l) (p q : Nat) : RdS W B (some (ad.add (p * 9))) ((l.drop p).take q) := fun k x hk => by
  rw [List.getElem?_take] at hk
  split at hk
  · rw [List.getElem?_drop] at hk
    obtain ⟨a, e, hlt, h0⟩ := h (p + k) x hk
    obtain rfl := Option.some.inj e
    refine ⟨_, rfl, by rw [addr_add_block]; exact hlt, ?_⟩
    rw [Deep.add_add, show p * 9 + k * 9 = (p + k) * 9 by omega]
    exact h0
  · cases hk
theorem clone_chunk (ad : Addr) (m k K : Nat) (l : List Sp) (hl : l.length ≤ 1000) (_hm : 1 ≤ m) (hk : k < K) (hK : K * m < l.length + m) (W : World) (hr : RdS W W.heap.size (some ad) l) :
    Calls Try.prog 88 #[chunkC ad m l.length k] W fun e w' => ∃ g cap, e = .returned (.slice (some ⟨g, 0, none⟩) (chunk m l k).length cap) ∧ w'.ownsRow W.heap.size 23 9 (.slice (some ⟨g, 0, none⟩) (chunk m l k).length cap) (chunk m l k).length ((chunk m l k).flatMap spCells) ∧ Below W.heap.size W w' := by
  have h1 : k * m < l.length := by
    have := Nat.mul_le_mul_right m (show k + 1 ≤ K by omega)
    rw [Nat.succ_mul] at this
    omega
  have hlen := chunk_length m l k
  have h2 : 1 ≤ (chunk m l k).length := by omega
  have hcl := clone_some (ad.add (k * m * 9)) (chunk m l k).length (chunk m l k) h2 (by omega) W (news_all (RdS_chunk hr (k * m) m))
  have he : chunkC ad m l.length k = .slice (some (ad.add (k * m * 9))) (chunk m l k).length (chunk m l k).length := by unfold chunkC; rw [hlen]
  rw [he]
  refine hcl.mono ?_
  rintro e w' ⟨v, rfl, ho, hb⟩
  rcases id ho.2 with ⟨_, h0⟩ | ⟨g, cap, cur, rfl, _⟩
  · omega
  · exact ⟨g, cap, rfl, ho, hb⟩
theorem any_one {F : Fence} {n : Nat} {P : Program} {md : Region.Mode} {ops : Array Oper} {Q : Exit → Act → World → Prop} {fuel : Nat} {listed : Array Bool} {a : Act} {w : World} {i : Nat} {o : Oper} (hr : Region.ready md ops listed = [i]) (ho : ops[i]? = some o)
    (h : ∀ K' : Act → World → Prop, (∀ a w, wpAnyIn F n P md ops Q fuel (listed.setIfInBounds i true) a w → K' a w) → if Region.wanted o (yielded ops a.tmps) = true then Oper.wpIn F n P o a w K' Q else (∀ f, o.about P w a.eval = some f → F.fn f) ∧ K' (a.put o.dst undef) w) : wpAnyIn F n P md ops Q (fuel + 1) listed a w :=
  wpAnyIn_ready hr (by simp) (AllReadyIn.cons ho h AllReadyIn.nil)
theorem step_append_in {F : Fence} {n : Nat} {P : Program} {w : World} {ops : Array Oper} {o : Oper} {a : Act} {K : Act → World → Prop} {Q : Exit → Act → World → Prop} {E : Prop} (hg : o.guard = none) (s x : Operand) (t : TypeId)
    (hop : o.op = .call { callee := .builtin .append, args := #[s, x], argTypes := #[t, t] })
    (base : Nat) (e : TypeId) (i : TypeInfo) (z : Value) (size bytes : Nat) (h1 : P.underlying t = some (.slice e)) (h2 : P.info? e = some i) (h3 : i.zero = some z) (h4 : i.size = size) (h5 : i.bytes = bytes) (h6 : z.cells.size = size) (h7 : 0 < size)
    (v : Value) (k : Nat) (xs : List Value) (hs : a.eval s = v) (hown : w.ownsRow base e size v k xs) (ad : Addr) (m c : Nat) (news : List Value) (hx : a.eval x = .slice (some ad) m c) (hn : news.length = m * size)
    (hc : ∀ j u, news[j]? = some u → w.cell? (ad.add j) = some u) (h1c : ∀ u ∈ news, u.oneCell' = true) (b1 : k + m ≤ maxLen) (b2 : (k + m) * bytes ≤ 140737488355328) (b3 : base ≤ w.heap.size)
    (hK : ∀ v' w', w'.ownsRow base e size v' (k + m) (xs ++ news) → w.grownBy w' v.ownBlock → K (a.put o.dst v') w') :
    if Region.wanted o (yielded ops a.tmps) = true then Oper.wpIn F n P o a w K Q else E := by
  have hw : Region.wanted o (yielded ops a.tmps) = true := by simp [Region.wanted, hg]
  rw [if_pos hw]
  obtain ⟨v', w', hrun, r1, r2, r3⟩ := run_append_own (P := P) w base t o.type e i z size bytes h1 h2 h3 h4 h5 h6 h7 v k xs hown ad m c news hn hc h1c b1 b2 b3
  unfold Oper.wpIn
  refine ⟨?_, ?_⟩
  · simp [Oper.about, hop, resolve, Target.leads, Sem.run_pure]
  · rw [Oper.semAt_plain F _ _ (by rw [hop]; intro c hc'; cases hc')]
    simp [execOp, hop, resolve, invoke, builtin, hs, hx, hrun, Result.andThen]
    exact hK v' w' r1 r2
/-- what holds between the rounds of Cut -/
def CutI (w : World) (m K : Nat) (l : List Sp) (pre : List Nat) (W : World) : Prop :=
  (∃ v vs, Boxed W w.heap.size 82 v ∧ W.ownsRow (w.heap.size + 3) 24 1 v pre.length vs ∧ vs.length = pre.length ∧ Lots W w.heap.size m K l pre vs) ∧ w.heap.size + 3 ≤ W.heap.size ∧ Below w.heap.size w W
theorem cutI_own (w : World) (m K : Nat) (l : List Sp) (B : Nat) (hB : w.heap.size ≤ B) : OwnFrom B (CutI w m K l) := by
  rintro pre X Y row ⟨⟨v, vs, hv, hrow, hvl, hL⟩, hsz, hb⟩ hg hr
  refine ⟨⟨v, vs, boxed_own w.heap.size 82 (fun (_ : Unit) => v) () X Y row hv hg (fun r e => (hr r e).2), ?_, hvl, ?_⟩, Nat.le_trans hsz hg.size, ownFrom_below (Nat.le_refl _) hB () X Y row hb hg hr⟩
  · refine hrow.kept hg ?_
    rcases hrow.2 with ⟨rfl, _⟩ | ⟨g, cap, cur, rfl, _, hgb, _⟩
    · exact .inl rfl
    · refine .inr fun e' => ?_
      obtain ⟨_, o, ho, hc⟩ := hr g (by simpa [Value.ownBlock] using e'.symm)
      rw [hgb] at ho; cases ho; cases hc
  · refine hL.kept hg fun g e cs z h => ?_
    obtain ⟨_, o, ho, hc⟩ := hr g e
    rw [h] at ho; cases ho; cases hc
theorem cut_K {m K n : Nat} (hm : 1 ≤ m) (hK : K * m < n + m) : K ≤ n := by
  rcases Nat.lt_or_ge n K with h | h
  · have h1 := Nat.mul_le_mul_right m (show n + 1 ≤ K from h)
    rw [Nat.succ_mul] at h1
    have h2 : n ≤ n * m := Nat.le_mul_of_pos_right n hm
    omega
  · exact h
theorem grown_le {w w' : World} {B : Nat} (hb : Below B w w') (hB : w.heap.size ≤ B) : w.grownBy w' none := ⟨hb.os, hb.tape, hb.output, hb.size, fun k hk _ => hb.block k (Nat.lt_of_lt_of_le hk hB)⟩
theorem own_later {W W2 : World} {B : Nat} {e : TypeId} {sz n : Nat} {v : Value} {xs : List Value} (h : W.ownsRow B e sz v n xs) (hb : Below W.drew.heap.size W.drew W2) : W2.ownsRow B e sz v n xs := h.drew.kept (grown_le hb (Nat.le_refl _)) (Classical.em (v.ownBlock = none))
theorem cut_fin {w W W2 W3 : World} {m K : Nat} {l : List Sp} {v nv v' : Value} {vs : List Value} {pre : List Nat} {x : Nat} {tmp : Obj} {q : Nat} (hv : Boxed W w.heap.size 82 v) (hrow : W.ownsRow (w.heap.size + 3) 24 1 v pre.length vs) (hvl : vs.length = pre.length) (hL : Lots W w.heap.size m K l pre vs)
    (hsz : w.heap.size + 3 ≤ W.heap.size) (hB : Below w.heap.size w W) (hb2 : Below W.drew.heap.size W.drew W2) (ho2 : W2.ownsRow W.drew.heap.size 23 9 nv (chunk m l (min x (K - 1))).length ((chunk m l (min x (K - 1))).flatMap spCells))
    (hown : W3.ownsRow (w.heap.size + 3) 24 1 v' q (vs ++ [nv])) (hgrow : (W2.alloc tmp).grownBy W3 v.ownBlock) (hq : q = pre.length + 1) :
    Boxed W3 w.heap.size 82 v ∧ (KeepsFrom (w.heap.size + 3) W (W3.setCell ⟨w.heap.size, 0, none⟩ v')
      ∧ ((W3.setCell ⟨w.heap.size, 0, none⟩ v').heap[w.heap.size + 1]? = W.heap[w.heap.size + 1]? ∧ (W3.setCell ⟨w.heap.size, 0, none⟩ v').heap[w.heap.size + 1 + 1]? = W.heap[w.heap.size + 1 + 1]?)
      ∧ CutI w m K l (pre ++ [x]) (W3.setCell ⟨w.heap.size, 0, none⟩ v')) := by
  subst hq
  have s2 : W.heap.size ≤ W2.heap.size := hb2.size
  have g1 : W.grownBy W2 none := grown_le (B := W.heap.size) ((Below.refl W.heap.size W).drew.trans hb2) (Nat.le_refl _)
  have hne : ∀ b, b < w.heap.size + 3 → some b ≠ v.ownBlock := fun b hb e => by have := (hrow.lt b e.symm).1; omega
  have hrow2 : (W2.alloc tmp).ownsRow (w.heap.size + 3) 24 1 v pre.length vs := (own_later hrow hb2).alloc _
  have hv3 : Boxed W3 w.heap.size 82 v := ((hv.kept g1 (by simp)).alloc tmp).kept hgrow (hne _ (by omega))
  have hs3 : W2.heap.size + 1 ≤ W3.heap.size := by have := hgrow.size; simpa using this
  have gs := grownBy_setCell' W3 w.heap.size v'
  have hs4 : W3.heap.size ≤ (W3.setCell ⟨w.heap.size, 0, none⟩ v').heap.size := gs.size
  have keep : ∀ b, b < w.heap.size + 3 → b ≠ w.heap.size → (W3.setCell ⟨w.heap.size, 0, none⟩ v').heap[b]? = W.heap[b]? := fun b hb hn => by
    rw [gs.block b (by omega) (by simpa using hn), hgrow.block b (by rw [World.size_alloc]; omega) (hne b hb), Below.heap_alloc W2 tmp b (by omega)]
    exact g1.block b (by omega) (by simp)
  have hbox : ∀ cs z, (W3.heap[w.heap.size]? = some (.cells cs 23 z)) → False := box_not hv3 (by decide)
  have hrn : ∀ g, v.ownBlock = some g → ∀ cs z, (W2.alloc tmp).heap[g]? = some (.cells cs 23 z) → False := row_not hrow2 (by decide)
  have hL3 : Lots (W3.setCell ⟨w.heap.size, 0, none⟩ v') w.heap.size m K l pre vs :=
    (((hL.kept g1 (fun g e => by cases e)).kept (World.grownBy_alloc W2 tmp none) (fun g e => by cases e)).kept hgrow (fun g e => hrn g e)).kept gs (fun g e => by cases e; exact hbox)
  have hnv : (W3.setCell ⟨w.heap.size, 0, none⟩ v').ownsRow w.heap.size 23 9 nv (chunk m l (min x (K - 1))).length ((chunk m l (min x (K - 1))).flatMap spCells) := by
    have h0 : Lots W2 w.heap.size m K l [x] [nv] := fun j u k hj hk => by
      cases j with
      | zero =>
        obtain rfl : nv = u := by simpa using hj
        obtain rfl : x = k := by simpa using hk
        exact ownsRow_mono ho2 (by rw [show W.drew.heap.size = W.heap.size from rfl]; omega)
      | succ j => simp at hj
    exact (((h0.kept (World.grownBy_alloc W2 tmp none) (fun g e => by cases e)).kept hgrow (fun g e => hrn g e)).kept gs (fun g e => by cases e; exact hbox)) 0 nv x rfl rfl
  refine ⟨hv3, ?_, ⟨keep _ (by omega) (by omega), keep _ (by omega) (by omega)⟩, ⟨v', vs ++ [nv], hv3.set v', ?_, ?_, hL3.snoc hvl hnv⟩, ?_, ?_⟩
  · refine KeepsOthers.from ?_ _
    refine (((KeepsOthers.of_grownBy g1 (fun j o e => by cases e)).trans (KeepsOthers.alloc W2 tmp)).trans (KeepsOthers.of_grownBy hgrow fun j o ej hj => ?_)).trans (KeepsOthers.setCell _ _ _)
    rcases hrow2.2 with ⟨rfl, _⟩ | ⟨g, cap, cur, rfl, _, hgb, _⟩
    · simp [Value.ownBlock] at ej
    · obtain rfl : g = j := by simpa [Value.ownBlock] using ej
      rw [hgb] at hj; cases hj; rfl
  · rw [List.length_append]
    refine hown.kept gs (.inr fun e => ?_)
    have := (hown.lt _ e).1
    omega
  · rw [List.length_append, List.length_append, hvl]; rfl
  · omega
  · refine hB.trans ((((Below.refl w.heap.size W).grown g1 (by omega) (fun k e => by cases e)).alloc (by omega) tmp).grown hgrow (by rw [World.size_alloc]; omega) (fun j ej => ?_) |>.setCell (p := ⟨w.heap.size, 0, none⟩) (Nat.le_refl _) v')
    have := (hrow.lt j ej).1
    omega
/-- where the loop's variable is set -/
def CutA (w : World) (A : Option Addr) (c : Nat) (l : List Sp) (ad : Addr) (m K x : Nat) (a' : Act) : Prop :=
  ∃ x1 x7 x8 x9 x10 x11 x13, a' = { tmps := #[.slice A l.length c, x1, undef, undef, .slice none 0 0, .pointer (some ⟨w.heap.size, 0, none⟩), chunkC ad m l.length (min x (K - 1)), x7, x8, x9, x10, x11, .slice A l.length c, x13, .func (.func 107) #[] #[.pointer (some ⟨w.heap.size + 1, 0, none⟩), .pointer (some ⟨w.heap.size + 1 + 1, 0, none⟩)], chunkC ad m l.length (min x (K - 1)), undef, undef, undef, undef, undef, undef], defers := [] }

set_option maxRecDepth 100000 in
set_option maxHeartbeats 4000000 in
theorem lot_Cut (A : Option Addr) (c : Nat) (l : List Sp) (hlc : l.length ≤ c) (hc : c ≤ maxLen) (hl : l.length ≤ 1000) (sz : Int) (hsz : sz ≤ 9223372036854775807) (m K : Nat) (hm : (sz < 1 ∧ m = max 1 l.length) ∨ (1 ≤ sz ∧ (m : Int) = sz)) (hK : K * m < l.length + m ∧ l.length ≤ K * m) (w : World) (hr : RdS w w.heap.size A l) :
    Calls Try.prog 54 #[.slice A l.length c, .int .i64 sz] w (CutPost m K l w) := by
  obtain ⟨ad, hA⟩ : ∃ ad : Addr, 0 < l.length → A = some ad := by
    cases A with
    | none => exact ⟨default, fun h => by
        obtain ⟨f, hf⟩ : ∃ f, l[0]? = some f := ⟨l[0], List.getElem?_eq_getElem h⟩
        obtain ⟨ad, e, _⟩ := hr 0 f hf
        cases e⟩
    | some ad => exact ⟨ad, fun _ => rfl⟩
  obtain ⟨i0, hi, hz0, hz1, hz2⟩ := info_parts' info_spans
  have HI := Lib.hid (And.intro hi (And.intro hz0 (And.intro hz1 hz2)))
  have HK := Lib.hid hK
  have HA := Lib.hid hA
  have HR := Lib.hid hr
  have hm1 : 1 ≤ m ∧ (m : Int) ≤ 9223372036854775807 := by unfold maxLen at hc; omega
  have HM := Lib.hid hm1
  clear hi hz0 hz1 hz2 hK hA hr hm1
  refine (callsIn_wide (n := 3)).1 ?_
  refine callsIn_of_wp_marks Try.func54 rfl trivial ?_ rfl
  simp only [Try.ntmps54, List.size_toArray, List.length_cons, List.length_nil, Nat.reduceAdd, Nat.reduceSub, Array.replicate_succ, Array.replicate_zero, List.push_toArray, List.append_toArray, List.nil_append, List.cons_append]
  rcases hm with ⟨hm1, hm2⟩ | ⟨hm1, hm2⟩
  case' inl => (have hmm : max (1 : Int) (l.length : Int) = (m : Int) := (by omega); clear hm2; have HC := Lib.hid (slices_Chunk A l.length c (m : Int) (by omega)); gi_wp2_with (refine ⟨trivial, ?_⟩; gi_at_call 87; refine (callsIn_wide.2 (HC.out _)).mono ?_; rintro e w1 ⟨rfl, rfl⟩); clear hmm)
  case' inr => (subst hm2; have HC := Lib.hid (slices_Chunk A l.length c (m : Int) (by omega)); gi_wp2_with (refine ⟨trivial, ?_⟩; gi_at_call 87; refine (callsIn_wide.2 (HC.out _)).mono ?_; rintro e w1 ⟨rfl, rfl⟩))
  all_goals
    have bO := ((Boxed.new w 82 (.slice none 0 0)).alloc (.cells #[.slice A l.length c] 24)).alloc (.cells #[.int .i64 (m : Int)] 3)
    have bC : ChB (w.heap.size + 1) (w.heap.size + 1 + 1) (.slice A l.length c) (.int .i64 (m : Int)) (((w.alloc (.cells #[.slice none 0 0] 82)).alloc (.cells #[.slice A l.length c] 24)).alloc (.cells #[.int .i64 (m : Int)] 3)) := by
      refine ⟨?_, ?_⟩
      · have := (Boxed.new (w.alloc (.cells #[.slice none 0 0] 82)) 24 (.slice A l.length c)).alloc (.cells #[.int .i64 (m : Int)] 3)
        simp only [World.size_alloc] at this
        exact this
      · have := Boxed.new ((w.alloc (.cells #[.slice none 0 0] 82)).alloc (.cells #[.slice A l.length c] 24)) 3 (.int .i64 (m : Int))
        simp only [World.size_alloc] at this
        exact this
    have hB0 : Below w.heap.size w (((w.alloc (.cells #[.slice none 0 0] 82)).alloc (.cells #[.slice A l.length c] 24)).alloc (.cells #[.int .i64 (m : Int)] 3)) := (((Below.refl _ w).alloc (Nat.le_refl _) _).alloc (by simp) _).alloc (by simp; omega) _
    have hsz0 : (((w.alloc (.cells #[.slice none 0 0] 82)).alloc (.cells #[.slice A l.length c] 24)).alloc (.cells #[.int .i64 (m : Int)] 3)).heap.size = w.heap.size + 3 := by simp
    obtain ⟨W0, hW0⟩ : ∃ W0, (((w.alloc (.cells #[.slice none 0 0] 82)).alloc (.cells #[.slice A l.length c] 24)).alloc (.cells #[.int .i64 (m : Int)] 3)) = W0 := ⟨_, rfl⟩
    rw [hW0] at bO bC hB0 hsz0 ⊢
    clear hW0
    refine wpIn_rangeFunc_ownH rfl (by omega) (gf := 107) (lb := #[.pointer (some ⟨w.heap.size + 1, 0, none⟩), .pointer (some ⟨w.heap.size + 1 + 1, 0, none⟩)]) rfl trivial (enters_of Try.func107 (by kernel_rfl) rfl)
      (chunk_stops 2 (by omega) (w.heap.size + 1) (w.heap.size + 1 + 1) A ad c l.length m K HA.out hlc hc hl HM.out.1 HM.out.2 HK.out W0 bC)
      (fun h1 h2 => ⟨h2.1.trans h1.1, h2.2.trans h1.2⟩) (fun W lo o o' hlo hwo _ _ => ⟨World.putObj_heap_other (by omega), World.putObj_heap_other (by omega)⟩) (Below.refl _ _) (fun _ => rfl)
      (CutI w m K l) (fun _ _ _ => False) (cutI_own w m K l _ (by omega)) (fun _ _ _ _ _ hs _ _ => hs)
      ⟨⟨_, [], bO, World.ownsRow_nil _ _ _ _, rfl, fun j v k hj => by simp at hj⟩, by omega, hB0⟩
      (fun x a' _ => CutA w A c l ad m K x a') (fun x a' _ X Y row hs hg hr => hs)
      ?assign ?body ?done ?stop
    case assign =>
      rintro l0 pre x W Kk hI hK
      gi_wp2
      exact hK _ _ (KeepsFrom.refl _ _) ⟨rfl, rfl⟩ hI ⟨_, _, _, _, _, _, _, rfl⟩
    case stop =>
      rintro D cd pre W _ _ h _
      exact h.elim
    case done =>
      rintro D ys W hD rfl ⟨⟨v, vs, hv, hrow, hvl, hL⟩, hsz, hB⟩ hKd
      have hc := hv.cell
      rw [List.length_range] at hrow hvl
      obtain ⟨A1, c1, rfl⟩ := own_slice hrow
      gi_wp2
      refine ⟨by simp, .inl ⟨_, _, rfl, run_takeDeferred (show W.heap[D]? = _ from hKd), ?_⟩⟩
      refine ⟨_, results_tmp rfl _ _ _, ?_⟩
      exact ⟨A1, c1, vs, rfl, ownsRow_mono (ownsRow_putObj hrow _ hKd rfl) (by omega), hvl, hL.kept (grownBy_putObj' W D _) (fun g e cs z h => by cases e; rw [hKd] at h; cases h), hB.trans (belowK_b (w := w) (Nat.le_refl _) W D _ _ (by omega) hKd rfl rfl)⟩
    case body =>
      rintro l0 pre x a' W hl0 ⟨r, hr⟩ ⟨⟨v, vs, hv, hrow, hvl, hL⟩, hsz, hB⟩ ⟨x1, x7, x8, x9, x10, x11, x13, rfl⟩ hlt
      have hN0 : 0 < l.length := by
        rcases Nat.eq_zero_or_pos l.length with h | h
        · have := HK.out.1
          rw [h, Nat.zero_add] at this
          have := Nat.le_mul_of_pos_left m (show 0 < K by omega)
          omega
        · exact h
      obtain rfl := HA.out hN0
      have HCL := Lib.hid (clone_chunk ad m (min x (K - 1)) K l hl HM.out.1 (by omega) HK.out.1 W.drew (HR.out.below (hB.trans (Below.refl _ W).drew) |>.more hB.size))
      have hbc := hv.cell
      have hvlt : w.heap.size < W.drew.heap.size := hv.lt
      have hKN : K ≤ l.length := cut_K HM.out.1 HK.out.1
      have HV := Lib.hid hv
      have HO := Lib.hid hrow
      have HL := Lib.hid hL
      have HB := Lib.hid hB
      clear hv hrow hL hB
      gi_wp2
      refine wpIn_region_any (by kernel_rfl) ?_
      change wpAnyIn _ _ _ _ _ _ _ _ _ (World.drew _)
      refine wpAnyIn_ready (rs := [0, 1]) (by kernel_rfl) (by simp) (AllReadyIn.cons rfl (fun Kk hKk => ?_) (AllReadyIn.cons rfl (fun Kk hKk => ?_) AllReadyIn.nil))
      · (go_simp; refine hKk _ _ ?_; clear hKk Kk)
        refine any_one (i := 1) (by kernel_rfl) rfl (fun Kk hKk => ?_)
        (go_simp; refine hKk _ _ ?_; clear hKk Kk)
        refine any_one (i := 2) (by kernel_rfl) rfl (fun Kk hKk => ?_)
        (go_simp; gi_wp2_with (refine ⟨trivial, ?_⟩; gi_at_call 88; refine (CallsIn.inRound _ (callsIn_wide.2 HCL.out)).mono ?_; rintro e w2 ⟨g2, cap2, rfl, ho2, hb2⟩; have hc2 := (hb2.cell (p := ⟨w.heap.size, 0, none⟩) hvlt).trans hbc; have hc2a := fun o => (((Below.refl w2.heap.size w2).alloc (Nat.le_refl _) o).cell (p := ⟨w.heap.size, 0, none⟩) (by have := hb2.size; have := hvlt; show w.heap.size < _; rw [show W.drew.heap.size = W.heap.size from rfl] at *; omega)).trans hc2))
        refine any_one (i := 3) (by kernel_rfl) rfl (fun Kk hKk => ?_)
        (go_simp; refine hKk _ _ ?_; clear hKk Kk)
        (refine any_one (i := 4) (by kernel_rfl) rfl (fun Kk hKk => step_append_in rfl _ _ _ (by rfl) (w.heap.size + 3) 24 i0 (.slice none 0 0) 1 24 Try.underlying82 HI.out.1 HI.out.2.1 HI.out.2.2.1 HI.out.2.2.2 rfl (by decide) v pre.length vs rfl ((own_later HO.out hb2).alloc _) ⟨w2.heap.size, 0, none⟩ 1 1 [.slice (some ⟨g2, 0, none⟩) (chunk m l (min x (K - 1))).length cap2] rfl rfl (World.news_of_block (heap_alloc_new w2 _)) (by simp [Value.oneCell']) (by unfold maxLen; omega) (by omega) (by have := hb2.size; simp; rw [show W.drew.heap.size = W.heap.size from rfl] at *; omega) (fun v' w3 hown hgrow => hKk _ _ ?_)); clear hKk Kk; obtain ⟨g', cap', rfl⟩ := ownsRow_succ hown; obtain ⟨hv3, hfin⟩ := cut_fin HV.out HO.out hvl HL.out hsz HB.out hb2 ho2 hown hgrow rfl; have hc3 := hv3.cell; have hf3 := hv3.frozen; refine any_one (i := 5) (by kernel_rfl) rfl (fun Kk hKk => ?_); (go_simp; refine hKk _ _ ?_; clear hKk Kk); refine wpAnyIn_done (by kernel_rfl) ?_ _; gi_wp2; rw [hsz0]; exact hfin)
      · (go_simp; refine hKk _ _ ?_; clear hKk Kk)
        refine wpAnyIn_ready (rs := [0, 2]) (by kernel_rfl) (by simp) (AllReadyIn.cons rfl (fun Kk hKk => ?_) (AllReadyIn.cons rfl (fun Kk hKk => ?_) AllReadyIn.nil))
        · (go_simp; refine hKk _ _ ?_; clear hKk Kk)
          refine any_one (i := 2) (by kernel_rfl) rfl (fun Kk hKk => ?_)
          (go_simp; gi_wp2_with (refine ⟨trivial, ?_⟩; gi_at_call 88; refine (CallsIn.inRound _ (callsIn_wide.2 HCL.out)).mono ?_; rintro e w2 ⟨g2, cap2, rfl, ho2, hb2⟩; have hc2 := (hb2.cell (p := ⟨w.heap.size, 0, none⟩) hvlt).trans hbc; have hc2a := fun o => (((Below.refl w2.heap.size w2).alloc (Nat.le_refl _) o).cell (p := ⟨w.heap.size, 0, none⟩) (by have := hb2.size; have := hvlt; show w.heap.size < _; rw [show W.drew.heap.size = W.heap.size from rfl] at *; omega)).trans hc2))
          refine any_one (i := 3) (by kernel_rfl) rfl (fun Kk hKk => ?_)
          (go_simp; refine hKk _ _ ?_; clear hKk Kk)
          (refine any_one (i := 4) (by kernel_rfl) rfl (fun Kk hKk => step_append_in rfl _ _ _ (by rfl) (w.heap.size + 3) 24 i0 (.slice none 0 0) 1 24 Try.underlying82 HI.out.1 HI.out.2.1 HI.out.2.2.1 HI.out.2.2.2 rfl (by decide) v pre.length vs rfl ((own_later HO.out hb2).alloc _) ⟨w2.heap.size, 0, none⟩ 1 1 [.slice (some ⟨g2, 0, none⟩) (chunk m l (min x (K - 1))).length cap2] rfl rfl (World.news_of_block (heap_alloc_new w2 _)) (by simp [Value.oneCell']) (by unfold maxLen; omega) (by omega) (by have := hb2.size; simp; rw [show W.drew.heap.size = W.heap.size from rfl] at *; omega) (fun v' w3 hown hgrow => hKk _ _ ?_)); clear hKk Kk; obtain ⟨g', cap', rfl⟩ := ownsRow_succ hown; obtain ⟨hv3, hfin⟩ := cut_fin HV.out HO.out hvl HL.out hsz HB.out hb2 ho2 hown hgrow rfl; have hc3 := hv3.cell; have hf3 := hv3.frozen; refine any_one (i := 5) (by kernel_rfl) rfl (fun Kk hKk => ?_); (go_simp; refine hKk _ _ ?_; clear hKk Kk); refine wpAnyIn_done (by kernel_rfl) ?_ _; gi_wp2; rw [hsz0]; exact hfin)
        · (go_simp; gi_wp2_with (refine ⟨trivial, ?_⟩; gi_at_call 88; refine (CallsIn.inRound _ (callsIn_wide.2 HCL.out)).mono ?_; rintro e w2 ⟨g2, cap2, rfl, ho2, hb2⟩; have hc2 := (hb2.cell (p := ⟨w.heap.size, 0, none⟩) hvlt).trans hbc; have hc2a := fun o => (((Below.refl w2.heap.size w2).alloc (Nat.le_refl _) o).cell (p := ⟨w.heap.size, 0, none⟩) (by have := hb2.size; have := hvlt; show w.heap.size < _; rw [show W.drew.heap.size = W.heap.size from rfl] at *; omega)).trans hc2))
          refine wpAnyIn_ready (rs := [0, 3]) (by kernel_rfl) (by simp) (AllReadyIn.cons rfl (fun Kk hKk => ?_) (AllReadyIn.cons rfl (fun Kk hKk => ?_) AllReadyIn.nil))
          · (go_simp; refine hKk _ _ ?_; clear hKk Kk)
            refine any_one (i := 3) (by kernel_rfl) rfl (fun Kk hKk => ?_)
            (go_simp; refine hKk _ _ ?_; clear hKk Kk)
            (refine any_one (i := 4) (by kernel_rfl) rfl (fun Kk hKk => step_append_in rfl _ _ _ (by rfl) (w.heap.size + 3) 24 i0 (.slice none 0 0) 1 24 Try.underlying82 HI.out.1 HI.out.2.1 HI.out.2.2.1 HI.out.2.2.2 rfl (by decide) v pre.length vs rfl ((own_later HO.out hb2).alloc _) ⟨w2.heap.size, 0, none⟩ 1 1 [.slice (some ⟨g2, 0, none⟩) (chunk m l (min x (K - 1))).length cap2] rfl rfl (World.news_of_block (heap_alloc_new w2 _)) (by simp [Value.oneCell']) (by unfold maxLen; omega) (by omega) (by have := hb2.size; simp; rw [show W.drew.heap.size = W.heap.size from rfl] at *; omega) (fun v' w3 hown hgrow => hKk _ _ ?_)); clear hKk Kk; obtain ⟨g', cap', rfl⟩ := ownsRow_succ hown; obtain ⟨hv3, hfin⟩ := cut_fin HV.out HO.out hvl HL.out hsz HB.out hb2 ho2 hown hgrow rfl; have hc3 := hv3.cell; have hf3 := hv3.frozen; refine any_one (i := 5) (by kernel_rfl) rfl (fun Kk hKk => ?_); (go_simp; refine hKk _ _ ?_; clear hKk Kk); refine wpAnyIn_done (by kernel_rfl) ?_ _; gi_wp2; rw [hsz0]; exact hfin)
          · (go_simp; refine hKk _ _ ?_; clear hKk Kk)
            refine any_one (i := 0) (by kernel_rfl) rfl (fun Kk hKk => ?_)
            (go_simp; refine hKk _ _ ?_; clear hKk Kk)
            (refine any_one (i := 4) (by kernel_rfl) rfl (fun Kk hKk => step_append_in rfl _ _ _ (by rfl) (w.heap.size + 3) 24 i0 (.slice none 0 0) 1 24 Try.underlying82 HI.out.1 HI.out.2.1 HI.out.2.2.1 HI.out.2.2.2 rfl (by decide) v pre.length vs rfl ((own_later HO.out hb2).alloc _) ⟨w2.heap.size, 0, none⟩ 1 1 [.slice (some ⟨g2, 0, none⟩) (chunk m l (min x (K - 1))).length cap2] rfl rfl (World.news_of_block (heap_alloc_new w2 _)) (by simp [Value.oneCell']) (by unfold maxLen; omega) (by omega) (by have := hb2.size; simp; rw [show W.drew.heap.size = W.heap.size from rfl] at *; omega) (fun v' w3 hown hgrow => hKk _ _ ?_)); clear hKk Kk; obtain ⟨g', cap', rfl⟩ := ownsRow_succ hown; obtain ⟨hv3, hfin⟩ := cut_fin HV.out HO.out hvl HL.out hsz HB.out hb2 ho2 hown hgrow rfl; have hc3 := hv3.cell; have hf3 := hv3.frozen; refine any_one (i := 5) (by kernel_rfl) rfl (fun Kk hKk => ?_); (go_simp; refine hKk _ _ ?_; clear hKk Kk); refine wpAnyIn_done (by kernel_rfl) ?_ _; gi_wp2; rw [hsz0]; exact hfin)
end Go.Proofs.Ytkhnmdmpkedifaa
