/- Layer 10 (rank): an append onto a row of the call's own within a region that draws its order; rows of records. -/
import Derived.Test.YtkhnmdmpkedifaaRankD
import Derived.Deep.RegionHeld3
namespace Go.Proofs.Ytkhnmdmpkedifaa
open Go.ChangeShapes Go.WideShapes Go.ChangeAt Go.RowKit Go.Deep

theorem step_append_any {P : Program} {w : World} {ops : Array Oper} {o : Oper} {a : Act} {K : Act → World → Prop} {Q : Exit → Act → World → Prop} {E : Prop} (hgd : o.guard = none) (s x : Operand) (t : TypeId)
    (ho : o.op = .call { callee := .builtin .append, args := #[s, x], argTypes := #[t, t] })
    (base : Nat) (e : TypeId) (i : TypeInfo) (z : Value) (size bytes : Nat) (ht : P.underlying t = some (.slice e)) (hi : P.info? e = some i) (hz : i.zero = some z)
    (hsize : i.size = size) (hby : i.bytes = bytes) (hzs : z.cells.size = size) (hsz : 0 < size)
    (v : Value) (n : Nat) (xs : List Value) (hs : a.eval s = v) (hown : w.ownsRow base e size v n xs) (hn0 : 0 < n)
    (ad : Addr) (m c : Nat) (news : List Value) (hx : a.eval x = .slice (some ad) m c) (hl : news.length = m * size) (hnews : ∀ j u, news[j]? = some u → w.cell? (ad.add j) = some u) (h1 : ∀ u ∈ news, u.oneCell' = true)
    (h63 : n + m ≤ maxLen) (hbytes : (n + m) * bytes ≤ 140737488355328) (hbase : base ≤ w.heap.size)
    (h : ∀ g cap w', w'.ownsRow base e size (.slice (some ⟨g, 0, none⟩) (n + m) cap) (n + m) (xs ++ news) → n + m ≤ cap → cap ≤ maxLen → w.grownBy w' v.ownBlock → K (a.put o.dst (.slice (some ⟨g, 0, none⟩) (n + m) cap)) w') :
    if Region.wanted o (yielded ops a.tmps) = true then Oper.wp P o a w K Q else E := by
  have hw : Region.wanted o (yielded ops a.tmps) = true := by simp [Region.wanted, hgd]
  rw [if_pos hw]
  refine wp_append_own w s x t ho base e i z size bytes ht hi hz hsize hby hzs hsz v n xs hs hown ad m c news hx hl hnews h1 h63 hbytes hbase fun v' w' h2 h3 _ => ?_
  obtain ⟨_, ⟨_, h0⟩ | ⟨g, cap, cur, rfl, _, _, hc1, hc2, _⟩⟩ := id h2
  · omega
  · exact h g cap w' h2 hc1 hc2 h3
theorem own_row1 {W : World} {base H : Nat} {T : TypeId} (x : Sp) (h : W.heap[H]? = some (.cells (spCells x).toArray T (0, 0))) (hb : base ≤ H) : W.ownsRow base T 9 (.slice (some ⟨H, 0, none⟩) 1 1) 1 (spCells x) :=
  ⟨rfl, .inr ⟨H, 1, (spCells x).toArray, rfl, hb, h, Nat.le_refl _, by decide, rfl, rfl⟩⟩
theorem spCells_one (l : List Sp) : ∀ u ∈ l.flatMap spCells, u.oneCell' = true := by
  intro u hu
  obtain ⟨x, _, hx⟩ := List.mem_flatMap.1 hu
  simp only [spCells, List.mem_cons, List.not_mem_nil, or_false] at hx
  rcases hx with rfl | rfl | rfl | rfl | rfl | rfl | rfl | rfl | rfl <;> rfl
theorem spCells_len (l : List Sp) : (l.flatMap spCells).length = l.length * 9 := by
  induction l with
  | nil => rfl
  | cons x l ih => rw [List.flatMap_cons, List.length_append, ih, List.length_cons]; simp [spCells]; omega
/-- the cells of a slice of records from one on -/
theorem news_of_RdS {W : World} {B : Nat} {ad : Addr} {l : List Sp} (h : RdS W B (some ad) l) (k : Nat) (hk : 0 < k) : ∀ j u, ((l.drop k).flatMap spCells)[j]? = some u → W.cell? ((⟨ad.block, ad.off + k * 9, none⟩ : Addr).add j) = some u := by
  intro j u hj
  have hlt : j < (l.drop k).length * 9 := by
    have := (List.getElem?_eq_some_iff.1 hj).1
    rwa [spCells_len] at this
  have hq : j / 9 < (l.drop k).length := by omega
  obtain ⟨x, hx⟩ : ∃ x, (l.drop k)[j / 9]? = some x := ⟨_, List.getElem?_eq_getElem hq⟩
  have hc : ∀ (l : List Sp) (q : Nat) (x : Sp), l[q]? = some x → ∀ r, r < 9 → (l.flatMap spCells)[q * 9 + r]? = (spCells x)[r]? := by
    intro l
    induction l with
    | nil => intro q x hq; simp at hq
    | cons y l ih =>
      intro q x hq r hr
      rw [List.flatMap_cons]
      cases q with
      | zero =>
        obtain rfl : y = x := by simpa using hq
        rw [List.getElem?_append_left (by simp [spCells]; omega), Nat.zero_mul, Nat.zero_add]
      | succ q =>
        rw [List.getElem?_append_right (by simp [spCells]; omega)]
        rw [← ih q x (by simpa using hq) r hr]
        congr 1
        simp [spCells]; omega
  have hr : j % 9 < 9 := Nat.mod_lt _ (by omega)
  have e1 := hc _ _ _ hx (j % 9) hr
  rw [show j / 9 * 9 + j % 9 = j by omega] at e1
  rw [e1] at hj
  have hat := h.at (Below.refl _ _) (k := k + j / 9) (x := x) (by rw [← List.getElem?_drop]; exact hx)
  have e9 : ad.add ((k + j / 9) * 9) = ⟨ad.block, ad.off + (k + j / 9) * 9, none⟩ := by
    unfold Addr.add
    rw [if_neg (show ¬ (k + j / 9) * 9 = 0 by omega)]
  rw [e9] at hat
  have ea : (⟨ad.block, ad.off + k * 9, none⟩ : Addr).add j = ⟨ad.block, ad.off + (k + j / 9) * 9 + j % 9, none⟩ := by
    unfold Addr.add
    split
    · simp only [Addr.mk.injEq, true_and, and_true]; omega
    · simp only [Addr.mk.injEq, true_and, and_true]; omega
  rw [ea]
  obtain ⟨h0, h1, h2, h3, h4, h5, h6, h7, h8⟩ := hat
  have hrr : j % 9 = 0 ∨ j % 9 = 1 ∨ j % 9 = 2 ∨ j % 9 = 3 ∨ j % 9 = 4 ∨ j % 9 = 5 ∨ j % 9 = 6 ∨ j % 9 = 7 ∨ j % 9 = 8 := by omega
  rcases hrr with e | e | e | e | e | e | e | e | e <;> rw [e] at hj ⊢ <;> simp only [spCells, List.getElem?_cons_zero, List.getElem?_cons_succ, Option.some.injEq] at hj <;> subst hj
  · exact h0
  · exact h1
  · exact h2
  · exact h3
  · exact h4
  · exact h5
  · exact h6
  · exact h7
  · exact h8
theorem news_of_RdS2 {W : World} {B : Nat} {ad : Addr} {l : List Sp} (h : RdS W B (some ad) l) (k : Nat) (hk : 0 < k) : ∀ j u, ((l.drop k).flatMap spCells)[j]? = some u → W.cell? ((ad.add (k * 9)).add j) = some u := by
  have e : ad.add (k * 9) = ⟨ad.block, ad.off + k * 9, none⟩ := by unfold Addr.add; rw [if_neg (by omega)]
  rw [e]; exact news_of_RdS h k hk
/-- the newest of what is put together first, and of the others: of the rank of the newest of all -/
theorem top_cut {l : List Sp} {n : Nat} {r1 r3 r4 k3 : Sp} (T1 : TopL l r1) (T3 : TopL (l.take n) r3) (hk : r3.kept = k3) (T4 : TopL (k3 :: l.drop n) r4) (hok : ∀ x ∈ l, x.Ok) (hmay : ∀ x ∈ l, CodeP.may (spP x) = 0) : r4.kept = r1.kept := by
  have hk0 : ordS k3 r3 = 0 := by rw [← hk]; exact ord_kept r3
  have hk1 : ordS r3 k3 = 0 := by rw [show ordS r3 k3 = - ordS k3 r3 from RankP.ord_anti _ _, hk0]; rfl
  have hr3 : r3 ∈ l := List.mem_of_mem_take T3.1
  have h1 : ∀ x ∈ l, newS x r4 = false := fun x hx => by
    rw [← List.take_append_drop n l] at hx
    rcases List.mem_append.1 hx with hx | hx
    · exact RankP.not_newer_trans _ _ _ (T3.2 x hx) (by
        have := T4.2 k3 (by simp)
        rwa [newS_of_ord hk0] at this)
    · exact T4.2 x (by simp [hx])
  have h2 : newS r4 r1 = false := by
    rcases List.mem_cons.1 T4.1 with h | h
    · rw [h, newS_of_ord hk0]; exact T1.2 r3 hr3
    · exact T1.2 r4 (List.mem_of_mem_drop h)
  have h3 := h1 r1 T1.1
  have h0 : ordS r4 r1 = 0 := by
    unfold newS RankP.newer at h2 h3
    rw [decide_eq_false_iff_not] at h2 h3
    rw [RankP.ord_anti] at h3
    show RankP.ordI (spP r4) (spP r1) = 0
    omega
  rcases List.mem_cons.1 T4.1 with h | h
  · rw [h] at h0 ⊢
    rw [← hk, kept_kept]
    have h5 : ordS r3 r1 = 0 := by
      have e1 := newS_of_ord (a := r1) hk1
      have n1 : newS r3 r1 = false := T1.2 r3 hr3
      have n2 : newS r1 r3 = false := by
        have := h3
        rw [h] at this
        have n4 : newS k3 r3 = false := by unfold newS RankP.newer; rw [show RankP.ordI (spP k3) (spP r3) = 0 from hk0]; rfl
        exact RankP.not_newer_trans _ _ _ this n4
      unfold newS RankP.newer at n1 n2
      rw [decide_eq_false_iff_not] at n1 n2
      rw [RankP.ord_anti] at n2
      show RankP.ordI (spP r3) (spP r1) = 0
      omega
    exact kept_same (hok _ hr3) (hok _ T1.1) (hmay _ hr3) (hmay _ T1.1) h5
  · have hr4 := List.mem_of_mem_drop h
    exact kept_same (hok _ hr4) (hok _ T1.1) (hmay _ hr4) (hmay _ T1.1) h0
end Go.Proofs.Ytkhnmdmpkedifaa
