/- The statements of layer 5 (pack): the walk of PackReads. -/
import Derived.Test.YtkhnmdmpkedifaaLaw05b
import Derived.Test.YtkhnmdmpkedifaaInv
import Derived.Test.YtkhnmdmpkedifaaPhase
import Derived.Test.YtkhnmdmpkedifaaLaw09b
namespace Go.Proofs.Ytkhnmdmpkedifaa
open Go.ChangeShapes Go.WideShapes Go.ChangeAt Go.RowKit Go.Deep

/-- the state behind some parts, each with its own greatest count -/
def pr (l : List PackP.Part) (r : PackP.St) : PackP.St := l.foldl (fun r p => (PackP.pread p.kind p.n r).2) r
theorem pr_snoc (l : List PackP.Part) (p : PackP.Part) (r : PackP.St) : pr (l ++ [p]) r = (PackP.pread p.kind p.n (pr l r)).2 := by unfold pr; rw [List.foldl_append]; rfl
theorem pr_len (l : List PackP.Part) (r : PackP.St) : (pr l r).1.length ≤ r.1.length := by
  unfold pr
  induction l generalizing r with
  | nil => exact Nat.le_refl _
  | cons p l ih => exact Nat.le_trans (ih _) (pread_len _ _ _)
theorem Rdr.alloc' {T : TypeId} {b : Nat} {r : PackP.St} {w : World} (h : Rdr T b r w) (o : Obj) : Rdr T b r (w.alloc o) := h.kept (World.grownBy_alloc w o none) (by simp)
/-- two operations may come up -/
theorem wpAnyH_two {P : Program} {md : Region.Mode} {Q : Exit → Act → World → Prop} {S : World → Prop} {l : List Oper} {o o' : Oper} (i j : Nat) {f : Nat} {listed : Array Bool} {a : Act} {w : World} (hr : Region.ready md l.toArray listed = [i, j]) (ho : (l.drop i).head? = some o) (ho' : (l.drop j).head? = some o')
    (h : ∀ K' : Act → World → Prop, Shut (∀ a w, S w → (S w → wpAnyH P md l.toArray Q S f (listed.setIfInBounds i true) a w) → K' a w) → if Region.wanted o (yielded l.toArray a.tmps) = true then Oper.wp P o a w K' Q else K' (a.put o.dst undef) w)
    (h' : ∀ K' : Act → World → Prop, Shut (∀ a w, S w → (S w → wpAnyH P md l.toArray Q S f (listed.setIfInBounds j true) a w) → K' a w) → if Region.wanted o' (yielded l.toArray a.tmps) = true then Oper.wp P o' a w K' Q else K' (a.put o'.dst undef) w) : wpAnyH P md l.toArray Q S (f + 1) listed a w :=
  wpAnyH_ready (rs := [i, j]) hr (by simp) (AllReadyH.cons (by rw [List.head?_drop] at ho; simpa using ho) h (AllReadyH.cons (by rw [List.head?_drop] at ho'; simpa using ho') h' AllReadyH.nil))
theorem box_set3 {w : World} {B : Nat} {T : TypeId} {c0 c1 c2 : Value} {fr : Nat × Nat} (h : w.heap[B]? = some (.cells #[c0, c1, c2] T fr)) (v0 v1 v2 : Value) :
    (((w.setCell ⟨B, 0, none⟩ v0).setCell ⟨B, 1, none⟩ v1).setCell ⟨B, 2, none⟩ v2).heap[B]? = some (.cells #[v0, v1, v2] T fr) := box_set (box_set (box_set h 0 v0) 1 v1) 2 v2
theorem Rdr.st3 {T : TypeId} {b B : Nat} {r : PackP.St} {w : World} (h : Rdr T b r w) (hne : b ≠ B) (v0 v1 v2 : Value) :
    Rdr T b r (((w.setCell ⟨B, 0, none⟩ v0).setCell ⟨B, 1, none⟩ v1).setCell ⟨B, 2, none⟩ v2) := ((h.other _ _ _ hne).other _ _ _ hne).other _ _ _ hne
theorem below_st3 {w W : World} {n B : Nat} (h : Below n w W) (hB : n ≤ B) (v0 v1 v2 : Value) :
    Below n w (((W.setCell ⟨B, 0, none⟩ v0).setCell ⟨B, 1, none⟩ v1).setCell ⟨B, 2, none⟩ v2) := ((h.setCell (p := ⟨B, 0, none⟩) hB v0).setCell (p := ⟨B, 1, none⟩) hB v1).setCell (p := ⟨B, 2, none⟩) hB v2

set_option maxRecDepth 100000 in
theorem law05_PackReads_many (s : ByteArray) (A : Option Addr) (c : Nat) (l : List PackP.Part) (hs : s.size ≤ maxLen) (hm : l.length ≤ maxLen) (h : 1024 < s.size ∨ 40 < l.length) (w : World) :
    Calls Try.prog 7 #[.string s, .slice A l.length c] w fun e w' => e = .returned (.bool true) ∧ Below w.heap.size w w' := by
  unfold maxLen at hs hm
  by_cases h1 : 1024 < s.size
  · clear h
    go_enter Try.func7, Try.ntmps7
    go_wp2_with (go_at_call 25; refine (law05_awake _).mono ?_; rintro e w1 ⟨rfl, hb1⟩)
    go_ret
    exact ⟨rfl, by (repeat (first | assumption | exact Below.refl _ _ | refine below_step (by assumption) ?_ | refine below_alloc' _ ?_ | refine below_drewN ?_ _ | refine Below.drew ?_))⟩
  · have h2 : 40 < l.length := h.resolve_left h1
    clear h
    go_enter Try.func7, Try.ntmps7
    go_wp2_with (go_at_call 25; refine (law05_awake _).mono ?_; rintro e w1 ⟨rfl, hb1⟩)
    go_ret
    exact ⟨rfl, by (repeat (first | assumption | exact Below.refl _ _ | refine below_step (by assumption) ?_ | refine below_alloc' _ ?_ | refine below_drewN ?_ _ | refine Below.drew ?_))⟩

set_option maxRecDepth 100000 in
set_option maxHeartbeats 2000000 in
theorem law05_PackReads_few (s : ByteArray) (A : Option Addr) (c : Nat) (l : List PackP.Part) (hs : s.size ≤ 1024) (hl : l.length ≤ 40) (w : World) (hr : RdP w w.heap.size A l) :
    Calls Try.prog 7 #[.string s, .slice A l.length c] w fun e w' => e = .returned (.bool true) ∧ Below w.heap.size w w' := by
  have HR := Lib.hid hr
  have HN := Lib.hid (pack_New s w)
  have hsl : s.data.toList.length ≤ 1024 := hs
  have HSL := Lib.hid hsl
  clear hr hsl
  go_enter Try.func7, Try.ntmps7
  go_wp2_with (go_at_call 29; (with_reducible refine (HN.out).mono ?_); rintro e w1 ⟨rfl, q1, g1⟩)
  have hz1 := q1.lt
  have B1 := below_grown g1
  have X0 := q1.alloc' (.cells #[.string s, .int .i64 0] 55)
  have Y0 : Rdr 55 w1.heap.size (s.data.toList, 0) (w1.alloc (.cells #[.string s, .int .i64 0] 55)) := Rdr.new _ s w1
  go_loopw [10] (fun i wr => ∃ k : Nat, k ≤ l.length ∧ i = .int .i64 k ∧ Rdr 59 w.heap.size (pr (l.take k) (s.data.toList, 0)) wr ∧ Rdr 55 w1.heap.size (pr (l.take k) (s.data.toList, 0)) wr
    ∧ Rdr 59 (w1.heap.size + 1) (pr (l.take k) ([], 0)) wr ∧ Rdr 55 (w1.heap.size + 2) (pr (l.take k) ([], 0)) wr ∧ Below w.heap.size w wr) (fun i _ => l.length - (intOf i).toNat)
  case atStart =>
    refine ⟨0, by omega, rfl, (X0.alloc' _).alloc' _, (Y0.alloc' _).alloc' _, ?_, ?_, below_alloc' _ (below_alloc' _ (below_alloc' _ B1))⟩
    · exact Rdr.alloc' (show Rdr _ _ _ _ from alloc2_1 w1 _ _) _
    · exact (show Rdr _ _ _ _ from alloc3_2 w1 _ _ _)
  case round =>
    obtain ⟨k, hk, rfl, qr, qx, qz, qe, hb⟩ := hrel
    by_cases hlt : k < l.length
    · obtain ⟨p, hk'⟩ : ∃ p, l[k]? = some p := ⟨l[k], List.getElem?_eq_getElem hlt⟩
      obtain ⟨ad, rfl, hadl, _⟩ := HR.out k p hk'
      have HX := Lib.hid (fun (W : World) (h : Below w.heap.size w W) => HR.out.at h hk')
      have hzl := hb.size
      have e1 := qx.lt
      have hln := pr_len (l.take k) (s.data.toList, 0)
      have hlz := pr_len (l.take k) ([], 0)
      have hp1 := pr_snoc (l.take k) p (s.data.toList, 0)
      have hp2 := pr_snoc (l.take k) p ([], 0)
      rw [← ptake_snoc l k p hk'] at hp1 hp2
      generalize pr (l.take k) (s.data.toList, 0) = st at qr qx hln hp1
      generalize pr (l.take k) ([], 0) = zt at qz qe hlz hp2
      have HP1 := Lib.hid hp1
      have HP2 := Lib.hid hp2
      have hl1 : st.1.length ≤ 100000 := by have := HSL.out; simp only at hln; omega
      have hl2 : zt.1.length ≤ 100000 := by simp at hlz; rw [hlz]; simp
      have R1 := fun W (h : Rdr 59 w.heap.size st W) => law5_read p.kind p.n w.heap.size st hl1 W h
      have R2 := fun W (h : Rdr 55 w1.heap.size st W) => ref5_read p.kind p.n w1.heap.size st hl1 W h
      rcases hpd : PackP.pread p.kind p.n st with ⟨⟨pk, pn, ps⟩, li, er⟩
      rw [hpd] at R1 R2 HP1
      unfold ptV at R1 R2
      simp only at R1 R2 HP1
      have HR1 := Lib.hid R1
      have HR2 := Lib.hid R2
      have hj0 : (0 : Int) ≤ (k : Int) := by omega
      have hj1 : (k : Int) < (l.length : Int) := by omega
      clear R1 R2 hp1 hp2 hpd hln hlz hk'
      go_wp2_with fail
      have hbs := bl_size li
      refine wp_region_noPanic ?_
      refine wp_region_held_drew (S := fun W => Below w.heap.size w W) (by kernel_rfl) (Below.drew hb) (fun hb0 => ?_)
      refine wpAnyH_seg (by kernel_rfl) (fun _ _ _ _ _ h => h) hb0 40 11 0 _ _ (by decide) (by kernel_rfl) ?_
      simp only [List.drop_zero, List.take_succ_cons, List.take_zero]
      iterate 11 ((refine' wpTake_cons (by rfl) (fun W hW => ?_) ?_); rotate_left; (obtain ⟨x0, x1, x2⟩ := HX.out W hW; clear hW; go_simp; with_reducible rfl); simp only [Act.put, List.setIfInBounds_toArray, List.set_cons_zero, List.set_cons_succ])
      refine wpTake_nil ?_
      refine wpAnyH_seg (by kernel_rfl) (fun _ _ _ _ _ h => h) hb0 29 11 12 _ _ (by decide) (by kernel_rfl) ?_
      simp only [List.drop_succ_cons, List.drop_zero, List.take_succ_cons, List.take_zero]
      iterate 11 ((refine' wpTake_cons (by rfl) (fun W hW => ?_) ?_); rotate_left; (obtain ⟨x0, x1, x2⟩ := HX.out W hW; clear hW; go_simp; with_reducible rfl); simp only [Act.put, List.setIfInBounds_toArray, List.set_cons_zero, List.set_cons_succ])
      refine wpTake_nil ?_
      have qr0 : Rdr 59 w.heap.size st wr.drew := qr
      have qx0 : Rdr 55 w1.heap.size st wr.drew := qx
      have qz0 : Rdr 59 (w1.heap.size + 1) zt wr.drew := qz
      have qe0 : Rdr 55 (w1.heap.size + 2) zt wr.drew := qe
      clear qr qx qz qe
      generalize wr.drew = v0 at qr0 qx0 qz0 qe0 hb0 ⊢
      refine wpAnyH_one 11 (by kernel_rfl) rfl (fun K hK => ?_)
      rw [if_pos (by rfl)]
      go_simp
      go_at_call 30
      (with_reducible refine (HR1.out _ qr0).mono ?_); rintro e w2 ⟨rfl, q2, g2⟩
      go_wp2_with fail
      refine hK.out _ _ ?_ (fun hb2 => ?_)
      · exact hb0.grown g2 hb0.size (by intro k h; cases h; omega)
      clear hK K
      (try simp only [Act.put, List.setIfInBounds_toArray, List.set_cons_zero, List.set_cons_succ])
      have qx2 := qx0.kept g2 (by simp only [ne_eq, Option.some.injEq]; omega)
      have qz2 := qz0.kept g2 (by simp only [ne_eq, Option.some.injEq]; omega)
      have qe2 := qe0.kept g2 (by simp only [ne_eq, Option.some.injEq]; omega)
      refine wpAnyH_one 23 (by kernel_rfl) rfl (fun K hK => ?_)
      rw [if_pos (by rfl)]
      go_simp
      go_at_call 31
      (with_reducible refine (HR2.out _ qx2).mono ?_); rintro e w3 ⟨rfl, q3, g3⟩
      go_wp2_with fail
      refine hK.out _ _ ?_ (fun hb3 => ?_)
      · exact hb2.grown g3 hb2.size (by intro k h; cases h; omega)
      clear hK K
      (try simp only [Act.put, List.setIfInBounds_toArray, List.set_cons_zero, List.set_cons_succ])
      have qr3 := q2.kept g3 (by simp only [ne_eq, Option.some.injEq]; omega)
      have qz3 := qz2.kept g3 (by simp only [ne_eq, Option.some.injEq]; omega)
      have qe3 := qe2.kept g3 (by simp only [ne_eq, Option.some.injEq]; omega)
      refine wpAnyH_more (S' := fun W => Rdr 59 w.heap.size (li, er) W ∧ Rdr 55 w1.heap.size (li, er) W ∧ Rdr 59 (w1.heap.size + 1) zt W ∧ Rdr 55 (w1.heap.size + 2) zt W ∧ Below w.heap.size w W) (fun W h => h.2.2.2.2) _ _ _ _ ?_
      have hA : (fun W => Rdr 59 w.heap.size (li, er) W ∧ Rdr 55 w1.heap.size (li, er) W ∧ Rdr 59 (w1.heap.size + 1) zt W ∧ Rdr 55 (w1.heap.size + 2) zt W ∧ Below w.heap.size w W) w3 := ⟨qr3, q3, qz3, qe3, hb3⟩
      simp only at hA
      clear q2 g2 g3 qr0 qx0 qz0 qe0 hb0 hb2 qx2 qz2 qe2 HR1 HR2
      refine wpAnyH_seg (by kernel_rfl) (fun _ _ _ _ _ h => h) hA 24 3 24 _ _ (by decide) (by kernel_rfl) ?_
      simp only [List.drop_succ_cons, List.drop_zero, List.take_succ_cons, List.take_zero]
      iterate 3 ((refine' wpTake_cons (by rfl) (fun W hW => ?_) ?_); rotate_left; (obtain ⟨h1, h2, h3, h4, h5⟩ := hW; have a0 := h1.c0; have a1 := h1.c1; have b0 := h2.c0; have b1 := h2.c1; clear h1 h2 h3 h4 h5; go_simp; (try simp only [hbs, ne_eq, not_true_eq_false, decide_false, Bool.not_true, bne_self_eq_false, go_sem]); with_reducible rfl); simp only [Act.put, List.setIfInBounds_toArray, List.set_cons_zero, List.set_cons_succ])
      refine wpTake_nil ?_
      refine wpAnyH_seg (by kernel_rfl) (fun _ _ _ _ _ h => h) hA 20 4 28 _ _ (by decide) (by kernel_rfl) ?_
      simp only [List.drop_succ_cons, List.drop_zero, List.take_succ_cons, List.take_zero]
      iterate 4 ((refine' wpTake_cons (by rfl) (fun W hW => ?_) ?_); rotate_left; (obtain ⟨h1, h2, h3, h4, h5⟩ := hW; have a0 := h1.c0; have a1 := h1.c1; have b0 := h2.c0; have b1 := h2.c1; clear h1 h2 h3 h4 h5; go_simp; (try simp only [hbs, ne_eq, not_true_eq_false, decide_false, Bool.not_true, bne_self_eq_false, go_sem]); with_reducible rfl); simp only [Act.put, List.setIfInBounds_toArray, List.set_cons_zero, List.set_cons_succ])
      refine wpTake_nil ?_
      refine wpAnyH_one 27 (by kernel_rfl) rfl (fun K hK => ?_)
      rw [if_pos (by rfl)]
      go_simp
      go_at_call 32
      (with_reducible refine (pack_Err _ _ _ qr3).mono ?_); rintro e w2 ⟨rfl, rfl⟩
      go_wp2_with fail
      refine hK.out _ _ ?_ (fun _ => ?_)
      · exact hA
      clear hK K
      (try simp only [Act.put, List.setIfInBounds_toArray, List.set_cons_zero, List.set_cons_succ])
      refine wpAnyH_seg (by kernel_rfl) (fun _ _ _ _ _ h => h) hA 15 4 32 _ _ (by decide) (by kernel_rfl) ?_
      simp only [List.drop_succ_cons, List.drop_zero, List.take_succ_cons, List.take_zero]
      iterate 4 ((refine' wpTake_cons (by rfl) (fun W hW => ?_) ?_); rotate_left; (obtain ⟨h1, h2, h3, h4, h5⟩ := hW; have a0 := h1.c0; have a1 := h1.c1; have b0 := h2.c0; have b1 := h2.c1; clear h1 h2 h3 h4 h5; go_simp; (try simp only [hbs, ne_eq, not_true_eq_false, decide_false, Bool.not_true, bne_self_eq_false, go_sem]); with_reducible rfl); simp only [Act.put, List.setIfInBounds_toArray, List.set_cons_zero, List.set_cons_succ])
      refine wpTake_nil ?_
      refine wpAnyH_seg (by kernel_rfl) (fun _ _ _ _ _ h => h) hA 10 5 37 _ _ (by decide) (by kernel_rfl) ?_
      simp only [List.drop_succ_cons, List.drop_zero, List.take_succ_cons, List.take_zero]
      iterate 5 ((refine' wpTake_cons (by rfl) (fun W hW => ?_) ?_); rotate_left; (obtain ⟨h1, h2, h3, h4, h5⟩ := hW; have a0 := h1.c0; have a1 := h1.c1; have b0 := h2.c0; have b1 := h2.c1; clear h1 h2 h3 h4 h5; go_simp; (try simp only [hbs, ne_eq, not_true_eq_false, decide_false, Bool.not_true, bne_self_eq_false, go_sem]); with_reducible rfl); simp only [Act.put, List.setIfInBounds_toArray, List.set_cons_zero, List.set_cons_succ])
      refine wpTake_nil ?_
      refine wpAnyH_one 36 (by kernel_rfl) rfl (fun K hK => ?_)
      rw [if_pos (by rfl)]
      go_simp
      go_at_call 33
      (with_reducible refine (pack_Left _ _ _ qr3).mono ?_); rintro e w2 ⟨rfl, rfl⟩
      go_wp2_with fail
      refine hK.out _ _ ?_ (fun _ => ?_)
      · exact hA
      clear hK K
      (try simp only [Act.put, List.setIfInBounds_toArray, List.set_cons_zero, List.set_cons_succ])
      refine wpAnyH_seg (by kernel_rfl) (fun _ _ _ _ _ h => h) hA 5 4 42 _ _ (by decide) (by kernel_rfl) ?_
      simp only [List.drop_succ_cons, List.drop_zero, List.take_succ_cons, List.take_zero]
      iterate 4 ((refine' wpTake_cons (by rfl) (fun W hW => ?_) ?_); rotate_left; (obtain ⟨h1, h2, h3, h4, h5⟩ := hW; have a0 := h1.c0; have a1 := h1.c1; have b0 := h2.c0; have b1 := h2.c1; clear h1 h2 h3 h4 h5; go_simp; (try simp only [hbs, ne_eq, not_true_eq_false, decide_false, Bool.not_true, bne_self_eq_false, go_sem]); with_reducible rfl); simp only [Act.put, List.setIfInBounds_toArray, List.set_cons_zero, List.set_cons_succ])
      refine wpTake_nil ?_
      refine wpAnyH_seg (by kernel_rfl) (fun _ _ _ _ _ h => h) hA 4 1 47 _ _ (by decide) (by kernel_rfl) ?_
      simp only [List.drop_succ_cons, List.drop_zero, List.take_succ_cons, List.take_zero]
      iterate 1 ((refine' wpTake_cons (by rfl) (fun W hW => ?_) ?_); rotate_left; (obtain ⟨h1, h2, h3, h4, h5⟩ := hW; have a0 := h1.c0; have a1 := h1.c1; have b0 := h2.c0; have b1 := h2.c1; clear h1 h2 h3 h4 h5; go_simp; (try simp only [hbs, ne_eq, not_true_eq_false, decide_false, Bool.not_true, bne_self_eq_false, go_sem]); with_reducible rfl); simp only [Act.put, List.setIfInBounds_toArray, List.set_cons_zero, List.set_cons_succ])
      refine wpTake_nil ?_
      refine wpAnyH_one 46 (by kernel_rfl) rfl (fun K hK => ?_)
      rw [if_pos (by rfl)]
      go_simp
      go_at_call 34
      (with_reducible refine (pack_End _ _ _ qr3).mono ?_); rintro e w2 ⟨rfl, rfl⟩
      go_wp2_with fail
      refine hK.out _ _ ?_ (fun _ => ?_)
      · exact hA
      clear hK K
      (try simp only [Act.put, List.setIfInBounds_toArray, List.set_cons_zero, List.set_cons_succ])
      refine wpAnyH_one 48 (by kernel_rfl) rfl (fun K hK => ?_)
      rw [if_pos (by rfl)]
      go_simp
      go_at_call 35
      (with_reducible refine (ref5_End _ _ _ q3).mono ?_); rintro e w2 ⟨rfl, rfl⟩
      go_wp2_with fail
      refine hK.out _ _ ?_ (fun _ => ?_)
      · exact hA
      clear hK K
      (try simp only [Act.put, List.setIfInBounds_toArray, List.set_cons_zero, List.set_cons_succ])
      refine wpAnyH_seg (by kernel_rfl) (fun _ _ _ _ _ h => h) hA 0 2 49 _ _ (by decide) (by kernel_rfl) ?_
      simp only [List.drop_succ_cons, List.drop_zero, List.take_succ_cons, List.take_zero]
      iterate 2 ((refine' wpTake_cons (by rfl) (fun W hW => ?_) ?_); rotate_left; (obtain ⟨h1, h2, h3, h4, h5⟩ := hW; have a0 := h1.c0; have a1 := h1.c1; have b0 := h2.c0; have b1 := h2.c1; clear h1 h2 h3 h4 h5; go_simp; (try simp only [hbs, ne_eq, not_true_eq_false, decide_false, Bool.not_true, bne_self_eq_false, go_sem]); with_reducible rfl); simp only [Act.put, List.setIfInBounds_toArray, List.set_cons_zero, List.set_cons_succ])
      refine wpTake_nil ?_
      refine wpAnyH_done (by kernel_rfl) ?_ _
      refine NoPanic.normal ?_
      go_wp2_with fail
      clear hA
      rcases hpz : PackP.pread p.kind p.n zt with ⟨⟨zk, zn, zs⟩, zi, ze⟩
      rw [hpz] at HP2
      simp only at HP2
      have R1 := fun W (h : Rdr 59 (w1.heap.size + 1) zt W) => law5_read p.kind p.n (w1.heap.size + 1) zt hl2 W h
      have R2 := fun W (h : Rdr 55 (w1.heap.size + 2) zt W) => ref5_read p.kind p.n (w1.heap.size + 2) zt hl2 W h
      rw [hpz] at R1 R2
      unfold ptV at R1 R2
      simp only at R1 R2
      have HZ1 := Lib.hid R1
      have HZ2 := Lib.hid R2
      clear R1 R2 hpz
      refine wp_region_noPanic ?_
      refine wp_region_held_drew (S := fun W => Below w.heap.size w W) (by kernel_rfl) (Below.drew hb3) (fun hb4 => ?_)
      have qr4 : Rdr 59 w.heap.size (li, er) w3.drew := qr3
      have qx4 : Rdr 55 w1.heap.size (li, er) w3.drew := q3
      have qz4 : Rdr 59 (w1.heap.size + 1) zt w3.drew := qz3
      have qe4 : Rdr 55 (w1.heap.size + 2) zt w3.drew := qe3
      have e4 := qe4.lt
      have hz4 := hb4.size
      clear qr3 q3 qz3 qe3 hb3
      generalize w3.drew = v4 at qr4 qx4 qz4 qe4 hb4 e4 hz4 ⊢
      refine wpAnyH_seg (by kernel_rfl) (fun _ _ _ _ _ h => h) hb4 21 11 0 _ _ (by decide) (by kernel_rfl) ?_
      simp only [List.drop_zero, List.take_succ_cons, List.take_zero]
      iterate 11 ((refine' wpTake_cons (by rfl) (fun W hW => ?_) ?_); rotate_left; (obtain ⟨x0, x1, x2⟩ := HX.out W hW; clear hW; go_simp; with_reducible rfl); simp only [Act.put, List.setIfInBounds_toArray, List.set_cons_zero, List.set_cons_succ])
      refine wpTake_nil ?_
      refine wpAnyH_seg (by kernel_rfl) (fun _ _ _ _ _ h => h) hb4 10 11 12 _ _ (by decide) (by kernel_rfl) ?_
      simp only [List.drop_succ_cons, List.drop_zero, List.take_succ_cons, List.take_zero]
      iterate 11 ((refine' wpTake_cons (by rfl) (fun W hW => ?_) ?_); rotate_left; (obtain ⟨x0, x1, x2⟩ := HX.out W hW; clear hW; go_simp; with_reducible rfl); simp only [Act.put, List.setIfInBounds_toArray, List.set_cons_zero, List.set_cons_succ])
      refine wpTake_nil ?_
      refine wpAnyH_one 11 (by kernel_rfl) rfl (fun K hK => ?_)
      rw [if_pos (by rfl)]
      go_simp
      go_at_call 30
      (with_reducible refine (HZ1.out _ qz4).mono ?_); rintro e w5 ⟨rfl, q5, g5⟩
      go_wp2_with fail
      refine hK.out _ _ ?_ (fun hb5 => ?_)
      · exact hb4.grown g5 hb4.size (by intro k h; cases h; omega)
      clear hK K
      (try simp only [Act.put, List.setIfInBounds_toArray, List.set_cons_zero, List.set_cons_succ])
      have qe5 := qe4.kept g5 (by simp only [ne_eq, Option.some.injEq]; omega)
      have qr5 := qr4.kept g5 (by simp only [ne_eq, Option.some.injEq]; omega)
      have qx5 := qx4.kept g5 (by simp only [ne_eq, Option.some.injEq]; omega)
      refine wpAnyH_one 23 (by kernel_rfl) rfl (fun K hK => ?_)
      rw [if_pos (by rfl)]
      go_simp
      go_at_call 31
      (with_reducible refine (HZ2.out _ qe5).mono ?_); rintro e w6 ⟨rfl, q6, g6⟩
      go_wp2_with fail
      refine hK.out _ _ ?_ (fun hb6 => ?_)
      · exact hb5.grown g6 hb5.size (by intro k h; cases h; omega)
      clear hK K
      (try simp only [Act.put, List.setIfInBounds_toArray, List.set_cons_zero, List.set_cons_succ])
      have qr6 := qr5.kept g6 (by simp only [ne_eq, Option.some.injEq]; omega)
      have qx6 := qx5.kept g6 (by simp only [ne_eq, Option.some.injEq]; omega)
      have qz6 := q5.kept g6 (by simp only [ne_eq, Option.some.injEq]; omega)
      clear q5 g5 g6 qr4 qx4 qz4 qe4 hb4 hb5 qr5 qx5 qe5 HZ1 HZ2
      refine wpAnyH_seg (by kernel_rfl) (fun _ _ _ _ _ h => h) hb6 5 3 24 _ _ (by decide) (by kernel_rfl) ?_
      simp only [List.drop_succ_cons, List.drop_zero, List.take_succ_cons, List.take_zero]
      iterate 3 ((refine' wpTake_cons (by rfl) (fun W hW => ?_) ?_); rotate_left; (clear hW; go_simp; with_reducible rfl); simp only [Act.put, List.setIfInBounds_toArray, List.set_cons_zero, List.set_cons_succ])
      refine wpTake_nil ?_
      refine wpAnyH_seg (by kernel_rfl) (fun _ _ _ _ _ h => h) hb6 4 1 28 _ _ (by decide) (by kernel_rfl) ?_
      simp only [List.drop_succ_cons, List.drop_zero, List.take_succ_cons, List.take_zero]
      iterate 1 ((refine' wpTake_cons (by rfl) (fun W hW => ?_) ?_); rotate_left; (clear hW; go_simp; with_reducible rfl); simp only [Act.put, List.setIfInBounds_toArray, List.set_cons_zero, List.set_cons_succ])
      refine wpTake_nil ?_
      refine wpAnyH_one 27 (by kernel_rfl) rfl (fun K hK => ?_)
      rw [if_pos (by rfl)]
      go_simp
      go_at_call 34
      (with_reducible refine (pack_End _ _ _ qz6).mono ?_); rintro e w2 ⟨rfl, rfl⟩
      go_wp2_with fail
      refine hK.out _ _ ?_ (fun _ => ?_)
      · exact hb6
      clear hK K
      (try simp only [Act.put, List.setIfInBounds_toArray, List.set_cons_zero, List.set_cons_succ])
      refine wpAnyH_one 29 (by kernel_rfl) rfl (fun K hK => ?_)
      rw [if_pos (by rfl)]
      go_simp
      go_at_call 35
      (with_reducible refine (ref5_End _ _ _ q6).mono ?_); rintro e w2 ⟨rfl, rfl⟩
      go_wp2_with fail
      refine hK.out _ _ ?_ (fun _ => ?_)
      · exact hb6
      clear hK K
      (try simp only [Act.put, List.setIfInBounds_toArray, List.set_cons_zero, List.set_cons_succ])
      refine wpAnyH_seg (by kernel_rfl) (fun _ _ _ _ _ h => h) hb6 0 2 30 _ _ (by decide) (by kernel_rfl) ?_
      simp only [List.drop_succ_cons, List.drop_zero, List.take_succ_cons, List.take_zero]
      iterate 2 ((refine' wpTake_cons (by rfl) (fun W hW => ?_) ?_); rotate_left; (clear hW; go_simp; with_reducible rfl); simp only [Act.put, List.setIfInBounds_toArray, List.set_cons_zero, List.set_cons_succ])
      refine wpTake_nil ?_
      refine wpAnyH_done (by kernel_rfl) ?_ _
      refine NoPanic.normal ?_
      go_wp2_with fail
      refine wp_region_noPanic ?_
      refine wp_region_held_drew (S := fun W => Below w.heap.size w W) (by kernel_rfl) (Below.drew hb6) (fun hb7 => ?_)
      have qr7 : Rdr 59 w.heap.size (li, er) w6.drew := qr6
      have qx7 : Rdr 55 w1.heap.size (li, er) w6.drew := qx6
      have qz7 : Rdr 59 (w1.heap.size + 1) (zi, ze) w6.drew := qz6
      have qe7 : Rdr 55 (w1.heap.size + 2) (zi, ze) w6.drew := q6
      have hz7 := hb7.size
      clear qr6 qx6 qz6 q6 hb6 e4 hz4
      generalize w6.drew = v7 at qr7 qx7 qz7 qe7 hb7 hz7 ⊢
      refine wpAnyH_seg (by kernel_rfl) (fun _ _ _ _ _ h => h) hb7 3 11 0 _ _ (by decide) (by kernel_rfl) ?_
      simp only [List.drop_zero, List.take_succ_cons, List.take_zero]
      iterate 11 ((refine' wpTake_cons (by rfl) (fun W hW => ?_) ?_); rotate_left; (obtain ⟨x0, x1, x2⟩ := HX.out W hW; clear hW; go_simp; with_reducible rfl); simp only [Act.put, List.setIfInBounds_toArray, List.set_cons_zero, List.set_cons_succ])
      refine wpTake_nil ?_
      refine wpAnyH_two 11 12 (by kernel_rfl) rfl rfl (fun K hK => ?_) (fun K hK => ?_)
      · rw [if_pos (by rfl)]
        go_simp
        go_at_call 30
        (with_reducible refine (law5_read_nil _ _ _).mono ?_); rintro e w8 ⟨⟨kk, rfl⟩, b8⟩
        go_wp2_with fail
        have hb8 : Below w.heap.size w w8 := hb7.trans (b8.mono hz7)
        refine hK.out _ _ hb8 (fun _ => ?_)
        clear hK K
        (try simp only [Act.put, List.setIfInBounds_toArray, List.set_cons_zero, List.set_cons_succ])
        refine wpAnyH_one 12 (by kernel_rfl) rfl (fun K hK => ?_)
        rw [if_pos (by rfl)]
        go_simp
        have hO : (w8.alloc (.cells #[.int .i64 0, .int .i64 0, .string ⟨#[]⟩] 48)).heap[w8.heap.size]? = some (.cells #[.int .i64 0, .int .i64 0, .string ⟨#[]⟩] 48 (0, 0)) := heap_alloc_new _ _
        have hz8 := hb8.size
        have hz9 := b8.size
        refine hK.out _ _ (below_alloc' _ hb8) (fun hb9 => ?_)
        clear hK K
        (try simp only [Act.put, List.setIfInBounds_toArray, List.set_cons_zero, List.set_cons_succ])
        have qr9 := (qr7.below b8).alloc' (.cells #[.int .i64 kk, .int .i64 0, .string ⟨#[]⟩] 48)
        have qx9 := (qx7.below b8).alloc' (.cells #[.int .i64 kk, .int .i64 0, .string ⟨#[]⟩] 48)
        have qz9 := (qz7.below b8).alloc' (.cells #[.int .i64 kk, .int .i64 0, .string ⟨#[]⟩] 48)
        have qe9 := (qe7.below b8).alloc' (.cells #[.int .i64 kk, .int .i64 0, .string ⟨#[]⟩] 48)
        have ff := box_free hO
        have fc := box_cells hO
        have hO9 := heap_alloc_new w8 (.cells #[.int .i64 kk, .int .i64 0, .string ⟨#[]⟩] 48)
        have y1 := box_cells hO9 1
        have y2 := box_cells hO9 2
        refine wpAnyH_one 13 (by kernel_rfl) rfl (fun K hK => ?_)
        rw [if_pos (by rfl)]
        go_simp
        clear ff fc
        have hbA := below_alloc' (.cells #[.int .i64 kk, .int .i64 0, .string ⟨#[]⟩] 48) hb8
        refine hK.out _ _ hbA (fun _ => ?_)
        clear hK K
        (try simp only [Act.put, List.setIfInBounds_toArray, List.set_cons_zero, List.set_cons_succ])
        refine wpAnyH_done (by kernel_rfl) ?_ _
        refine NoPanic.normal ?_
        go_wp2_with (first
          | (go_at_call 32; with_reducible refine (pack_Err_nil _).mono ?_; rintro e wa ⟨rfl, rfl⟩)
          | (go_at_call 34; with_reducible refine (pack_End_nil _).mono ?_; rintro e wa ⟨rfl, rfl⟩)
          | (go_at_call 33; with_reducible refine (pack_Left_nil _).mono ?_; rintro e wa ⟨rfl, rfl⟩))
        exact ⟨⟨k + 1, by omega, by go_num, by rw [HP1.out]; exact qr9, by rw [HP1.out]; exact qx9, by rw [HP2.out]; exact qz9, by rw [HP2.out]; exact qe9, hbA⟩, by simp [intOf]; omega⟩
      · rw [if_pos (by rfl)]
        go_simp
        have hO0 : (v7.alloc (.cells #[.int .i64 0, .int .i64 0, .string ⟨#[]⟩] 48)).heap[v7.heap.size]? = some (.cells #[.int .i64 0, .int .i64 0, .string ⟨#[]⟩] 48 (0, 0)) := heap_alloc_new _ _
        have hb8 := below_alloc' (.cells #[.int .i64 0, .int .i64 0, .string ⟨#[]⟩] 48) hb7
        refine hK.out _ _ hb8 (fun _ => ?_)
        clear hK K
        (try simp only [Act.put, List.setIfInBounds_toArray, List.set_cons_zero, List.set_cons_succ])
        refine wpAnyH_one 11 (by kernel_rfl) rfl (fun K hK => ?_)
        rw [if_pos (by rfl)]
        go_simp
        go_at_call 30
        (with_reducible refine (law5_read_nil _ _ _).mono ?_); rintro e w8 ⟨⟨kk, rfl⟩, b8⟩
        go_wp2_with fail
        have hb9 : Below w.heap.size w w8 := hb8.trans (b8.mono hb8.size)
        have hO := kept hO0 b8
        refine hK.out _ _ hb9 (fun hb9 => ?_)
        clear hK K
        (try simp only [Act.put, List.setIfInBounds_toArray, List.set_cons_zero, List.set_cons_succ])
        have qr9 := ((qr7.alloc' (.cells #[.int .i64 0, .int .i64 0, .string ⟨#[]⟩] 48)).below b8).st3 (B := v7.heap.size) (by have := qr7.lt; omega) (.int .i64 kk) (.int .i64 0) (.string ⟨#[]⟩)
        have qx9 := ((qx7.alloc' (.cells #[.int .i64 0, .int .i64 0, .string ⟨#[]⟩] 48)).below b8).st3 (B := v7.heap.size) (by have := qx7.lt; omega) (.int .i64 kk) (.int .i64 0) (.string ⟨#[]⟩)
        have qz9 := ((qz7.alloc' (.cells #[.int .i64 0, .int .i64 0, .string ⟨#[]⟩] 48)).below b8).st3 (B := v7.heap.size) (by have := qz7.lt; omega) (.int .i64 kk) (.int .i64 0) (.string ⟨#[]⟩)
        have qe9 := ((qe7.alloc' (.cells #[.int .i64 0, .int .i64 0, .string ⟨#[]⟩] 48)).below b8).st3 (B := v7.heap.size) (by have := qe7.lt; omega) (.int .i64 kk) (.int .i64 0) (.string ⟨#[]⟩)
        have ff := box_free hO
        have fc := box_cells hO
        have hO9 := box_set3 hO (.int .i64 kk) (.int .i64 0) (.string ⟨#[]⟩)
        have y1 := box_cells hO9 1
        have y2 := box_cells hO9 2
        refine wpAnyH_one 13 (by kernel_rfl) rfl (fun K hK => ?_)
        rw [if_pos (by rfl)]
        go_simp
        clear ff fc
        have hbA := below_st3 hb9 (B := v7.heap.size) (by omega) (.int .i64 kk) (.int .i64 0) (.string ⟨#[]⟩)
        refine hK.out _ _ hbA (fun _ => ?_)
        clear hK K
        (try simp only [Act.put, List.setIfInBounds_toArray, List.set_cons_zero, List.set_cons_succ])
        refine wpAnyH_done (by kernel_rfl) ?_ _
        refine NoPanic.normal ?_
        go_wp2_with (first
          | (go_at_call 32; with_reducible refine (pack_Err_nil _).mono ?_; rintro e wa ⟨rfl, rfl⟩)
          | (go_at_call 34; with_reducible refine (pack_End_nil _).mono ?_; rintro e wa ⟨rfl, rfl⟩)
          | (go_at_call 33; with_reducible refine (pack_Left_nil _).mono ?_; rintro e wa ⟨rfl, rfl⟩))
        exact ⟨⟨k + 1, by omega, by go_num, by rw [HP1.out]; exact qr9, by rw [HP1.out]; exact qx9, by rw [HP2.out]; exact qz9, by rw [HP2.out]; exact qe9, hbA⟩, by simp [intOf]; omega⟩
    · obtain rfl : k = l.length := by omega
      clear qr qx qz qe
      go_wp2_with (go_at_call 25; refine (law05_awake _).mono ?_; rintro e w3 ⟨rfl, b3⟩)
      go_ret
      exact ⟨rfl, by (repeat (first | assumption | exact Below.refl _ _ | refine below_step (by assumption) ?_ | refine below_alloc' _ ?_ | refine below_drewN ?_ _ | refine Below.drew ?_))⟩
theorem law05_PackReads (s : ByteArray) (a : SlP) (hs : s.size ≤ maxLen) (w : World) (ha : a.Ok w) :
    Calls Try.prog 7 #[.string s, .slice a.A a.l.length a.c] w fun e w' => e = .returned (.bool true) ∧ Below w.heap.size w w' := by
  by_cases h : 1024 < s.size ∨ 40 < a.l.length
  · exact law05_PackReads_many s a.A a.c a.l hs ha.1 h w
  · exact law05_PackReads_few s a.A a.c a.l (by omega) (by omega) w ha.2.2.2
end Go.Proofs.Ytkhnmdmpkedifaa
