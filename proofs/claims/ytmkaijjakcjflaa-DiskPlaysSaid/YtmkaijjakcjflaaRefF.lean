/- The document's disk (layer 7): Do, where it is done. -/
import Derived.Test.YtmkaijjakcjflaaRefE
namespace Go.Proofs.Ytmkaijjakcjflaa
open Go.ChangeShapes Go.WideShapes Go.ChangeAt Go.RowKit Go.Deep DiskP

/-- two operations may come up -/
theorem wpAnyH_two {P : Program} {md : Region.Mode} {Q : Exit → Act → World → Prop} {S : World → Prop} {l : List Oper} {o o' : Oper} (i j : Nat) {f : Nat} {listed : Array Bool} {a : Act} {w : World} (hr : Region.ready md l.toArray listed = [i, j]) (ho : (l.drop i).head? = some o) (ho' : (l.drop j).head? = some o')
    (h : ∀ K' : Act → World → Prop, Shut (∀ a w, S w → (S w → wpAnyH P md l.toArray Q S f (listed.setIfInBounds i true) a w) → K' a w) → if Region.wanted o (yielded l.toArray a.tmps) = true then Oper.wp P o a w K' Q else K' (a.put o.dst undef) w)
    (h' : ∀ K' : Act → World → Prop, Shut (∀ a w, S w → (S w → wpAnyH P md l.toArray Q S f (listed.setIfInBounds j true) a w) → K' a w) → if Region.wanted o' (yielded l.toArray a.tmps) = true then Oper.wp P o' a w K' Q else K' (a.put o'.dst undef) w) : wpAnyH P md l.toArray Q S (f + 1) listed a w :=
  wpAnyH_ready (rs := [i, j]) hr (by simp) (AllReadyH.cons (by rw [List.head?_drop] at ho; simpa using ho) h (AllReadyH.cons (by rw [List.head?_drop] at ho'; simpa using ho') h' AllReadyH.nil))
theorem grown_alloc {u w4 : World} {o : Obj} {b : Option Nat} (h : (u.alloc o).grownBy w4 b) : u.grownBy w4 b :=
  ⟨h.os, h.tape, h.output, by have := h.size; rw [World.size_alloc] at this; omega, fun k hk hne => (h.block k (by rw [World.size_alloc]; omega) hne).trans (heap_alloc_old u _ hk)⟩
theorem app_facts2 {x c : Nat} {A : Option Addr} {S : DS} {u w4 : World} {f : Fl} {v4 : Value} (hd : Rk x A c S u)
    (hown : w4.ownsRow (x + 1) 54 3 v4 (S.fs.length + 1) (S.fs.flatMap fC ++ fC f)) (hgb : u.grownBy w4 (Value.ownBlock (.slice A S.fs.length c))) :
    w4.cell? ⟨x, 0, none⟩ = some (.slice A S.fs.length c) ∧ w4.frozen? ⟨x, 0, none⟩ = false ∧ ∃ g4 c4, v4 = .slice (some ⟨g4, 0, none⟩) (S.fs.length + 1) c4 ∧ Rk x (some ⟨g4, 0, none⟩) c4 { S with fs := S.fs ++ [f] } (w4.setCell ⟨x, 0, none⟩ (.slice (some ⟨g4, 0, none⟩) (S.fs.length + 1) c4)) ∧ TKeep 54 x u (w4.setCell ⟨x, 0, none⟩ (.slice (some ⟨g4, 0, none⟩) (S.fs.length + 1) c4)) := by
  have hne : some x ≠ Value.ownBlock (.slice A S.fs.length c) := fun e => by have := (hd.row.lt x e.symm).1; omega
  have hb : w4.heap[x]? = some (.cells #[.slice A S.fs.length c, .int .i64 S.room, .bool S.on, .int .i64 S.fuse, .int .i64 S.ops] 49 (0, 0)) := (hgb.block x hd.lt hne).trans hd.box
  have hl : (S.fs ++ [f]).length = S.fs.length + 1 := by simp
  rcases row_slice hown with ⟨_, h0⟩ | ⟨g4, c4, rfl, _, _, _⟩
  · omega
  refine ⟨bx_cells hb 0, bx_free hb 0, g4, c4, rfl, ⟨?_, ?_⟩, (TKeep.grown hd.row hgb (Nat.le_of_lt hd.lt)).trans (TKeep.set _)⟩
  · rw [hl]; simpa using bx_set hb 0 (.slice (some ⟨g4, 0, none⟩) (S.fs.length + 1) c4)
  · have := dk_row_other (j := 0) hown (.slice (some ⟨g4, 0, none⟩) (S.fs.length + 1) c4)
    simp only [hl]
    simpa [fC] using this

set_option maxRecDepth 100000 in
set_option maxHeartbeats 8000000 in
theorem ref7_Do_ok (x : Nat) (A : Option Addr) (c : Nat) (S : DS) (hS : OkX S) (kind : Int) (h25 : 2 ≤ kind ∧ kind ≤ 5) (s to_ : ByteArray) (hto : to_.size ≤ 1000) (n : Int) (w : World) (h : Rk x A c S w) (hon : S.on = true) (f : Fl) (hf : S.fs[fnd S.fs s]? = some f)
    (hn3 : kind = 3 → namedD to_ = true) (hn5 : kind = 5 → 0 ≤ n ∧ n ≤ (f.all.size : Int)) :
    Calls Try.prog 36 #[.pointer (some ⟨x, 0, none⟩), .int .i64 kind, .string s, .string to_, .int .i64 n] w (RPost x (opD S fun L => doT L kind s to_ n).1 (.int .i64 (opD S fun L => doT L kind s to_ n).2) w) := by
  have hl : S.fs.length ≤ 1000 := by have := hS.many; omega
  have hmany := hS.many
  have HF := Lib.hid (ref7_Find x A c S s hl w h)
  have HN := Lib.hid (ref7_name to_ (by unfold maxLen; omega) w)
  have hHC := ref7_crashes x A c S hon hS.fuse hS.ops w h
  have x2 := bx_cells h.box 2
  have x0 := bx_cells h.box 0
  rw [hon] at x2
  have hlt := h.lt
  have hsure := hS.sure f (List.mem_of_getElem? hf)
  have hU := hS.size
  have hfz := used_mem hf
  have hp := (List.getElem?_eq_some_iff.1 hf).1
  have hfi : fndI S.fs s = ((fnd S.fs s : Nat) : Int) := by unfold fndI; rw [if_pos hp]
  rw [hfi] at HF
  have hdo : doT S.fs kind s to_ n = if kind = 2 then S.fs.set (fnd S.fs s) { f with su := f.all.size } else if kind = 3 then outX (outX S.fs s) to_ ++ [⟨to_, f.all, f.su⟩] else if kind = 4 then outX S.fs s else S.fs.set (fnd S.fs s) ⟨s, f.all.extract 0 n.toNat, min f.su n.toNat⟩ := by unfold doT; rw [hf]
  unfold opD
  simp only
  rw [hdo]
  have hbs := fs_of_blow S
  obtain ⟨B1, B2, hB⟩ : ∃ B1 B2, blow S = (B1, B2) := ⟨_, _, rfl⟩
  rw [hB] at hHC hbs ⊢
  simp only at hHC hbs ⊢
  obtain ⟨p, hpp⟩ : ∃ p, fnd S.fs s = p := ⟨_, rfl⟩
  rw [hpp] at HF hf hp ⊢
  obtain ⟨g, rfl, hxg, hgl⟩ := row_some' h.row (by omega)
  obtain ⟨on', hon'⟩ : ∃ o, B1.on = o := ⟨_, rfl⟩
  obtain ⟨fu', hfu'⟩ : ∃ o, B1.fuse = o := ⟨_, rfl⟩
  obtain ⟨op', hop'⟩ : ∃ o, B1.ops = o := ⟨_, rfl⟩
  rw [hon', hfu', hop'] at hbs
  subst hbs
  clear hon' hfu' hop'
  simp only at hHC ⊢
  obtain ⟨T, hT⟩ : ∃ T : DS, (⟨S.fs, S.room, S.made, on', fu', op'⟩ : DS) = T := ⟨_, rfl⟩
  have hTf : T.fs = S.fs := by rw [← hT]
  have hTt : ∀ L, (⟨L, S.room, S.made, on', fu', op'⟩ : DS) = { T with fs := L } := fun L => by rw [← hT]
  rw [hT] at hHC ⊢
  simp only [hTt]
  have HC := Lib.hid hHC
  have hx1 := h.row.cells (g := g) rfl (p * 3) (.string f.nm) (by have := fC_at _ p f hf 0 (by omega); rw [Nat.add_zero] at this; rw [this]; rfl)
  have hx2 := h.row.cells (g := g) rfl (p * 3 + 1) (.string f.all) (by rw [fC_at _ p f hf 1 (by omega)]; rfl)
  have hx3 := h.row.cells (g := g) rfl (p * 3 + 2) (.int .i64 (f.su : Int)) (by rw [fC_at _ p f hf 2 (by omega)]; rfl)
  rw [fl_add_0] at hx1 hx2 hx3
  have HZ := Lib.hid (fun (W : World) (hd : Rk x (some ⟨g, 0, none⟩) c T W) => And.intro (hTf ▸ bx_cells hd.box 0 : W.cell? ⟨x, 0, none⟩ = #[.slice (some ⟨g, 0, none⟩) S.fs.length c, .int .i64 T.room, .bool T.on, .int .i64 T.fuse, .int .i64 T.ops][0]?) (And.intro ((by
      have := hd.row.cells (g := g) rfl (p * 3) (.string f.nm) (by rw [hTf]; have := fC_at _ p f hf 0 (by omega); rw [Nat.add_zero] at this; rw [this]; rfl)
      rwa [fl_add_0] at this : W.cell? ⟨g, p * 3, none⟩ = some (.string f.nm))) (And.intro ((by
      have := hd.row.cells (g := g) rfl (p * 3 + 1) (.string f.all) (by rw [hTf, fC_at _ p f hf 1 (by omega)]; rfl)
      rwa [fl_add_0] at this : W.cell? ⟨g, p * 3 + 1, none⟩ = some (.string f.all))) ((by
      have := hd.row.cells (g := g) rfl (p * 3 + 2) (.int .i64 (f.su : Int)) (by rw [hTf, fC_at _ p f hf 2 (by omega)]; rfl)
      rwa [fl_add_0] at this : W.cell? ⟨g, p * 3 + 2, none⟩ = some (.int .i64 (f.su : Int)))))))
  have hi1 : (p : Int) < (S.fs.length : Int) := by omega
  have HTF := Lib.hid hTf
  have HFK := Lib.hid hf
  clear hHC hB hdo hfi hpp hT hTt hTf h hS hf
  cases B2 with
  | true =>
    simp only [if_true]
    by_cases h2 : kind = 2
    · subst h2
      go_enter Try.func36, Try.ntmps36
      go_wp2_with (first | (go_at_call 39; (with_reducible refine (HF.out).mono ?_); rintro e w1 ⟨rfl, rfl⟩) | (go_at_call 52; (with_reducible refine (HN.out).mono ?_); rintro e w1 ⟨rfl, rfl⟩) | (go_at_call 53; (with_reducible refine (HC.out).mono ?_); rintro e w6 ⟨rfl, hd6, k6⟩; obtain ⟨z0, z1, z2, z3⟩ := HZ.out _ hd6))
      go_ret
      exact ⟨rfl, _, _, hd6, k6⟩
    · by_cases h3 : kind = 3
      · subst h3
        rw [hn3 rfl] at HN
        go_enter Try.func36, Try.ntmps36
        go_wp2_with (first | (go_at_call 39; (with_reducible refine (HF.out).mono ?_); rintro e w1 ⟨rfl, rfl⟩) | (go_at_call 52; (with_reducible refine (HN.out).mono ?_); rintro e w1 ⟨rfl, rfl⟩) | (go_at_call 53; (with_reducible refine (HC.out).mono ?_); rintro e w6 ⟨rfl, hd6, k6⟩; obtain ⟨z0, z1, z2, z3⟩ := HZ.out _ hd6))
        go_ret
        exact ⟨rfl, _, _, hd6, k6⟩
      · by_cases h4 : kind = 4
        · subst h4
          go_enter Try.func36, Try.ntmps36
          go_wp2_with (first | (go_at_call 39; (with_reducible refine (HF.out).mono ?_); rintro e w1 ⟨rfl, rfl⟩) | (go_at_call 52; (with_reducible refine (HN.out).mono ?_); rintro e w1 ⟨rfl, rfl⟩) | (go_at_call 53; (with_reducible refine (HC.out).mono ?_); rintro e w6 ⟨rfl, hd6, k6⟩; obtain ⟨z0, z1, z2, z3⟩ := HZ.out _ hd6))
          go_ret
          exact ⟨rfl, _, _, hd6, k6⟩
        · obtain rfl : kind = 5 := by omega
          obtain ⟨q1, q2⟩ := hn5 rfl
          go_enter Try.func36, Try.ntmps36
          go_wp2_with (first | (go_at_call 39; (with_reducible refine (HF.out).mono ?_); rintro e w1 ⟨rfl, rfl⟩) | (go_at_call 52; (with_reducible refine (HN.out).mono ?_); rintro e w1 ⟨rfl, rfl⟩) | (go_at_call 53; (with_reducible refine (HC.out).mono ?_); rintro e w6 ⟨rfl, hd6, k6⟩; obtain ⟨z0, z1, z2, z3⟩ := HZ.out _ hd6))
          go_ret
          exact ⟨rfl, _, _, hd6, k6⟩
  | false =>
    have HSET := Lib.hid (fun (W : World) (hd : Rk x (some ⟨g, 0, none⟩) c T W) => hd.set_file (k := p) (f := f) (f' := { f with su := f.all.size }) (r := 2) (u := .int .i64 (f.all.size : Nat)) (by rw [HTF.out]; exact HFK.out) (by omega) rfl)
    by_cases h2 : kind = 2
    · subst h2
      simp only [if_true]
      go_enter Try.func36, Try.ntmps36
      go_wp2_with (first | (go_at_call 39; (with_reducible refine (HF.out).mono ?_); rintro e w1 ⟨rfl, rfl⟩) | (go_at_call 52; (with_reducible refine (HN.out).mono ?_); rintro e w1 ⟨rfl, rfl⟩) | (go_at_call 53; (with_reducible refine (HC.out).mono ?_); rintro e w6 ⟨rfl, hd6, k6⟩; obtain ⟨z0, z1, z2, z3⟩ := HZ.out _ hd6))
      (have hlt6 := hd6.lt; have hd7 := hd6.kept (alloc_kept w6 (.cells #[.string f.nm, .string f.all, .int .i64 (f.su : Int)] 54)); have hk7 := k6.trans (TKeep.of_below (T := 54) (d := x) (alloc_kept w6 (.cells #[.string f.nm, .string f.all, .int .i64 (f.su : Int)] 54)) (Nat.le_of_lt hlt6)); have hb7 := heap_alloc_new w6 (.cells #[.string f.nm, .string f.all, .int .i64 (f.su : Int)] 54); have hs7 : w6.heap.size + 1 = (w6.alloc (.cells #[.string f.nm, .string f.all, .int .i64 (f.su : Int)] 54)).heap.size := (World.size_alloc w6 _).symm; clear z0 z1 z2 z3; generalize w6.alloc (.cells #[.string f.nm, .string f.all, .int .i64 (f.su : Int)] 54) = W7 at hd7 hk7 hb7 hs7 ⊢)
      obtain ⟨z0, z1, z2, z3⟩ := HZ.out _ hd7
      have y1 := bx_cells hb7 1
      have z4 := hd7.row.frozenAt (p * 3 + 2)
      refine wp_region_quiet_tail 10 (by kernel_rfl) (by kernel_rfl) ?_
      simp only [List.take_succ_cons, List.take_zero, List.drop_succ_cons, List.drop_zero]
      repeat (go_big_quiet_step (fail))
      refine wpQuiet_nil ?_
      rintro _ ⟨n2, rfl⟩
      obtain ⟨hd8, hk8⟩ := HSET.out (W7.drewN n2) ⟨hd7.box, hd7.row⟩
      have hk9 := (hk7.trans (TKeep.of_below (T := 54) (d := x) (below_drewN (Below.refl _ W7) n2) (Nat.le_of_lt hd7.lt))).trans hk8
      rw [HTF.out] at hd8
      go_wp2_with fail
      go_ret
      exact ⟨rfl, _, _, hd8, hk9⟩
    · by_cases h3 : kind = 3
      · subst h3
        rw [hn3 rfl] at HN
        simp only [show ¬ (3 : Int) = 2 by decide, if_false, if_true]
        have HW := Lib.hid (fun (W : World) (hd : Rk x (some ⟨g, 0, none⟩) c T W) => ref7_without' x _ c T (by rw [HTF.out]; exact hl) s W hd)
        rw [HTF.out] at HW
        obtain ⟨L1, hL1⟩ : ∃ L1, outX S.fs s = L1 := ⟨_, rfl⟩
        have hl1 : L1.length ≤ 64 := by have := outX_len S.fs s; rw [hL1] at this; omega
        rw [hL1] at HW ⊢
        have HW2 := Lib.hid (fun (W : World) (A1 : Option Addr) (c1 : Nat) (hd : Rk x A1 c1 { T with fs := L1 } W) => ref7_without' x A1 c1 { T with fs := L1 } (by simp only; omega) to_ W hd)
        simp only at HW2
        obtain ⟨L2, hL2⟩ : ∃ L2, outX L1 to_ = L2 := ⟨_, rfl⟩
        have hl2 : L2.length ≤ 64 := by have := outX_len L1 to_; rw [hL2] at this; omega
        rw [hL2] at HW2 ⊢
        obtain ⟨i0, hi, hz0, hz1, hz2⟩ := info_parts' info_rfile
        have HI := Lib.hid (And.intro hi (And.intro hz0 (And.intro hz1 hz2)))
        clear hL1 hL2 hi hz0 hz1 hz2
        go_enter Try.func36, Try.ntmps36
        go_wp2_with (first | (go_at_call 39; (with_reducible refine (HF.out).mono ?_); rintro e w1 ⟨rfl, rfl⟩) | (go_at_call 52; (with_reducible refine (HN.out).mono ?_); rintro e w1 ⟨rfl, rfl⟩) | (go_at_call 53; (with_reducible refine (HC.out).mono ?_); rintro e w6 ⟨rfl, hd6, k6⟩; obtain ⟨z0, z1, z2, z3⟩ := HZ.out _ hd6))
        (have hlt6 := hd6.lt; have hd7 := hd6.kept (alloc_kept w6 (.cells #[.string f.nm, .string f.all, .int .i64 (f.su : Int)] 54)); have hk7 := k6.trans (TKeep.of_below (T := 54) (d := x) (alloc_kept w6 (.cells #[.string f.nm, .string f.all, .int .i64 (f.su : Int)] 54)) (Nat.le_of_lt hlt6)); have hb7 := heap_alloc_new w6 (.cells #[.string f.nm, .string f.all, .int .i64 (f.su : Int)] 54); have hs7 : w6.heap.size + 1 = (w6.alloc (.cells #[.string f.nm, .string f.all, .int .i64 (f.su : Int)] 54)).heap.size := (World.size_alloc w6 _).symm; clear z0 z1 z2 z3; generalize w6.alloc (.cells #[.string f.nm, .string f.all, .int .i64 (f.su : Int)] 54) = W7 at hd7 hk7 hb7 hs7 ⊢)
        (with_reducible refine (HW.out _ hd7).mono ?_); rintro e w8 ⟨rfl, A8, c8, hd8, k8, _⟩
        have hk8 := hk7.trans (TKeep.of_rkeep (T := 54) k8)
        have hb8 := (k8.others w6.heap.size hlt6 (by omega) (by simp)).trans hb7
        have hs8 := k8.below.size
        go_wp2_with fail
        (with_reducible refine (HW2.out _ _ _ hd8).mono ?_); rintro e w9 ⟨rfl, A9, c9, hd9, k9, hfr9⟩
        have hk9 := hk8.trans (TKeep.of_rkeep (T := 54) k9)
        have hb9 := (k9.others w6.heap.size hlt6 (by omega) (by simp)).trans hb8
        have hs9 := k9.below.size
        go_wp2_with fail
        refine wp_region_noPanic ?_
        refine wp_region_held_drew (S := fun W => W.cell? ⟨w6.heap.size, 1, none⟩ = some (.string f.all) ∧ W.cell? ⟨w6.heap.size, 2, none⟩ = some (.int .i64 (f.su : Int))) (by kernel_rfl) ⟨bx_cells hb9 1, bx_cells hb9 2⟩ (fun hS0 => ?_)
        have hd9' : Rk x A9 c9 { T with fs := L2 } w9.drew := ⟨hd9.box, hd9.row⟩
        have hb9' : w9.drew.heap[w6.heap.size]? = some (.cells #[.string f.nm, .string f.all, .int .i64 (f.su : Int)] 54 (0, 0)) := hb9
        have hkA := hk9.trans (TKeep.of_below (T := 54) (d := x) (Below.refl _ w9).drew (Nat.le_of_lt hd9.lt))
        have hs9' : w6.heap.size < w9.drew.heap.size := by show w6.heap.size < w9.heap.size; omega
        generalize w9.drew = v0 at hd9' hb9' hkA hs9' hS0 ⊢
        have hbne : some w6.heap.size ≠ Value.ownBlock (.slice A9 L2.length c9) := fun e => by have := hfr9 _ e.symm; omega
        clear hd7 hk7 hb7 hs7 hd8 k8 hk8 hb8 hs8 hd9 k9 hk9 hb9 hs9
        refine wpAnyH_seg (by kernel_rfl) (fun _ _ _ _ _ h => h) hS0 12 4 0 _ _ (by decide) (by kernel_rfl) ?_
        simp only [List.drop_zero, List.take_succ_cons, List.take_zero]
        ((iterate 4 ((refine' wpTake_cons (by rfl) (fun W hW => ?_) ?_); rotate_left; (skip; go_simp; with_reducible rfl); simp only [Act.put, List.setIfInBounds_toArray, List.set_cons_zero, List.set_cons_succ])); refine wpTake_nil ?_)
        refine wpAnyH_seg (by kernel_rfl) (fun _ _ _ _ _ h => h) hS0 6 6 5 _ _ (by decide) (by kernel_rfl) ?_
        simp only [List.drop_succ_cons, List.drop_zero, List.take_succ_cons, List.take_zero]
        ((iterate 6 ((refine' wpTake_cons (by rfl) (fun W hW => ?_) ?_); rotate_left; (obtain ⟨y1, y2⟩ := hW; go_simp; with_reducible rfl); simp only [Act.put, List.setIfInBounds_toArray, List.set_cons_zero, List.set_cons_succ])); refine wpTake_nil ?_)
        refine wpAnyH_two 4 11 (by kernel_rfl) rfl rfl (fun K hK => ?_) (fun K hK => ?_)
        · rw [if_pos (by rfl)]
          have y0 := bx_cells hd9'.box 0
          go_simp
          refine hK.out _ _ hS0 (fun _ => ?_)
          clear hK K
          (try simp only [Act.put, List.setIfInBounds_toArray, List.set_cons_zero, List.set_cons_succ])
          refine wpAnyH_one 11 (by kernel_rfl) rfl (fun K hK => ?_)
          rw [if_pos (by rfl)]
          go_simp
          have hb10 := (Below.heap_alloc v0 (.cells #[.string to_, .string f.all, .int .i64 (f.su : Int)] 54) _ hs9').trans hb9'
          refine hK.out _ _ ⟨bx_cells hb10 1, bx_cells hb10 2⟩ (fun _ => ?_)
          clear hK K hb10
          (try simp only [Act.put, List.setIfInBounds_toArray, List.set_cons_zero, List.set_cons_succ])
          (refine wpAnyH_one 12 (by kernel_rfl) rfl (fun K hK => ?_); rw [if_pos (by rfl)]; refine wp_append_own _ (.tmp 88) (.tmp 95) 47 rfl (x + 1) 54 i0 _ 3 40 Try.underlying47 HI.out.1 HI.out.2.1 HI.out.2.2.1 HI.out.2.2.2 rfl (by decide) (.slice A9 L2.length c9) L2.length _ (by rfl) (hd9'.row.alloc _) ⟨v0.heap.size, 0, none⟩ 1 1 [.string to_, .string f.all, .int .i64 (f.su : Int)] (by rfl) rfl (World.news_of_block (heap_alloc_new v0 _)) (by simp [Value.oneCell']) (by unfold maxLen; omega) (by omega) (by rw [World.size_alloc]; have := hd9'.lt; omega) ?_; intro v4 w4 ho4 hg4 _; obtain ⟨u0, u1, g4, c4, rfl, hd5, hk5⟩ := app_facts2 (f := ⟨to_, f.all, f.su⟩) hd9' ho4 (grown_alloc hg4); have hb4 := ((grown_alloc hg4).block w6.heap.size hs9' hbne).trans hb9'; have hS4 := And.intro (bx_cells hb4 1) (bx_cells hb4 2); refine hK.out _ _ hS4 (fun _ => ?_); clear hK K; (try simp only [Act.put, List.setIfInBounds_toArray, List.set_cons_zero, List.set_cons_succ]); refine wpAnyH_one 13 (by kernel_rfl) rfl (fun K hK => ?_); rw [if_pos (by rfl)]; go_simp; refine hK.out _ _ hS4 (fun _ => ?_); clear hK K; (try simp only [Act.put, List.setIfInBounds_toArray, List.set_cons_zero, List.set_cons_succ]); refine wpAnyH_one 14 (by kernel_rfl) rfl (fun K hK => ?_); rw [if_pos (by rfl)]; go_simp; refine hK.out _ _ hS4 (fun _ => ?_); clear hK K; (try simp only [Act.put, List.setIfInBounds_toArray, List.set_cons_zero, List.set_cons_succ]); have hS5 := And.intro (bx_cells ((heap_setCell_other w4 ⟨x, 0, none⟩ w6.heap.size (.slice (some ⟨g4, 0, none⟩) (L2.length + 1) c4) (by show w6.heap.size ≠ x; omega)).trans hb4) 1) (bx_cells ((heap_setCell_other w4 ⟨x, 0, none⟩ w6.heap.size (.slice (some ⟨g4, 0, none⟩) (L2.length + 1) c4) (by show w6.heap.size ≠ x; omega)).trans hb4) 2); refine wpAnyH_one 15 (by kernel_rfl) rfl (fun K hK => ?_); rw [if_pos (by rfl)]; go_simp; refine hK.out _ _ hS5 (fun _ => ?_); clear hK K; (try simp only [Act.put, List.setIfInBounds_toArray, List.set_cons_zero, List.set_cons_succ]); refine wpAnyH_done (by kernel_rfl) ?_ _; refine NoPanic.normal ?_; go_wp2_with fail; go_ret; exact ⟨rfl, _, _, hd5, hkA.trans hk5⟩)
        · rw [if_pos (by rfl)]
          go_simp
          have hb10 := (Below.heap_alloc v0 (.cells #[.string to_, .string f.all, .int .i64 (f.su : Int)] 54) _ hs9').trans hb9'
          refine hK.out _ _ ⟨bx_cells hb10 1, bx_cells hb10 2⟩ (fun hS1 => ?_)
          clear hK K
          (try simp only [Act.put, List.setIfInBounds_toArray, List.set_cons_zero, List.set_cons_succ])
          have y0 := bx_cells ((Below.heap_alloc v0 (.cells #[.string to_, .string f.all, .int .i64 (f.su : Int)] 54) _ hd9'.lt).trans hd9'.box) 0
          refine wpAnyH_one 4 (by kernel_rfl) rfl (fun K hK => ?_)
          rw [if_pos (by rfl)]
          go_simp
          refine hK.out _ _ hS1 (fun _ => ?_)
          clear hK K hb10
          (try simp only [Act.put, List.setIfInBounds_toArray, List.set_cons_zero, List.set_cons_succ])
          (refine wpAnyH_one 12 (by kernel_rfl) rfl (fun K hK => ?_); rw [if_pos (by rfl)]; refine wp_append_own _ (.tmp 88) (.tmp 95) 47 rfl (x + 1) 54 i0 _ 3 40 Try.underlying47 HI.out.1 HI.out.2.1 HI.out.2.2.1 HI.out.2.2.2 rfl (by decide) (.slice A9 L2.length c9) L2.length _ (by rfl) (hd9'.row.alloc _) ⟨v0.heap.size, 0, none⟩ 1 1 [.string to_, .string f.all, .int .i64 (f.su : Int)] (by rfl) rfl (World.news_of_block (heap_alloc_new v0 _)) (by simp [Value.oneCell']) (by unfold maxLen; omega) (by omega) (by rw [World.size_alloc]; have := hd9'.lt; omega) ?_; intro v4 w4 ho4 hg4 _; obtain ⟨u0, u1, g4, c4, rfl, hd5, hk5⟩ := app_facts2 (f := ⟨to_, f.all, f.su⟩) hd9' ho4 (grown_alloc hg4); have hb4 := ((grown_alloc hg4).block w6.heap.size hs9' hbne).trans hb9'; have hS4 := And.intro (bx_cells hb4 1) (bx_cells hb4 2); refine hK.out _ _ hS4 (fun _ => ?_); clear hK K; (try simp only [Act.put, List.setIfInBounds_toArray, List.set_cons_zero, List.set_cons_succ]); refine wpAnyH_one 13 (by kernel_rfl) rfl (fun K hK => ?_); rw [if_pos (by rfl)]; go_simp; refine hK.out _ _ hS4 (fun _ => ?_); clear hK K; (try simp only [Act.put, List.setIfInBounds_toArray, List.set_cons_zero, List.set_cons_succ]); refine wpAnyH_one 14 (by kernel_rfl) rfl (fun K hK => ?_); rw [if_pos (by rfl)]; go_simp; refine hK.out _ _ hS4 (fun _ => ?_); clear hK K; (try simp only [Act.put, List.setIfInBounds_toArray, List.set_cons_zero, List.set_cons_succ]); have hS5 := And.intro (bx_cells ((heap_setCell_other w4 ⟨x, 0, none⟩ w6.heap.size (.slice (some ⟨g4, 0, none⟩) (L2.length + 1) c4) (by show w6.heap.size ≠ x; omega)).trans hb4) 1) (bx_cells ((heap_setCell_other w4 ⟨x, 0, none⟩ w6.heap.size (.slice (some ⟨g4, 0, none⟩) (L2.length + 1) c4) (by show w6.heap.size ≠ x; omega)).trans hb4) 2); refine wpAnyH_one 15 (by kernel_rfl) rfl (fun K hK => ?_); rw [if_pos (by rfl)]; go_simp; refine hK.out _ _ hS5 (fun _ => ?_); clear hK K; (try simp only [Act.put, List.setIfInBounds_toArray, List.set_cons_zero, List.set_cons_succ]); refine wpAnyH_done (by kernel_rfl) ?_ _; refine NoPanic.normal ?_; go_wp2_with fail; go_ret; exact ⟨rfl, _, _, hd5, hkA.trans hk5⟩)
      · by_cases h4 : kind = 4
        · subst h4
          simp only [show ¬ (4 : Int) = 2 by decide, show ¬ (4 : Int) = 3 by decide, if_false, if_true]
          have HW := Lib.hid (fun (W : World) (hd : Rk x (some ⟨g, 0, none⟩) c T W) => ref7_without' x _ c T (by rw [HTF.out]; exact hl) s W hd)
          rw [HTF.out] at HW
          go_enter Try.func36, Try.ntmps36
          go_wp2_with (first | (go_at_call 39; (with_reducible refine (HF.out).mono ?_); rintro e w1 ⟨rfl, rfl⟩) | (go_at_call 52; (with_reducible refine (HN.out).mono ?_); rintro e w1 ⟨rfl, rfl⟩) | (go_at_call 53; (with_reducible refine (HC.out).mono ?_); rintro e w6 ⟨rfl, hd6, k6⟩; obtain ⟨z0, z1, z2, z3⟩ := HZ.out _ hd6))
          (have hlt6 := hd6.lt; have hd7 := hd6.kept (alloc_kept w6 (.cells #[.string f.nm, .string f.all, .int .i64 (f.su : Int)] 54)); have hk7 := k6.trans (TKeep.of_below (T := 54) (d := x) (alloc_kept w6 (.cells #[.string f.nm, .string f.all, .int .i64 (f.su : Int)] 54)) (Nat.le_of_lt hlt6)); have hb7 := heap_alloc_new w6 (.cells #[.string f.nm, .string f.all, .int .i64 (f.su : Int)] 54); have hs7 : w6.heap.size + 1 = (w6.alloc (.cells #[.string f.nm, .string f.all, .int .i64 (f.su : Int)] 54)).heap.size := (World.size_alloc w6 _).symm; clear z0 z1 z2 z3; generalize w6.alloc (.cells #[.string f.nm, .string f.all, .int .i64 (f.su : Int)] 54) = W7 at hd7 hk7 hb7 hs7 ⊢)
          (with_reducible refine (HW.out _ hd7).mono ?_); rintro e w8 ⟨rfl, A8, c8, hd8, k8, _⟩
          have hk9 := hk7.trans (TKeep.of_rkeep (T := 54) k8)
          go_wp2_with fail
          go_ret
          exact ⟨rfl, _, _, hd8, hk9⟩
        · obtain rfl : kind = 5 := by omega
          obtain ⟨q1, q2⟩ := hn5 rfl
          simp only [show ¬ (5 : Int) = 2 by decide, show ¬ (5 : Int) = 3 by decide, show ¬ (5 : Int) = 4 by decide, if_false]
          obtain ⟨m, rfl⟩ : ∃ m : Nat, n = (m : Int) := ⟨n.toNat, by omega⟩
          simp only [Int.toNat_natCast]
          obtain ⟨t, ht⟩ : ∃ t, min f.su m = t := ⟨_, rfl⟩
          have hmi : min (f.su : Int) (m : Int) = (t : Int) := by omega
          have HSET5 := Lib.hid (fun (W : World) (hd : Rk x (some ⟨g, 0, none⟩) c T W) => hd.set_file3 (k := p) (f := f) (f' := ⟨s, f.all.extract 0 m, t⟩) (by rw [HTF.out]; exact HFK.out))
          rw [ht]
          clear ht
          go_enter Try.func36, Try.ntmps36
          go_wp2_with (first | (go_at_call 39; (with_reducible refine (HF.out).mono ?_); rintro e w1 ⟨rfl, rfl⟩) | (go_at_call 52; (with_reducible refine (HN.out).mono ?_); rintro e w1 ⟨rfl, rfl⟩) | (go_at_call 53; (with_reducible refine (HC.out).mono ?_); rintro e w6 ⟨rfl, hd6, k6⟩; obtain ⟨z0, z1, z2, z3⟩ := HZ.out _ hd6))
          (have hlt6 := hd6.lt; have hd7 := hd6.kept (alloc_kept w6 (.cells #[.string f.nm, .string f.all, .int .i64 (f.su : Int)] 54)); have hk7 := k6.trans (TKeep.of_below (T := 54) (d := x) (alloc_kept w6 (.cells #[.string f.nm, .string f.all, .int .i64 (f.su : Int)] 54)) (Nat.le_of_lt hlt6)); have hb7 := heap_alloc_new w6 (.cells #[.string f.nm, .string f.all, .int .i64 (f.su : Int)] 54); have hs7 : w6.heap.size + 1 = (w6.alloc (.cells #[.string f.nm, .string f.all, .int .i64 (f.su : Int)] 54)).heap.size := (World.size_alloc w6 _).symm; clear z0 z1 z2 z3; generalize w6.alloc (.cells #[.string f.nm, .string f.all, .int .i64 (f.su : Int)] 54) = W7 at hd7 hk7 hb7 hs7 ⊢)
          obtain ⟨z0, z1, z2, z3⟩ := HZ.out _ hd7
          have y1 := bx_cells hb7 1
          have y2 := bx_cells hb7 2
          have z4 := hd7.row.frozenAt (p * 3)
          have z5 := hd7.row.frozenAt (p * 3 + 1)
          have z6 := hd7.row.frozenAt (p * 3 + 2)
          refine wp_region_quiet_tail 16 (by kernel_rfl) (by kernel_rfl) ?_
          simp only [List.take_succ_cons, List.take_zero, List.drop_succ_cons, List.drop_zero]
          repeat (go_big_quiet_step (fail))
          refine wpQuiet_nil ?_
          rintro _ ⟨n2, rfl⟩
          obtain ⟨hd8, hk8⟩ := HSET5.out (W7.drewN n2) ⟨hd7.box, hd7.row⟩
          have hk9 := (hk7.trans (TKeep.of_below (T := 54) (d := x) (below_drewN (Below.refl _ W7) n2) (Nat.le_of_lt hd7.lt))).trans hk8
          rw [HTF.out] at hd8
          go_wp2_with fail
          go_ret
          exact ⟨rfl, _, _, hd8, hk9⟩
end Go.Proofs.Ytmkaijjakcjflaa
