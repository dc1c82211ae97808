/- Layer 7: DiskPlays. -/
import Derived.Test.YtmkaijjakcjflaaPlay
namespace Go.Proofs.Ytmkaijjakcjflaa
open Go.ChangeShapes Go.WideShapes Go.ChangeAt Go.RowKit Go.Deep DiskP

set_option maxRecDepth 100000 in
set_option maxHeartbeats 80000000 in
theorem law07_DiskPlays_few (room R : Int) (hR : R = max room 0) (hroom : I64 room) (A0 : Option Addr) (c0 : Nat) (l : List Ac) (hok : ∀ x ∈ l, x.Ok) (hf : fewA 40 l) (w : World) (hr : RdA w w.heap.size A0 l) :
    Calls Try.prog 4 #[.int .i64 room, .slice A0 l.length c0] w fun e w' => e = .returned (.bool true) ∧ Below w.heap.size w w' := by
  have HR := Lib.hid hr
  have HF := Lib.hid hf
  have HK := Lib.hid hok
  have hl := hf.1
  unfold I64 at hroom
  have hRR : 0 ≤ R ∧ R ≤ 9223372036854775807 := by omega
  have hmax : max room 0 = R := hR.symm
  have P0 : Calls Try.prog 6 #[.slice A0 l.length c0, .int .i64 40] w fun e w' => e = .returned (.bool true) ∧ Below w.heap.size w w' := ref7_Few_yes A0 c0 l 40 (by decide) hf w hr
  have P1 := fun W => disk_New room W
  have P2 := fun W => ref7_New room W
  simp only [hmax] at P1 P2
  have H0 := Lib.hid P0
  have H1 := Lib.hid P1
  have H2 := Lib.hid P2
  have HI := Lib.hid (new_inv R hRR)
  clear P0 P1 P2 hR hr hok hf
  go_enter Try.func4, Try.ntmps4
  go_wp2_with (first
    | (go_at_call 6; (with_reducible refine (H0.out).mono ?_); rintro e w1 ⟨rfl, b1⟩)
    | (go_at_call 8; (with_reducible refine (H1.out _).mono ?_); rintro e w2 ⟨rfl, d2, b2⟩)
    | (go_at_call 13; (with_reducible refine (H2.out _).mono ?_); rintro e w3 ⟨rfl, x3, b3⟩))
  have hd1 : w.heap.size ≤ w1.heap.size := b1.size
  have hdx := d2.lt
  have hxz := x3.lt
  have q3 : Play w1.heap.size w2.heap.size w3.heap.size (w3.heap.size + 1) ⟨[], R, true, true, -1, 0⟩ ⟨[], R, true, true, -1, 0⟩ ((w3.alloc (.cells #[.slice none 0 0, .int .i64 0, .bool false, .bool false, .int .i64 0, .int .i64 0] 44)).alloc (.cells #[.pointer none, .pointer (some ⟨w3.heap.size, 0, none⟩)] 25)) := by
    refine ⟨⟨none, 0, ((d2.kept b3).kept (alloc_kept w3 _)).kept (alloc_kept _ _)⟩, ⟨none, 0, (x3.kept (alloc_kept w3 _)).kept (alloc_kept _ _)⟩, ⟨0, by omega, ⟨alloc2_0 _ _ _, zd_row _ _⟩⟩, alloc2_1 _ _ _⟩
  have b12 : Below w.heap.size w ((w3.alloc (.cells #[.slice none 0 0, .int .i64 0, .bool false, .bool false, .int .i64 0, .int .i64 0] 44)).alloc (.cells #[.pointer none, .pointer (some ⟨w3.heap.size, 0, none⟩)] 25)) :=
    below_alloc' _ (below_alloc' _ ((b1.trans (b2.mono hd1)).trans (b3.mono (by have := b2.size; omega))))
  obtain ⟨d, hd⟩ : ∃ d, d = w1.heap.size := ⟨_, rfl⟩
  obtain ⟨x, hx⟩ : ∃ x, x = w2.heap.size := ⟨_, rfl⟩
  obtain ⟨z, hz⟩ : ∃ z, z = w3.heap.size := ⟨_, rfl⟩
  obtain ⟨nb, hnb⟩ : ∃ nb, nb = w3.heap.size + 1 := ⟨_, rfl⟩
  rw [← hnb, ← hd, ← hx, ← hz] at q3
  rw [← hz] at b12
  rw [← hd, ← hx] at hdx
  rw [← hx, ← hz] at hxz
  rw [← hd] at hd1
  have hzn : z < nb := by omega
  rw [← hnb, ← hd, ← hx, ← hz]
  clear hd hx hz hnb b1 b2 b3 d2 x3
  go_loopw [8] (fun i wr => ∃ (k : Nat) (S X : DS), k ≤ l.length ∧ i = .int .i64 k ∧ Play d x z nb S X wr ∧ DInv R k k S ∧ Sim S X ∧ Below w.heap.size w wr) (fun i _ => l.length - (intOf i).toNat)
  case atStart => exact ⟨0, _, _, by omega, rfl, q3, HI.out, ⟨rfl, rfl, rfl, rfl, rfl, List.Perm.refl _⟩, b12⟩
  case round =>
    obtain ⟨k, S, X, hk, rfl, hP, hI, hSim, hb⟩ := hrel
    by_cases hlt : k < l.length
    · obtain ⟨a, hk'⟩ : ∃ f, l[k]? = some f := ⟨l[k], List.getElem?_eq_getElem hlt⟩
      obtain ⟨ad, rfl, hadl, y0, y1, y2, y3, y4, y5, yk⟩ := HR.out.below hb k a hk'
      have hx := HK.out a (List.mem_of_getElem? hk')
      have hsm := HF.out.2 a (List.mem_of_getElem? hk')
      have hi0 : (0 : Int) ≤ (k : Int) := by omega
      have hi1 : (k : Int) < (l.length : Int) := by omega
      have hS := hI.ok (by omega) (by omega)
      obtain ⟨hT, -, -⟩ := actD_inv hI a (by have := hsm.1; omega) (by have := hx.n; unfold I64 at this; omega)
      obtain ⟨hs1, hs2⟩ := act_sim hS.sorted hS.sure hSim a
      have hrd : ∀ W, Below w.heap.size w W → Rd W w.heap.size a.Ak (a.ks.map (Value.int .i64)) := fun W hW => by
        obtain ⟨_, _, _, _, _, _, _, _, _, q⟩ := HR.out.below hW k a hk'
        exact q
      have PD := fun W (h : ∃ A c, Dk d A c S W) (hW : Below w.heap.size w W) => h.elim fun A h => h.elim fun c h => law07_do d A c S hS hI.made a hx hsm W h ((hrd W hW).more hd1)
      have PX := fun W (h : ∃ A c, Rk x A c X W) (hW : Below w.heap.size w W) => h.elim fun A h => h.elim fun c h => ref7_Act x A c X (okX_of hSim hS) a hx hsm W h ((hrd W hW).more (by omega))
      obtain ⟨T, v, hTv⟩ : ∃ T v, actD S a = (T, v) := ⟨_, _, rfl⟩
      obtain ⟨Y, v', hYv⟩ : ∃ Y v', actX X a = (Y, v') := ⟨_, _, rfl⟩
      simp only [hTv, hYv] at hT hs1 hs2 PD PX
      subst hs2
      have hY := hs1.is
      obtain ⟨L, hL⟩ : ∃ L, Y.fs = L := ⟨_, rfl⟩
      rw [hL] at hY
      subst hY
      have hT' := hT.ok (by omega) (by omega)
      have HPD := Lib.hid PD
      have HPX := Lib.hid PX
      have HT := Lib.hid hT
      have HSIM := Lib.hid hs1
      have HTO := Lib.hid hT'
      have HX := Lib.hid hx
      have HSM := Lib.hid hsm
      have HCE := Lib.hid (fun (W : World) (hW : Below w.heap.size w W) => by
        obtain ⟨ad', e, _, z0, z1, z2, z3, z4, z5, _⟩ := HR.out.below hW k a hk'
        obtain rfl : ad = ad' := Option.some.inj e
        exact (And.intro z0 (And.intro z1 (And.intro z2 (And.intro z3 (And.intro z4 z5)))) : W.cell? (ad.add (k * 6)) = some (.int .i64 a.kind) ∧ W.cell? ⟨(ad.add (k * 6)).block, (ad.add (k * 6)).off + 1, none⟩ = some (.string a.nm) ∧ W.cell? ⟨(ad.add (k * 6)).block, (ad.add (k * 6)).off + 2, none⟩ = some (.string a.to_)
          ∧ W.cell? ⟨(ad.add (k * 6)).block, (ad.add (k * 6)).off + 3, none⟩ = some (.string a.s) ∧ W.cell? ⟨(ad.add (k * 6)).block, (ad.add (k * 6)).off + 4, none⟩ = some (.int .i64 a.n) ∧ W.cell? ⟨(ad.add (k * 6)).block, (ad.add (k * 6)).off + 5, none⟩ = some (.slice a.Ak a.ks.length a.ck)))
      have hlen : L.length = T.fs.length := by have := hs1.perm.length_eq; simpa using this
      have hmany := hT'.many
      have hN64 : (names T.fs).length ≤ 64 := by unfold names; rw [List.length_map]; exact hmany
      have hnm : namesX L = names T.fs := names_sim hT'.sorted hs1.perm
      have hus : used L = used T.fs := used_perm hs1.perm
      have hsz := hT'.size
      have HN1 := Lib.hid (fun (W : World) (h : ∃ A c, Dk d A c T W) => h.elim fun A h => h.elim fun c h => (disk_Names d A c T (by omega) W h).mono (fun e w' (hp : ∃ A' c', e = .returned (.slice A' T.fs.length c') ∧ w'.ownsRow W.heap.size 9 1 (.slice A' T.fs.length c') T.fs.length (T.fs.map fun f => Value.string f.nm) ∧ Below W.heap.size W w') => (by
        obtain ⟨A', c', rfl, ho, hb⟩ := hp
        refine ⟨A', c', ?_, ?_, hb⟩
        · unfold names; rw [List.length_map]
        · have := Rd.own ho
          unfold names
          rw [List.map_map]
          exact this : ∃ A' c', e = .returned (.slice A' (names T.fs).length c') ∧ Rd w' w'.heap.size A' ((names T.fs).map Value.string) ∧ Below W.heap.size W w')))
      have HN2 := Lib.hid (fun (W : World) (h : ∃ A c, Rk x A c { T with fs := L } W) => h.elim fun A h => h.elim fun c h => (ref7_Names x A c { T with fs := L } (by simp only; omega) W h).mono (fun e w' (hp : ∃ A' c', e = .returned (.slice A' L.length c') ∧ w'.ownsRow W.heap.size 9 1 (.slice A' L.length c') L.length ((namesX L).map Value.string) ∧ Below W.heap.size W w') => (by
        obtain ⟨A', c', rfl, ho, hb⟩ := hp
        refine ⟨A', c', ?_, ?_, hb⟩
        · unfold names; rw [List.length_map, hlen]
        · rw [← hnm]
          exact Rd.own ho : ∃ A' c', e = .returned (.slice A' (names T.fs).length c') ∧ Rd w' w'.heap.size A' ((names T.fs).map Value.string) ∧ Below W.heap.size W w')))
      have HU1 := Lib.hid (fun (W : World) (h : ∃ A c, Dk d A c T W) => h.elim fun A h => h.elim fun c h => disk_Used d A c T (by omega) (by omega) W h)
      have HU2 := Lib.hid (fun (W : World) (h : ∃ A c, Rk x A c { T with fs := L } W) => h.elim fun A h => h.elim fun c h => (hus ▸ ref7_Used x A c { T with fs := L } (by simp only; omega) (by simp only; omega) W h : Calls Try.prog 17 #[.pointer (some ⟨x, 0, none⟩)] W fun e w' => e = .returned (.int .i64 (used T.fs : Nat)) ∧ W = w'))
      have HO1 := Lib.hid (fun (W : World) (h : ∃ A c, Dk d A c T W) => h.elim fun A h => h.elim fun c h => disk_On d A c T W h)
      have HO2 := Lib.hid (fun (W : World) (h : ∃ A c, Dk d A c T W) => h.elim fun A h => h.elim fun c h => disk_Ops d A c T W h)
      have HLEN := Lib.hid hlen
      clear hnm hus hlen
      generalize hNN : names T.fs = N at HN1 HN2 hN64
      generalize hUU : used T.fs = U at HU1 HU2
      clear PD PX hT yk hx hsm hTv hYv hI hS hT' hk' hs1 q3 b12 hrd hSim hL y0 y1 y2 y3 y4 y5
      go_wp2_with fail
      refine wp_region_noPanic ?_
      refine wp_region_held_drew (S := fun W => Below w.heap.size w W) (by kernel_rfl) (Below.drew hb) (fun hb0 => ?_)
      have hP0 : Play d x z nb S X wr.drew := hP.below ((Below.refl _ wr).drew)
      clear hP
      generalize wr.drew = v0 at hP0 hb0 ⊢
      as_aux_lemma =>
        (refine wpAnyH_seg (by kernel_rfl) (fun _ _ _ _ _ h => h) hb0 41 5 0 _ _ (by decide) (by kernel_rfl) ?_; simp only [List.drop_succ_cons, List.drop_zero, List.take_succ_cons, List.take_zero]; ((iterate 5 ((refine' wpTake_cons (by rfl) (fun W hW => ?_) ?_); rotate_left; (obtain ⟨z0_, z1_, z2_, z3_, z4_, z5_⟩ := HCE.out W hW; go_simp; (try simp only [ne_eq, not_true_eq_false, decide_false, Bool.not_true, bne_self_eq_false, beq_self_eq_true, go_sem]); with_reducible rfl); simp only [Act.put, List.setIfInBounds_toArray, List.set_cons_zero, List.set_cons_succ])); refine wpTake_nil ?_))
        (refine wpAnyH_seg (by kernel_rfl) (fun _ _ _ _ _ h => h) hb0 36 5 6 _ _ (by decide) (by kernel_rfl) ?_; simp only [List.drop_succ_cons, List.drop_zero, List.take_succ_cons, List.take_zero]; ((iterate 5 ((refine' wpTake_cons (by rfl) (fun W hW => ?_) ?_); rotate_left; (obtain ⟨z0_, z1_, z2_, z3_, z4_, z5_⟩ := HCE.out W hW; go_simp; (try simp only [ne_eq, not_true_eq_false, decide_false, Bool.not_true, bne_self_eq_false, beq_self_eq_true, go_sem]); with_reducible rfl); simp only [Act.put, List.setIfInBounds_toArray, List.set_cons_zero, List.set_cons_succ])); refine wpTake_nil ?_))
        (refine wpAnyH_one 5 (by kernel_rfl) rfl (fun K hK => ?_); rw [if_pos (by rfl)]; go_simp)
        go_at_call 9
        (with_reducible refine (HPD.out _ hP0.dk hb0).mono ?_); rintro e w2' ⟨rfl, A2, c2, hd2, k2⟩
        go_wp2_with fail
        have hb2 := hb0.trans (k2.below.mono hd1)
        have hP2 := hP0.dstep k2 ⟨A2, c2, hd2⟩ hdx hxz hzn
        refine hK.out _ _ hb2 (fun _ => ?_)
        clear hK K hd2 k2 hP0
        ((try simp only [Act.put, List.setIfInBounds_toArray, List.set_cons_zero, List.set_cons_succ]))
        (refine wpAnyH_one 11 (by kernel_rfl) rfl (fun K hK => ?_); rw [if_pos (by rfl)]; go_simp)
        go_at_call 14
        (with_reducible refine (HPX.out _ hP2.rk hb2).mono ?_); rintro e w3' ⟨rfl, A3, c3, hd3, k3⟩
        go_wp2_with fail
        have hb3 := hb2.trans (k3.below.mono (by omega))
        have hP3 := hP2.rstep k3 ⟨A3, c3, hd3⟩ hdx hxz hzn
        refine hK.out _ _ hb3 (fun _ => ?_)
        clear hK K hd3 k3 hP2 hb2
        ((try simp only [Act.put, List.setIfInBounds_toArray, List.set_cons_zero, List.set_cons_succ]))
        as_aux_lemma =>
          refine wpAnyH_more (S' := fun W => Play d x z nb T { T with fs := L } W ∧ Below w.heap.size w W) (fun W h => h.2) _ _ _ _ ?_
          have hA : (fun W => Play d x z nb T { T with fs := L } W ∧ Below w.heap.size w W) w3' := ⟨hP3, hb3⟩
          simp only at hA
          clear hP3 hb3 HPD HPX
          (refine wpAnyH_seg (by kernel_rfl) (fun _ _ _ _ _ h => h) hA 31 3 12 _ _ (by decide) (by kernel_rfl) ?_; simp only [List.drop_succ_cons, List.drop_zero, List.take_succ_cons, List.take_zero]; ((iterate 3 ((refine' wpTake_cons (by rfl) (fun W hW => ?_) ?_); rotate_left; (skip; go_simp; (try simp only [ne_eq, not_true_eq_false, decide_false, Bool.not_true, bne_self_eq_false, beq_self_eq_true, go_sem]); with_reducible rfl); simp only [Act.put, List.setIfInBounds_toArray, List.set_cons_zero, List.set_cons_succ])); refine wpTake_nil ?_))
          (refine wpAnyH_seg (by kernel_rfl) (fun _ _ _ _ _ h => h) hA 27 4 16 _ _ (by decide) (by kernel_rfl) ?_; simp only [List.drop_succ_cons, List.drop_zero, List.take_succ_cons, List.take_zero]; ((iterate 4 ((refine' wpTake_cons (by rfl) (fun W hW => ?_) ?_); rotate_left; (obtain ⟨⟨_, ⟨A9, c9, hr9⟩, _, _⟩, _⟩ := hW; have m2 := bx_cells hr9.box 2; clear hr9; go_simp; (try simp only [ne_eq, not_true_eq_false, decide_false, Bool.not_true, bne_self_eq_false, beq_self_eq_true, go_sem]); with_reducible rfl); simp only [Act.put, List.setIfInBounds_toArray, List.set_cons_zero, List.set_cons_succ])); refine wpTake_nil ?_))
          (refine wpAnyH_one 15 (by kernel_rfl) rfl (fun K hK => ?_); rw [if_pos (by rfl)]; go_simp)
          go_at_call 11
          (with_reducible refine (HO1.out _ hA.1.dk).mono ?_); rintro e u ⟨rfl, rfl⟩
          go_wp2_with fail
          refine hK.out _ _ hA (fun _ => ?_)
          clear hK K
          ((try simp only [Act.put, List.setIfInBounds_toArray, List.set_cons_zero, List.set_cons_succ]))
          (refine wpAnyH_seg (by kernel_rfl) (fun _ _ _ _ _ h => h) hA 22 4 20 _ _ (by decide) (by kernel_rfl) ?_; simp only [List.drop_succ_cons, List.drop_zero, List.take_succ_cons, List.take_zero]; ((iterate 4 ((refine' wpTake_cons (by rfl) (fun W hW => ?_) ?_); rotate_left; (skip; go_simp; (try simp only [ne_eq, not_true_eq_false, decide_false, Bool.not_true, bne_self_eq_false, beq_self_eq_true, go_sem]); with_reducible rfl); simp only [Act.put, List.setIfInBounds_toArray, List.set_cons_zero, List.set_cons_succ])); refine wpTake_nil ?_))
          (refine wpAnyH_seg (by kernel_rfl) (fun _ _ _ _ _ h => h) hA 18 4 25 _ _ (by decide) (by kernel_rfl) ?_; simp only [List.drop_succ_cons, List.drop_zero, List.take_succ_cons, List.take_zero]; ((iterate 4 ((refine' wpTake_cons (by rfl) (fun W hW => ?_) ?_); rotate_left; (obtain ⟨⟨_, ⟨A9, c9, hr9⟩, _, _⟩, _⟩ := hW; have m2 := bx_cells hr9.box 4; clear hr9; go_simp; (try simp only [ne_eq, not_true_eq_false, decide_false, Bool.not_true, bne_self_eq_false, beq_self_eq_true, go_sem]); with_reducible rfl); simp only [Act.put, List.setIfInBounds_toArray, List.set_cons_zero, List.set_cons_succ])); refine wpTake_nil ?_))
          (refine wpAnyH_one 24 (by kernel_rfl) rfl (fun K hK => ?_); rw [if_pos (by rfl)]; go_simp)
          go_at_call 15
          (with_reducible refine (HO2.out _ hA.1.dk).mono ?_); rintro e u ⟨rfl, rfl⟩
          go_wp2_with fail
          refine hK.out _ _ hA (fun _ => ?_)
          clear hK K
          ((try simp only [Act.put, List.setIfInBounds_toArray, List.set_cons_zero, List.set_cons_succ]))
          (refine wpAnyH_seg (by kernel_rfl) (fun _ _ _ _ _ h => h) hA 13 4 29 _ _ (by decide) (by kernel_rfl) ?_; simp only [List.drop_succ_cons, List.drop_zero, List.take_succ_cons, List.take_zero]; ((iterate 4 ((refine' wpTake_cons (by rfl) (fun W hW => ?_) ?_); rotate_left; (skip; go_simp; (try simp only [ne_eq, not_true_eq_false, decide_false, Bool.not_true, bne_self_eq_false, beq_self_eq_true, go_sem]); with_reducible rfl); simp only [Act.put, List.setIfInBounds_toArray, List.set_cons_zero, List.set_cons_succ])); refine wpTake_nil ?_))
          (refine wpAnyH_seg (by kernel_rfl) (fun _ _ _ _ _ h => h) hA 12 1 34 _ _ (by decide) (by kernel_rfl) ?_; simp only [List.drop_succ_cons, List.drop_zero, List.take_succ_cons, List.take_zero]; ((iterate 1 ((refine' wpTake_cons (by rfl) (fun W hW => ?_) ?_); rotate_left; (skip; go_simp; (try simp only [ne_eq, not_true_eq_false, decide_false, Bool.not_true, bne_self_eq_false, beq_self_eq_true, go_sem]); with_reducible rfl); simp only [Act.put, List.setIfInBounds_toArray, List.set_cons_zero, List.set_cons_succ])); refine wpTake_nil ?_))
          (refine wpAnyH_one 33 (by kernel_rfl) rfl (fun K hK => ?_); rw [if_pos (by rfl)]; go_simp)
          go_at_call 16
          (with_reducible refine (HU1.out _ hA.1.dk).mono ?_); rintro e u1 ⟨rfl, g1⟩
          go_wp2_with fail
          have hA1 := And.intro (hA.1.below g1) (hA.2.trans (g1.mono hA.2.size))
          clear hA g1
          refine hK.out _ _ hA1 (fun _ => ?_)
          clear hK K
          ((try simp only [Act.put, List.setIfInBounds_toArray, List.set_cons_zero, List.set_cons_succ]))
          (refine wpAnyH_one 35 (by kernel_rfl) rfl (fun K hK => ?_); rw [if_pos (by rfl)]; go_simp)
          go_at_call 17
          (with_reducible refine (HU2.out _ hA1.1.rk).mono ?_); rintro e u ⟨rfl, rfl⟩
          go_wp2_with fail
          refine hK.out _ _ hA1 (fun _ => ?_)
          clear hK K
          ((try simp only [Act.put, List.setIfInBounds_toArray, List.set_cons_zero, List.set_cons_succ]))
          (refine wpAnyH_seg (by kernel_rfl) (fun _ _ _ _ _ h => h) hA1 6 4 36 _ _ (by decide) (by kernel_rfl) ?_; simp only [List.drop_succ_cons, List.drop_zero, List.take_succ_cons, List.take_zero]; ((iterate 4 ((refine' wpTake_cons (by rfl) (fun W hW => ?_) ?_); rotate_left; (skip; go_simp; (try simp only [ne_eq, not_true_eq_false, decide_false, Bool.not_true, bne_self_eq_false, beq_self_eq_true, go_sem]); with_reducible rfl); simp only [Act.put, List.setIfInBounds_toArray, List.set_cons_zero, List.set_cons_succ])); refine wpTake_nil ?_))
          (refine wpAnyH_seg (by kernel_rfl) (fun _ _ _ _ _ h => h) hA1 5 1 41 _ _ (by decide) (by kernel_rfl) ?_; simp only [List.drop_succ_cons, List.drop_zero, List.take_succ_cons, List.take_zero]; ((iterate 1 ((refine' wpTake_cons (by rfl) (fun W hW => ?_) ?_); rotate_left; (skip; go_simp; (try simp only [ne_eq, not_true_eq_false, decide_false, Bool.not_true, bne_self_eq_false, beq_self_eq_true, go_sem]); with_reducible rfl); simp only [Act.put, List.setIfInBounds_toArray, List.set_cons_zero, List.set_cons_succ])); refine wpTake_nil ?_))
          (refine wpAnyH_one 40 (by kernel_rfl) rfl (fun K hK => ?_); rw [if_pos (by rfl)]; go_simp)
          go_at_call 19
          (with_reducible refine (HN1.out _ hA1.1.dk).mono ?_); rintro e u2 ⟨An1, cn1, rfl, rd1, g2⟩
          go_wp2_with fail
          have hA2 := And.intro (hA1.1.below g2) (hA1.2.trans (g2.mono hA1.2.size))
          clear hA1 g2
          refine hK.out _ _ hA2 (fun _ => ?_)
          clear hK K
          ((try simp only [Act.put, List.setIfInBounds_toArray, List.set_cons_zero, List.set_cons_succ]))
          (refine wpAnyH_one 42 (by kernel_rfl) rfl (fun K hK => ?_); rw [if_pos (by rfl)]; go_simp)
          go_at_call 20
          (with_reducible refine (HN2.out _ hA2.1.rk).mono ?_); rintro e u3 ⟨An2, cn2, rfl, rd2, g3⟩
          go_wp2_with fail
          have hA3 := And.intro (hA2.1.below g3) (hA2.2.trans (g3.mono hA2.2.size))
          have rd3 := (rd1.below g3).more g3.size
          clear hA2 g3 rd1
          refine hK.out _ _ hA3 (fun _ => ?_)
          clear hK K
          ((try simp only [Act.put, List.setIfInBounds_toArray, List.set_cons_zero, List.set_cons_succ]))
          (refine wpAnyH_one 43 (by kernel_rfl) rfl (fun K hK => ?_); rw [if_pos (by rfl)]; go_simp)
          go_at_call 18
          (with_reducible refine (ref1_SameTexts An1 An2 cn1 cn2 N N (by omega) (by omega) rfl _ rd3 rd2).mono ?_); rintro e u4 ⟨rfl, g4⟩
          go_wp2_with fail
          have hA4 := And.intro (hA3.1.below g4) (hA3.2.trans (g4.mono hA3.2.size))
          clear hA3 g4 rd2 rd3
          refine hK.out _ _ hA4 (fun _ => ?_)
          clear hK K
          ((try simp only [Act.put, List.setIfInBounds_toArray, List.set_cons_zero, List.set_cons_succ]))
          (refine wpAnyH_seg (by kernel_rfl) (fun _ _ _ _ _ h => h) hA4 0 2 44 _ _ (by decide) (by kernel_rfl) ?_; simp only [List.drop_succ_cons, List.drop_zero, List.take_succ_cons, List.take_zero]; ((iterate 2 ((refine' wpTake_cons (by rfl) (fun W hW => ?_) ?_); rotate_left; (skip; go_simp; (try simp only [ne_eq, not_true_eq_false, decide_false, Bool.not_true, bne_self_eq_false, beq_self_eq_true, go_sem]); with_reducible rfl); simp only [Act.put, List.setIfInBounds_toArray, List.set_cons_zero, List.set_cons_succ])); refine wpTake_nil ?_))
          refine wpAnyH_done (by kernel_rfl) ?_ _
          refine NoPanic.normal ?_
          go_wp2_with fail
          clear HN1 HN2 HU1 HU2 HO1 HO2 hUU hNN
          as_aux_lemma =>
            go_loopw [9] (fun j wr2 => ∃ q : Nat, q ≤ L.length ∧ j = .int .i64 q ∧ Play d x z nb T { T with fs := L } wr2 ∧ Below w.heap.size w wr2) (fun j _ => L.length - (intOf j).toNat)
            case atStart => exact ⟨0, by omega, rfl, hA4.1, hA4.2⟩
            case round =>
              obtain ⟨q, hq, rfl, hPq, hbq⟩ := hrel
              have hA5 := And.intro hPq hbq
              clear hPq hbq hA4
              obtain ⟨⟨Ad, cd, hdk⟩, ⟨Ax, cx, hrk⟩, _, _⟩ := id hA5.1
              have hL1000 : L.length ≤ 1000 := by have := HLEN.out; omega
              by_cases hlt2 : q < L.length
              · obtain ⟨f, hf⟩ : ∃ f, L[q]? = some f := ⟨L[q], List.getElem?_eq_getElem hlt2⟩
                have hsu := sure_sim HTO.out.sorted HSIM.out (f := f) (List.mem_of_getElem? hf)
                have hrs := read_sim HTO.out.sorted HSIM.out f.nm
                have PR := fun A c W h => disk_Read d A c T f.nm HTO.out.sorted (by omega) W h
                have PX := fun A c W h => ref7_Read x A c { T with fs := L } f.nm hL1000 W h
                have PS := fun A c W h => disk_Sure d A c T f.nm HTO.out.sorted (by omega) W h
                rw [hrs] at PX
                rw [hsu] at PS
                obtain ⟨rs, re, hre⟩ : ∃ rs re, readD T f.nm = (rs, re) := ⟨_, _, rfl⟩
                rw [hre] at PR PX
                have HPR := Lib.hid PR
                have HPX := Lib.hid PX
                have HPS := Lib.hid PS
                obtain ⟨g, rfl, hxg, hgl⟩ := row_some' hrk.row (by simp only; omega)
                have HCL := Lib.hid (fun (W : World) (hr : Rk x (some ⟨g, 0, none⟩) cx { T with fs := L } W) => And.intro (bx_cells hr.box 0) (And.intro ((by
                  have := hr.row.cells (g := g) rfl (q * 3) (.string f.nm) (by have := fC_at _ q f hf 0 (by omega); rw [Nat.add_zero] at this; rw [this]; rfl)
                  rwa [fl_add_0] at this : W.cell? ⟨g, q * 3, none⟩ = some (.string f.nm))) ((by
                  have := hr.row.cells (g := g) rfl (q * 3 + 2) (.int .i64 (f.su : Int)) (by rw [fC_at _ q f hf 2 (by omega)]; rfl)
                  rwa [fl_add_0] at this : W.cell? ⟨g, q * 3 + 2, none⟩ = some (.int .i64 (f.su : Int))))))
                obtain ⟨m0, m1, m2⟩ := HCL.out _ hrk
                have hj1 : (q : Int) < (L.length : Int) := by omega
                have HDK := Lib.hid hdk
                have HRK := Lib.hid hrk
                have hA5s := hA5.2.size
                clear PR PX PS hsu hrs hre hf hdk hrk
                as_aux_lemma =>
                  go_wp2_with (first
                    | (go_at_call 12; (with_reducible refine (HPR.out _ _ _ HDK.out).mono ?_); rintro e w5 ⟨rfl, b5⟩; have hd5 := HDK.out.kept b5; have hr5 := HRK.out.kept b5; obtain ⟨n0, n1, n2⟩ := HCL.out _ hr5)
                    | (go_at_call 21; (with_reducible refine (HPX.out _ _ _ hr5).mono ?_); rintro e w6 ⟨rfl, rfl⟩))
                  have hA6 := And.intro (hA5.1.below b5) (hA5.2.trans (b5.mono hA5s))
                  have F0 := fun u : Later w5.heap.size w5 => (HCL.out _ (hr5.kept u.h)).1
                  have F1 := fun u : Later w5.heap.size w5 => (HCL.out _ (hr5.kept u.h)).2.1
                  have F2 := fun u : Later w5.heap.size w5 => (HCL.out _ (hr5.kept u.h)).2.2
                  have HSU := Lib.hid (fun u : Later w5.heap.size w5 => HPS.out _ _ _ (hd5.kept u.h))
                  have HA6 := Lib.hid hA6
                  clear n0 n1 n2 m0 m1 m2 hA5 hA6 hd5 hr5 b5
                  refine wp_region_later w5.heap.size (by kernel_rfl) (by kernel_rfl) ?_
                  repeat (go_big_quiet_step ((go_at_call 22; exact later_of _ (Nat.le_refl _) (HSU.out _))))
                  refine wpQuiet_nil ?_; intro _ hw'; obtain ⟨u, hw''⟩ := hw'; subst hw''
                  go_wp2_with fail
                  exact ⟨⟨q + 1, by omega, by go_num, HA6.out.1.below u.h, HA6.out.2.trans (u.h.mono HA6.out.2.size)⟩, by show L.length - ((q : Int) + 1).toNat < L.length - ((q : Int)).toNat; omega⟩
              · have hj1 : ¬ (q : Int) < (L.length : Int) := by omega
                have m0 := bx_cells hrk.box 0
                have hrs := read_sim HTO.out.sorted HSIM.out a.to_
                have PR := fun A c W h => disk_Read d A c T a.to_ HTO.out.sorted (by omega) W h
                have PX := fun A c W h => ref7_Read x A c { T with fs := L } a.to_ hL1000 W h
                rw [hrs] at PX
                obtain ⟨rs, re, hre⟩ : ∃ rs re, readD T a.to_ = (rs, re) := ⟨_, _, rfl⟩
                rw [hre] at PR PX
                have HPR := Lib.hid PR
                have HPX := Lib.hid PX
                have HDK := Lib.hid hdk
                have HRK := Lib.hid hrk
                have hA5s := hA5.2.size
                obtain ⟨z0, z1, z2, z3, z4, z5⟩ := HCE.out _ hA5.2
                clear PR PX hrs hre hdk hrk
                as_aux_lemma =>
                  go_wp2_with (first
                    | (go_at_call 12; (with_reducible refine (HPR.out _ _ _ HDK.out).mono ?_); rintro e w5 ⟨rfl, b5⟩; have hA6 := And.intro (hA5.1.below b5) (hA5.2.trans (b5.mono hA5s)); have hr5 := HRK.out.kept b5; obtain ⟨t0, t1, t2, t3, t4, t5⟩ := HCE.out _ hA6.2)
                    | (go_at_call 21; (with_reducible refine (HPX.out _ _ _ hr5).mono ?_); rintro e w6 ⟨rfl, rfl⟩))
                  clear t0 t1 t2 t3 t4 t5 z0 z1 z2 z3 z4 z5 hA5 hr5 b5 HDK HRK HPR HPX m0
                  as_aux_lemma =>
                    go_loopw [18] (fun j wr3 => ∃ q : Nat, q ≤ 2 ∧ j = .int .i64 q ∧ Play d x z nb T { T with fs := L } wr3 ∧ Below w.heap.size w wr3) (fun j _ => 2 - (intOf j).toNat)
                    case atStart => exact ⟨0, by omega, rfl, hA6.1, hA6.2⟩
                    case round =>
                      obtain ⟨q2, hq2, rfl, hP6, hb6⟩ := hrel
                      have hA6 := And.intro hP6 hb6
                      clear hP6 hb6
                      by_cases h0 : q2 = 0
                      · subst h0
                        by_cases g1 : 1 ≤ a.kind
                        · have e1 : decide (1 ≤ a.kind) = true := by simpa using g1
                          by_cases g5 : a.kind ≤ 5
                          · have HNA := Lib.hid (show noAns a.kind = 9 by unfold noAns; rw [if_pos ⟨g1, g5⟩])
                            have e5 : decide (a.kind ≤ 5) = true := by simpa using g5
                            clear g1 g5
                            as_aux_lemma =>
                              (go_wp2_with fail; ((try simp only [List.append_eq, List.cons_append, List.nil_append]); refine wp_region_inv (fun W => Play d x z nb T { T with fs := L } W ∧ Below w.heap.size w W) hA6 (fun W h => ⟨h.1.below (Below.refl _ W).drew, h.2.drew⟩) (by kernel_rfl) (by kernel_rfl) (fun cc hc => ?_); have cN := fun u : In cc => bx_cells ((hc u.w).1 u.h).1.nb 0; have cN1 := fun u : In cc => bx_cells ((hc u.w).1 u.h).1.nb 1; have cE := fun u : In cc => (HCE.out u.w ((hc u.w).1 u.h).2).1; have cE1 := fun u : In cc => (HCE.out u.w ((hc u.w).1 u.h).2).2.1; have cE2 := fun u : In cc => (HCE.out u.w ((hc u.w).1 u.h).2).2.2.1; have cE3 := fun u : In cc => (HCE.out u.w ((hc u.w).1 u.h).2).2.2.2.1; have cE4 := fun u : In cc => (HCE.out u.w ((hc u.w).1 u.h).2).2.2.2.2.1; have cE5 := fun u : In cc => (HCE.out u.w ((hc u.w).1 u.h).2).2.2.2.2.2; have HIU := Lib.hid (fun u : In cc => (hc u.w).1 u.h); have HCC := Lib.hid hc; clear hc hA6; skip; (repeat (go_big_quiet_step ((go_at_call 12; exact inv_of_same _ (nil_Read _ _))))); (refine wpQuiet_nil ?_; intro _ hw'; obtain ⟨u, hw''⟩ := hw'; subst hw''); clear cN cN1 cE cE1 cE2 cE3 cE4 cE5; have hA7 := HIU.out u; clear HIU HCC; generalize u.w = Wn at hA7 ⊢; go_wp2_with fail); ((try simp only [List.append_eq, List.cons_append, List.nil_append]); refine wp_region_inv (fun W => Play d x z nb T { T with fs := L } W ∧ Below w.heap.size w W) hA7 (fun W h => ⟨h.1.below (Below.refl _ W).drew, h.2.drew⟩) (by kernel_rfl) (by kernel_rfl) (fun cc hc => ?_); have cN := fun u : In cc => bx_cells ((hc u.w).1 u.h).1.nb 0; have cN1 := fun u : In cc => bx_cells ((hc u.w).1 u.h).1.nb 1; have cE := fun u : In cc => (HCE.out u.w ((hc u.w).1 u.h).2).1; have cE1 := fun u : In cc => (HCE.out u.w ((hc u.w).1 u.h).2).2.1; have cE2 := fun u : In cc => (HCE.out u.w ((hc u.w).1 u.h).2).2.2.1; have cE3 := fun u : In cc => (HCE.out u.w ((hc u.w).1 u.h).2).2.2.2.1; have cE4 := fun u : In cc => (HCE.out u.w ((hc u.w).1 u.h).2).2.2.2.2.1; have cE5 := fun u : In cc => (HCE.out u.w ((hc u.w).1 u.h).2).2.2.2.2.2; have HIU := Lib.hid (fun u : In cc => (hc u.w).1 u.h); have HCC := Lib.hid hc; clear hc hA7; skip; (repeat (go_big_quiet_step ((go_at_call 9; exact inv_of_below HCC.out (fun _ _ h hb => And.intro (h.1.below hb) (h.2.trans (hb.mono h.2.size))) _ (HNA.out ▸ nil_do a _))))); (refine wpQuiet_nil ?_; intro _ hw'; obtain ⟨u, hw''⟩ := hw'; subst hw''); clear cN cN1 cE cE1 cE2 cE3 cE4 cE5; have hA8 := HIU.out u; clear HIU HCC; generalize u.w = Wn at hA8 ⊢; go_wp2_with fail); ((try simp only [List.append_eq, List.cons_append, List.nil_append]); refine wp_region_inv (fun W => Play d x z nb T { T with fs := L } W ∧ Below w.heap.size w W) hA8 (fun W h => ⟨h.1.below (Below.refl _ W).drew, h.2.drew⟩) (by kernel_rfl) (by kernel_rfl) (fun cc hc => ?_); have cN := fun u : In cc => bx_cells ((hc u.w).1 u.h).1.nb 0; have cN1 := fun u : In cc => bx_cells ((hc u.w).1 u.h).1.nb 1; have cE := fun u : In cc => (HCE.out u.w ((hc u.w).1 u.h).2).1; have cE1 := fun u : In cc => (HCE.out u.w ((hc u.w).1 u.h).2).2.1; have cE2 := fun u : In cc => (HCE.out u.w ((hc u.w).1 u.h).2).2.2.1; have cE3 := fun u : In cc => (HCE.out u.w ((hc u.w).1 u.h).2).2.2.2.1; have cE4 := fun u : In cc => (HCE.out u.w ((hc u.w).1 u.h).2).2.2.2.2.1; have cE5 := fun u : In cc => (HCE.out u.w ((hc u.w).1 u.h).2).2.2.2.2.2; have HIU := Lib.hid (fun u : In cc => (hc u.w).1 u.h); have HCC := Lib.hid hc; clear hc hA8; skip; (repeat (go_big_quiet_step ((first | (go_at_call 11; exact inv_of_same _ (nil_On _)) | (go_at_call 16; exact inv_of_same _ (nil_Used _)) | (go_at_call 19; exact inv_of_same _ (nil_Names _)) | (go_at_call 15; exact inv_of_same _ (nil_Ops _)) | (go_at_call 22; exact inv_of_same _ (nil_Sure _ _)))))); (refine wpQuiet_nil ?_; intro _ hw'; obtain ⟨u, hw''⟩ := hw'; subst hw''); clear cN cN1 cE cE1 cE2 cE3 cE4 cE5; have hA9 := HIU.out u; clear HIU HCC; generalize u.w = Wn at hA9 ⊢; go_wp2_with fail); exact ⟨⟨0 + 1, by omega, by go_num, hA9.1, hA9.2⟩, by simp [intOf]⟩)
                          · have HNA := Lib.hid (show noAns a.kind = 0 by unfold noAns; rw [if_neg (fun h => g5 h.2)])
                            have e5 : decide (a.kind ≤ 5) = false := by simpa using g5
                            clear g1 g5
                            as_aux_lemma =>
                              (go_wp2_with fail; ((try simp only [List.append_eq, List.cons_append, List.nil_append]); refine wp_region_inv (fun W => Play d x z nb T { T with fs := L } W ∧ Below w.heap.size w W) hA6 (fun W h => ⟨h.1.below (Below.refl _ W).drew, h.2.drew⟩) (by kernel_rfl) (by kernel_rfl) (fun cc hc => ?_); have cN := fun u : In cc => bx_cells ((hc u.w).1 u.h).1.nb 0; have cN1 := fun u : In cc => bx_cells ((hc u.w).1 u.h).1.nb 1; have cE := fun u : In cc => (HCE.out u.w ((hc u.w).1 u.h).2).1; have cE1 := fun u : In cc => (HCE.out u.w ((hc u.w).1 u.h).2).2.1; have cE2 := fun u : In cc => (HCE.out u.w ((hc u.w).1 u.h).2).2.2.1; have cE3 := fun u : In cc => (HCE.out u.w ((hc u.w).1 u.h).2).2.2.2.1; have cE4 := fun u : In cc => (HCE.out u.w ((hc u.w).1 u.h).2).2.2.2.2.1; have cE5 := fun u : In cc => (HCE.out u.w ((hc u.w).1 u.h).2).2.2.2.2.2; have HIU := Lib.hid (fun u : In cc => (hc u.w).1 u.h); have HCC := Lib.hid hc; clear hc hA6; skip; (repeat (go_big_quiet_step ((go_at_call 12; exact inv_of_same _ (nil_Read _ _))))); (refine wpQuiet_nil ?_; intro _ hw'; obtain ⟨u, hw''⟩ := hw'; subst hw''); clear cN cN1 cE cE1 cE2 cE3 cE4 cE5; have hA7 := HIU.out u; clear HIU HCC; generalize u.w = Wn at hA7 ⊢; go_wp2_with fail); ((try simp only [List.append_eq, List.cons_append, List.nil_append]); refine wp_region_inv (fun W => Play d x z nb T { T with fs := L } W ∧ Below w.heap.size w W) hA7 (fun W h => ⟨h.1.below (Below.refl _ W).drew, h.2.drew⟩) (by kernel_rfl) (by kernel_rfl) (fun cc hc => ?_); have cN := fun u : In cc => bx_cells ((hc u.w).1 u.h).1.nb 0; have cN1 := fun u : In cc => bx_cells ((hc u.w).1 u.h).1.nb 1; have cE := fun u : In cc => (HCE.out u.w ((hc u.w).1 u.h).2).1; have cE1 := fun u : In cc => (HCE.out u.w ((hc u.w).1 u.h).2).2.1; have cE2 := fun u : In cc => (HCE.out u.w ((hc u.w).1 u.h).2).2.2.1; have cE3 := fun u : In cc => (HCE.out u.w ((hc u.w).1 u.h).2).2.2.2.1; have cE4 := fun u : In cc => (HCE.out u.w ((hc u.w).1 u.h).2).2.2.2.2.1; have cE5 := fun u : In cc => (HCE.out u.w ((hc u.w).1 u.h).2).2.2.2.2.2; have HIU := Lib.hid (fun u : In cc => (hc u.w).1 u.h); have HCC := Lib.hid hc; clear hc hA7; skip; (repeat (go_big_quiet_step ((go_at_call 9; exact inv_of_below HCC.out (fun _ _ h hb => And.intro (h.1.below hb) (h.2.trans (hb.mono h.2.size))) _ (HNA.out ▸ nil_do a _))))); (refine wpQuiet_nil ?_; intro _ hw'; obtain ⟨u, hw''⟩ := hw'; subst hw''); clear cN cN1 cE cE1 cE2 cE3 cE4 cE5; have hA8 := HIU.out u; clear HIU HCC; generalize u.w = Wn at hA8 ⊢; go_wp2_with fail); ((try simp only [List.append_eq, List.cons_append, List.nil_append]); refine wp_region_inv (fun W => Play d x z nb T { T with fs := L } W ∧ Below w.heap.size w W) hA8 (fun W h => ⟨h.1.below (Below.refl _ W).drew, h.2.drew⟩) (by kernel_rfl) (by kernel_rfl) (fun cc hc => ?_); have cN := fun u : In cc => bx_cells ((hc u.w).1 u.h).1.nb 0; have cN1 := fun u : In cc => bx_cells ((hc u.w).1 u.h).1.nb 1; have cE := fun u : In cc => (HCE.out u.w ((hc u.w).1 u.h).2).1; have cE1 := fun u : In cc => (HCE.out u.w ((hc u.w).1 u.h).2).2.1; have cE2 := fun u : In cc => (HCE.out u.w ((hc u.w).1 u.h).2).2.2.1; have cE3 := fun u : In cc => (HCE.out u.w ((hc u.w).1 u.h).2).2.2.2.1; have cE4 := fun u : In cc => (HCE.out u.w ((hc u.w).1 u.h).2).2.2.2.2.1; have cE5 := fun u : In cc => (HCE.out u.w ((hc u.w).1 u.h).2).2.2.2.2.2; have HIU := Lib.hid (fun u : In cc => (hc u.w).1 u.h); have HCC := Lib.hid hc; clear hc hA8; skip; (repeat (go_big_quiet_step ((first | (go_at_call 11; exact inv_of_same _ (nil_On _)) | (go_at_call 16; exact inv_of_same _ (nil_Used _)) | (go_at_call 19; exact inv_of_same _ (nil_Names _)) | (go_at_call 15; exact inv_of_same _ (nil_Ops _)) | (go_at_call 22; exact inv_of_same _ (nil_Sure _ _)))))); (refine wpQuiet_nil ?_; intro _ hw'; obtain ⟨u, hw''⟩ := hw'; subst hw''); clear cN cN1 cE cE1 cE2 cE3 cE4 cE5; have hA9 := HIU.out u; clear HIU HCC; generalize u.w = Wn at hA9 ⊢; go_wp2_with fail); exact ⟨⟨0 + 1, by omega, by go_num, hA9.1, hA9.2⟩, by simp [intOf]⟩)
                        · have HNA := Lib.hid (show noAns a.kind = 0 by unfold noAns; rw [if_neg (fun h => g1 h.1)])
                          have e1 : decide (1 ≤ a.kind) = false := by simpa using g1
                          clear g1
                          as_aux_lemma =>
                            (go_wp2_with fail; ((try simp only [List.append_eq, List.cons_append, List.nil_append]); refine wp_region_inv (fun W => Play d x z nb T { T with fs := L } W ∧ Below w.heap.size w W) hA6 (fun W h => ⟨h.1.below (Below.refl _ W).drew, h.2.drew⟩) (by kernel_rfl) (by kernel_rfl) (fun cc hc => ?_); have cN := fun u : In cc => bx_cells ((hc u.w).1 u.h).1.nb 0; have cN1 := fun u : In cc => bx_cells ((hc u.w).1 u.h).1.nb 1; have cE := fun u : In cc => (HCE.out u.w ((hc u.w).1 u.h).2).1; have cE1 := fun u : In cc => (HCE.out u.w ((hc u.w).1 u.h).2).2.1; have cE2 := fun u : In cc => (HCE.out u.w ((hc u.w).1 u.h).2).2.2.1; have cE3 := fun u : In cc => (HCE.out u.w ((hc u.w).1 u.h).2).2.2.2.1; have cE4 := fun u : In cc => (HCE.out u.w ((hc u.w).1 u.h).2).2.2.2.2.1; have cE5 := fun u : In cc => (HCE.out u.w ((hc u.w).1 u.h).2).2.2.2.2.2; have HIU := Lib.hid (fun u : In cc => (hc u.w).1 u.h); have HCC := Lib.hid hc; clear hc hA6; skip; (repeat (go_big_quiet_step ((go_at_call 12; exact inv_of_same _ (nil_Read _ _))))); (refine wpQuiet_nil ?_; intro _ hw'; obtain ⟨u, hw''⟩ := hw'; subst hw''); clear cN cN1 cE cE1 cE2 cE3 cE4 cE5; have hA7 := HIU.out u; clear HIU HCC; generalize u.w = Wn at hA7 ⊢; go_wp2_with fail); ((try simp only [List.append_eq, List.cons_append, List.nil_append]); refine wp_region_inv (fun W => Play d x z nb T { T with fs := L } W ∧ Below w.heap.size w W) hA7 (fun W h => ⟨h.1.below (Below.refl _ W).drew, h.2.drew⟩) (by kernel_rfl) (by kernel_rfl) (fun cc hc => ?_); have cN := fun u : In cc => bx_cells ((hc u.w).1 u.h).1.nb 0; have cN1 := fun u : In cc => bx_cells ((hc u.w).1 u.h).1.nb 1; have cE := fun u : In cc => (HCE.out u.w ((hc u.w).1 u.h).2).1; have cE1 := fun u : In cc => (HCE.out u.w ((hc u.w).1 u.h).2).2.1; have cE2 := fun u : In cc => (HCE.out u.w ((hc u.w).1 u.h).2).2.2.1; have cE3 := fun u : In cc => (HCE.out u.w ((hc u.w).1 u.h).2).2.2.2.1; have cE4 := fun u : In cc => (HCE.out u.w ((hc u.w).1 u.h).2).2.2.2.2.1; have cE5 := fun u : In cc => (HCE.out u.w ((hc u.w).1 u.h).2).2.2.2.2.2; have HIU := Lib.hid (fun u : In cc => (hc u.w).1 u.h); have HCC := Lib.hid hc; clear hc hA7; skip; (repeat (go_big_quiet_step ((go_at_call 9; exact inv_of_below HCC.out (fun _ _ h hb => And.intro (h.1.below hb) (h.2.trans (hb.mono h.2.size))) _ (HNA.out ▸ nil_do a _))))); (refine wpQuiet_nil ?_; intro _ hw'; obtain ⟨u, hw''⟩ := hw'; subst hw''); clear cN cN1 cE cE1 cE2 cE3 cE4 cE5; have hA8 := HIU.out u; clear HIU HCC; generalize u.w = Wn at hA8 ⊢; go_wp2_with fail); ((try simp only [List.append_eq, List.cons_append, List.nil_append]); refine wp_region_inv (fun W => Play d x z nb T { T with fs := L } W ∧ Below w.heap.size w W) hA8 (fun W h => ⟨h.1.below (Below.refl _ W).drew, h.2.drew⟩) (by kernel_rfl) (by kernel_rfl) (fun cc hc => ?_); have cN := fun u : In cc => bx_cells ((hc u.w).1 u.h).1.nb 0; have cN1 := fun u : In cc => bx_cells ((hc u.w).1 u.h).1.nb 1; have cE := fun u : In cc => (HCE.out u.w ((hc u.w).1 u.h).2).1; have cE1 := fun u : In cc => (HCE.out u.w ((hc u.w).1 u.h).2).2.1; have cE2 := fun u : In cc => (HCE.out u.w ((hc u.w).1 u.h).2).2.2.1; have cE3 := fun u : In cc => (HCE.out u.w ((hc u.w).1 u.h).2).2.2.2.1; have cE4 := fun u : In cc => (HCE.out u.w ((hc u.w).1 u.h).2).2.2.2.2.1; have cE5 := fun u : In cc => (HCE.out u.w ((hc u.w).1 u.h).2).2.2.2.2.2; have HIU := Lib.hid (fun u : In cc => (hc u.w).1 u.h); have HCC := Lib.hid hc; clear hc hA8; skip; (repeat (go_big_quiet_step ((first | (go_at_call 11; exact inv_of_same _ (nil_On _)) | (go_at_call 16; exact inv_of_same _ (nil_Used _)) | (go_at_call 19; exact inv_of_same _ (nil_Names _)) | (go_at_call 15; exact inv_of_same _ (nil_Ops _)) | (go_at_call 22; exact inv_of_same _ (nil_Sure _ _)))))); (refine wpQuiet_nil ?_; intro _ hw'; obtain ⟨u, hw''⟩ := hw'; subst hw''); clear cN cN1 cE cE1 cE2 cE3 cE4 cE5; have hA9 := HIU.out u; clear HIU HCC; generalize u.w = Wn at hA9 ⊢; go_wp2_with fail); exact ⟨⟨0 + 1, by omega, by go_num, hA9.1, hA9.2⟩, by simp [intOf]⟩)
                      · by_cases h1 : q2 = 1
                        · subst h1
                          have hwz : w.heap.size ≤ z := by omega
                          by_cases g1 : 1 ≤ a.kind
                          · have e1 : decide (1 ≤ a.kind) = true := by simpa using g1
                            by_cases g5 : a.kind ≤ 5
                            · have HNA := Lib.hid (show noAns a.kind = 9 by unfold noAns; rw [if_pos ⟨g1, g5⟩])
                              have e5 : decide (a.kind ≤ 5) = true := by simpa using g5
                              clear g1 g5
                              as_aux_lemma =>
                                (go_wp2_with fail; ((try simp only [List.append_eq, List.cons_append, List.nil_append]); refine wp_region_inv (fun W => Play d x z nb T { T with fs := L } W ∧ Below w.heap.size w W) hA6 (fun W h => ⟨h.1.below (Below.refl _ W).drew, h.2.drew⟩) (by kernel_rfl) (by kernel_rfl) (fun cc hc => ?_); have cN := fun u : In cc => bx_cells ((hc u.w).1 u.h).1.nb 0; have cN1 := fun u : In cc => bx_cells ((hc u.w).1 u.h).1.nb 1; have cE := fun u : In cc => (HCE.out u.w ((hc u.w).1 u.h).2).1; have cE1 := fun u : In cc => (HCE.out u.w ((hc u.w).1 u.h).2).2.1; have cE2 := fun u : In cc => (HCE.out u.w ((hc u.w).1 u.h).2).2.2.1; have cE3 := fun u : In cc => (HCE.out u.w ((hc u.w).1 u.h).2).2.2.2.1; have cE4 := fun u : In cc => (HCE.out u.w ((hc u.w).1 u.h).2).2.2.2.2.1; have cE5 := fun u : In cc => (HCE.out u.w ((hc u.w).1 u.h).2).2.2.2.2.2; have HIU := Lib.hid (fun u : In cc => (hc u.w).1 u.h); have HCC := Lib.hid hc; clear hc hA6; have HZ1 := Lib.hid (fun (u : In cc) nm => zk_Read' z u.w (HIU.out u).1.zk nm); (repeat (go_big_quiet_step ((go_at_call 12; with_reducible exact inv_of_below HCC.out (fun _ _ h hb => And.intro (h.1.below hb) (h.2.trans (hb.mono h.2.size))) _ (HZ1.out _ _))))); (refine wpQuiet_nil ?_; intro _ hw'; obtain ⟨u, hw''⟩ := hw'; subst hw''); clear cN cN1 cE cE1 cE2 cE3 cE4 cE5; have hA7 := HIU.out u; clear HIU HCC; generalize u.w = Wn at hA7 ⊢; go_wp2_with fail); ((try simp only [List.append_eq, List.cons_append, List.nil_append]); refine wp_region_inv (fun W => Play d x z nb T { T with fs := L } W ∧ Below w.heap.size w W) hA7 (fun W h => ⟨h.1.below (Below.refl _ W).drew, h.2.drew⟩) (by kernel_rfl) (by kernel_rfl) (fun cc hc => ?_); have cN := fun u : In cc => bx_cells ((hc u.w).1 u.h).1.nb 0; have cN1 := fun u : In cc => bx_cells ((hc u.w).1 u.h).1.nb 1; have cE := fun u : In cc => (HCE.out u.w ((hc u.w).1 u.h).2).1; have cE1 := fun u : In cc => (HCE.out u.w ((hc u.w).1 u.h).2).2.1; have cE2 := fun u : In cc => (HCE.out u.w ((hc u.w).1 u.h).2).2.2.1; have cE3 := fun u : In cc => (HCE.out u.w ((hc u.w).1 u.h).2).2.2.2.1; have cE4 := fun u : In cc => (HCE.out u.w ((hc u.w).1 u.h).2).2.2.2.2.1; have cE5 := fun u : In cc => (HCE.out u.w ((hc u.w).1 u.h).2).2.2.2.2.2; have HIU := Lib.hid (fun u : In cc => (hc u.w).1 u.h); have HCC := Lib.hid hc; clear hc hA7; have HZ1 := Lib.hid (fun (u : In cc) => ((zk_do' z u.w (HIU.out u).1.zk a HX.out).mono fun e W h => ⟨HNA.out ▸ h.1, (HIU.out u).1.zstep h.2.2 h.2.1 hdx hxz hzn, (HIU.out u).2.trans (h.2.2.below.mono hwz)⟩ : Calls Try.prog 9 #[.pointer (some ⟨z, 0, none⟩), .agg #[.int .i64 a.kind, .string a.nm, .string a.to_, .string a.s, .int .i64 a.n, .slice a.Ak a.ks.length a.ck]] u.w fun e W => e = .returned (.int .i64 9) ∧ Play d x z nb T { T with fs := L } W ∧ Below w.heap.size w W)); (repeat (go_big_quiet_step ((go_at_call 9; with_reducible exact inv_of HCC.out (HZ1.out _))))); (refine wpQuiet_nil ?_; intro _ hw'; obtain ⟨u, hw''⟩ := hw'; subst hw''); clear cN cN1 cE cE1 cE2 cE3 cE4 cE5; have hA8 := HIU.out u; clear HIU HCC; generalize u.w = Wn at hA8 ⊢; go_wp2_with fail); ((try simp only [List.append_eq, List.cons_append, List.nil_append]); refine wp_region_inv (fun W => Play d x z nb T { T with fs := L } W ∧ Below w.heap.size w W) hA8 (fun W h => ⟨h.1.below (Below.refl _ W).drew, h.2.drew⟩) (by kernel_rfl) (by kernel_rfl) (fun cc hc => ?_); have cN := fun u : In cc => bx_cells ((hc u.w).1 u.h).1.nb 0; have cN1 := fun u : In cc => bx_cells ((hc u.w).1 u.h).1.nb 1; have cE := fun u : In cc => (HCE.out u.w ((hc u.w).1 u.h).2).1; have cE1 := fun u : In cc => (HCE.out u.w ((hc u.w).1 u.h).2).2.1; have cE2 := fun u : In cc => (HCE.out u.w ((hc u.w).1 u.h).2).2.2.1; have cE3 := fun u : In cc => (HCE.out u.w ((hc u.w).1 u.h).2).2.2.2.1; have cE4 := fun u : In cc => (HCE.out u.w ((hc u.w).1 u.h).2).2.2.2.2.1; have cE5 := fun u : In cc => (HCE.out u.w ((hc u.w).1 u.h).2).2.2.2.2.2; have HIU := Lib.hid (fun u : In cc => (hc u.w).1 u.h); have HCC := Lib.hid hc; clear hc hA8; have HZ1 := Lib.hid (fun (u : In cc) => zk_On z u.w (HIU.out u).1.zk); have HZ2 := Lib.hid (fun (u : In cc) => zk_Used z u.w (HIU.out u).1.zk); have HZ3 := Lib.hid (fun (u : In cc) => zk_Names z u.w (HIU.out u).1.zk); have HZ4 := Lib.hid (fun (u : In cc) => zk_Ops z u.w (HIU.out u).1.zk); have HZ5 := Lib.hid (fun (u : In cc) nm => zk_Sure' z u.w (HIU.out u).1.zk nm); (repeat (go_big_quiet_step ((first | (go_at_call 11; with_reducible exact inv_of_same _ (HZ1.out _)) | (go_at_call 16; with_reducible exact inv_of_below HCC.out (fun _ _ h hb => And.intro (h.1.below hb) (h.2.trans (hb.mono h.2.size))) _ (HZ2.out _)) | (go_at_call 19; with_reducible exact inv_of_below HCC.out (fun _ _ h hb => And.intro (h.1.below hb) (h.2.trans (hb.mono h.2.size))) _ (HZ3.out _)) | (go_at_call 15; with_reducible exact inv_of_same _ (HZ4.out _)) | (go_at_call 22; with_reducible exact inv_of_below HCC.out (fun _ _ h hb => And.intro (h.1.below hb) (h.2.trans (hb.mono h.2.size))) _ (HZ5.out _ _)))))); (refine wpQuiet_nil ?_; intro _ hw'; obtain ⟨u, hw''⟩ := hw'; subst hw''); clear cN cN1 cE cE1 cE2 cE3 cE4 cE5; have hA9 := HIU.out u; clear HIU HCC; generalize u.w = Wn at hA9 ⊢; go_wp2_with fail); exact ⟨⟨1 + 1, by omega, by go_num, hA9.1, hA9.2⟩, by simp [intOf]⟩)
                            · have HNA := Lib.hid (show noAns a.kind = 0 by unfold noAns; rw [if_neg (fun h => g5 h.2)])
                              have e5 : decide (a.kind ≤ 5) = false := by simpa using g5
                              clear g1 g5
                              as_aux_lemma =>
                                (go_wp2_with fail; ((try simp only [List.append_eq, List.cons_append, List.nil_append]); refine wp_region_inv (fun W => Play d x z nb T { T with fs := L } W ∧ Below w.heap.size w W) hA6 (fun W h => ⟨h.1.below (Below.refl _ W).drew, h.2.drew⟩) (by kernel_rfl) (by kernel_rfl) (fun cc hc => ?_); have cN := fun u : In cc => bx_cells ((hc u.w).1 u.h).1.nb 0; have cN1 := fun u : In cc => bx_cells ((hc u.w).1 u.h).1.nb 1; have cE := fun u : In cc => (HCE.out u.w ((hc u.w).1 u.h).2).1; have cE1 := fun u : In cc => (HCE.out u.w ((hc u.w).1 u.h).2).2.1; have cE2 := fun u : In cc => (HCE.out u.w ((hc u.w).1 u.h).2).2.2.1; have cE3 := fun u : In cc => (HCE.out u.w ((hc u.w).1 u.h).2).2.2.2.1; have cE4 := fun u : In cc => (HCE.out u.w ((hc u.w).1 u.h).2).2.2.2.2.1; have cE5 := fun u : In cc => (HCE.out u.w ((hc u.w).1 u.h).2).2.2.2.2.2; have HIU := Lib.hid (fun u : In cc => (hc u.w).1 u.h); have HCC := Lib.hid hc; clear hc hA6; have HZ1 := Lib.hid (fun (u : In cc) nm => zk_Read' z u.w (HIU.out u).1.zk nm); (repeat (go_big_quiet_step ((go_at_call 12; with_reducible exact inv_of_below HCC.out (fun _ _ h hb => And.intro (h.1.below hb) (h.2.trans (hb.mono h.2.size))) _ (HZ1.out _ _))))); (refine wpQuiet_nil ?_; intro _ hw'; obtain ⟨u, hw''⟩ := hw'; subst hw''); clear cN cN1 cE cE1 cE2 cE3 cE4 cE5; have hA7 := HIU.out u; clear HIU HCC; generalize u.w = Wn at hA7 ⊢; go_wp2_with fail); ((try simp only [List.append_eq, List.cons_append, List.nil_append]); refine wp_region_inv (fun W => Play d x z nb T { T with fs := L } W ∧ Below w.heap.size w W) hA7 (fun W h => ⟨h.1.below (Below.refl _ W).drew, h.2.drew⟩) (by kernel_rfl) (by kernel_rfl) (fun cc hc => ?_); have cN := fun u : In cc => bx_cells ((hc u.w).1 u.h).1.nb 0; have cN1 := fun u : In cc => bx_cells ((hc u.w).1 u.h).1.nb 1; have cE := fun u : In cc => (HCE.out u.w ((hc u.w).1 u.h).2).1; have cE1 := fun u : In cc => (HCE.out u.w ((hc u.w).1 u.h).2).2.1; have cE2 := fun u : In cc => (HCE.out u.w ((hc u.w).1 u.h).2).2.2.1; have cE3 := fun u : In cc => (HCE.out u.w ((hc u.w).1 u.h).2).2.2.2.1; have cE4 := fun u : In cc => (HCE.out u.w ((hc u.w).1 u.h).2).2.2.2.2.1; have cE5 := fun u : In cc => (HCE.out u.w ((hc u.w).1 u.h).2).2.2.2.2.2; have HIU := Lib.hid (fun u : In cc => (hc u.w).1 u.h); have HCC := Lib.hid hc; clear hc hA7; have HZ1 := Lib.hid (fun (u : In cc) => ((zk_do' z u.w (HIU.out u).1.zk a HX.out).mono fun e W h => ⟨HNA.out ▸ h.1, (HIU.out u).1.zstep h.2.2 h.2.1 hdx hxz hzn, (HIU.out u).2.trans (h.2.2.below.mono hwz)⟩ : Calls Try.prog 9 #[.pointer (some ⟨z, 0, none⟩), .agg #[.int .i64 a.kind, .string a.nm, .string a.to_, .string a.s, .int .i64 a.n, .slice a.Ak a.ks.length a.ck]] u.w fun e W => e = .returned (.int .i64 0) ∧ Play d x z nb T { T with fs := L } W ∧ Below w.heap.size w W)); (repeat (go_big_quiet_step ((go_at_call 9; with_reducible exact inv_of HCC.out (HZ1.out _))))); (refine wpQuiet_nil ?_; intro _ hw'; obtain ⟨u, hw''⟩ := hw'; subst hw''); clear cN cN1 cE cE1 cE2 cE3 cE4 cE5; have hA8 := HIU.out u; clear HIU HCC; generalize u.w = Wn at hA8 ⊢; go_wp2_with fail); ((try simp only [List.append_eq, List.cons_append, List.nil_append]); refine wp_region_inv (fun W => Play d x z nb T { T with fs := L } W ∧ Below w.heap.size w W) hA8 (fun W h => ⟨h.1.below (Below.refl _ W).drew, h.2.drew⟩) (by kernel_rfl) (by kernel_rfl) (fun cc hc => ?_); have cN := fun u : In cc => bx_cells ((hc u.w).1 u.h).1.nb 0; have cN1 := fun u : In cc => bx_cells ((hc u.w).1 u.h).1.nb 1; have cE := fun u : In cc => (HCE.out u.w ((hc u.w).1 u.h).2).1; have cE1 := fun u : In cc => (HCE.out u.w ((hc u.w).1 u.h).2).2.1; have cE2 := fun u : In cc => (HCE.out u.w ((hc u.w).1 u.h).2).2.2.1; have cE3 := fun u : In cc => (HCE.out u.w ((hc u.w).1 u.h).2).2.2.2.1; have cE4 := fun u : In cc => (HCE.out u.w ((hc u.w).1 u.h).2).2.2.2.2.1; have cE5 := fun u : In cc => (HCE.out u.w ((hc u.w).1 u.h).2).2.2.2.2.2; have HIU := Lib.hid (fun u : In cc => (hc u.w).1 u.h); have HCC := Lib.hid hc; clear hc hA8; have HZ1 := Lib.hid (fun (u : In cc) => zk_On z u.w (HIU.out u).1.zk); have HZ2 := Lib.hid (fun (u : In cc) => zk_Used z u.w (HIU.out u).1.zk); have HZ3 := Lib.hid (fun (u : In cc) => zk_Names z u.w (HIU.out u).1.zk); have HZ4 := Lib.hid (fun (u : In cc) => zk_Ops z u.w (HIU.out u).1.zk); have HZ5 := Lib.hid (fun (u : In cc) nm => zk_Sure' z u.w (HIU.out u).1.zk nm); (repeat (go_big_quiet_step ((first | (go_at_call 11; with_reducible exact inv_of_same _ (HZ1.out _)) | (go_at_call 16; with_reducible exact inv_of_below HCC.out (fun _ _ h hb => And.intro (h.1.below hb) (h.2.trans (hb.mono h.2.size))) _ (HZ2.out _)) | (go_at_call 19; with_reducible exact inv_of_below HCC.out (fun _ _ h hb => And.intro (h.1.below hb) (h.2.trans (hb.mono h.2.size))) _ (HZ3.out _)) | (go_at_call 15; with_reducible exact inv_of_same _ (HZ4.out _)) | (go_at_call 22; with_reducible exact inv_of_below HCC.out (fun _ _ h hb => And.intro (h.1.below hb) (h.2.trans (hb.mono h.2.size))) _ (HZ5.out _ _)))))); (refine wpQuiet_nil ?_; intro _ hw'; obtain ⟨u, hw''⟩ := hw'; subst hw''); clear cN cN1 cE cE1 cE2 cE3 cE4 cE5; have hA9 := HIU.out u; clear HIU HCC; generalize u.w = Wn at hA9 ⊢; go_wp2_with fail); exact ⟨⟨1 + 1, by omega, by go_num, hA9.1, hA9.2⟩, by simp [intOf]⟩)
                          · have HNA := Lib.hid (show noAns a.kind = 0 by unfold noAns; rw [if_neg (fun h => g1 h.1)])
                            have e1 : decide (1 ≤ a.kind) = false := by simpa using g1
                            clear g1
                            as_aux_lemma =>
                              (go_wp2_with fail; ((try simp only [List.append_eq, List.cons_append, List.nil_append]); refine wp_region_inv (fun W => Play d x z nb T { T with fs := L } W ∧ Below w.heap.size w W) hA6 (fun W h => ⟨h.1.below (Below.refl _ W).drew, h.2.drew⟩) (by kernel_rfl) (by kernel_rfl) (fun cc hc => ?_); have cN := fun u : In cc => bx_cells ((hc u.w).1 u.h).1.nb 0; have cN1 := fun u : In cc => bx_cells ((hc u.w).1 u.h).1.nb 1; have cE := fun u : In cc => (HCE.out u.w ((hc u.w).1 u.h).2).1; have cE1 := fun u : In cc => (HCE.out u.w ((hc u.w).1 u.h).2).2.1; have cE2 := fun u : In cc => (HCE.out u.w ((hc u.w).1 u.h).2).2.2.1; have cE3 := fun u : In cc => (HCE.out u.w ((hc u.w).1 u.h).2).2.2.2.1; have cE4 := fun u : In cc => (HCE.out u.w ((hc u.w).1 u.h).2).2.2.2.2.1; have cE5 := fun u : In cc => (HCE.out u.w ((hc u.w).1 u.h).2).2.2.2.2.2; have HIU := Lib.hid (fun u : In cc => (hc u.w).1 u.h); have HCC := Lib.hid hc; clear hc hA6; have HZ1 := Lib.hid (fun (u : In cc) nm => zk_Read' z u.w (HIU.out u).1.zk nm); (repeat (go_big_quiet_step ((go_at_call 12; with_reducible exact inv_of_below HCC.out (fun _ _ h hb => And.intro (h.1.below hb) (h.2.trans (hb.mono h.2.size))) _ (HZ1.out _ _))))); (refine wpQuiet_nil ?_; intro _ hw'; obtain ⟨u, hw''⟩ := hw'; subst hw''); clear cN cN1 cE cE1 cE2 cE3 cE4 cE5; have hA7 := HIU.out u; clear HIU HCC; generalize u.w = Wn at hA7 ⊢; go_wp2_with fail); ((try simp only [List.append_eq, List.cons_append, List.nil_append]); refine wp_region_inv (fun W => Play d x z nb T { T with fs := L } W ∧ Below w.heap.size w W) hA7 (fun W h => ⟨h.1.below (Below.refl _ W).drew, h.2.drew⟩) (by kernel_rfl) (by kernel_rfl) (fun cc hc => ?_); have cN := fun u : In cc => bx_cells ((hc u.w).1 u.h).1.nb 0; have cN1 := fun u : In cc => bx_cells ((hc u.w).1 u.h).1.nb 1; have cE := fun u : In cc => (HCE.out u.w ((hc u.w).1 u.h).2).1; have cE1 := fun u : In cc => (HCE.out u.w ((hc u.w).1 u.h).2).2.1; have cE2 := fun u : In cc => (HCE.out u.w ((hc u.w).1 u.h).2).2.2.1; have cE3 := fun u : In cc => (HCE.out u.w ((hc u.w).1 u.h).2).2.2.2.1; have cE4 := fun u : In cc => (HCE.out u.w ((hc u.w).1 u.h).2).2.2.2.2.1; have cE5 := fun u : In cc => (HCE.out u.w ((hc u.w).1 u.h).2).2.2.2.2.2; have HIU := Lib.hid (fun u : In cc => (hc u.w).1 u.h); have HCC := Lib.hid hc; clear hc hA7; have HZ1 := Lib.hid (fun (u : In cc) => ((zk_do' z u.w (HIU.out u).1.zk a HX.out).mono fun e W h => ⟨HNA.out ▸ h.1, (HIU.out u).1.zstep h.2.2 h.2.1 hdx hxz hzn, (HIU.out u).2.trans (h.2.2.below.mono hwz)⟩ : Calls Try.prog 9 #[.pointer (some ⟨z, 0, none⟩), .agg #[.int .i64 a.kind, .string a.nm, .string a.to_, .string a.s, .int .i64 a.n, .slice a.Ak a.ks.length a.ck]] u.w fun e W => e = .returned (.int .i64 0) ∧ Play d x z nb T { T with fs := L } W ∧ Below w.heap.size w W)); (repeat (go_big_quiet_step ((go_at_call 9; with_reducible exact inv_of HCC.out (HZ1.out _))))); (refine wpQuiet_nil ?_; intro _ hw'; obtain ⟨u, hw''⟩ := hw'; subst hw''); clear cN cN1 cE cE1 cE2 cE3 cE4 cE5; have hA8 := HIU.out u; clear HIU HCC; generalize u.w = Wn at hA8 ⊢; go_wp2_with fail); ((try simp only [List.append_eq, List.cons_append, List.nil_append]); refine wp_region_inv (fun W => Play d x z nb T { T with fs := L } W ∧ Below w.heap.size w W) hA8 (fun W h => ⟨h.1.below (Below.refl _ W).drew, h.2.drew⟩) (by kernel_rfl) (by kernel_rfl) (fun cc hc => ?_); have cN := fun u : In cc => bx_cells ((hc u.w).1 u.h).1.nb 0; have cN1 := fun u : In cc => bx_cells ((hc u.w).1 u.h).1.nb 1; have cE := fun u : In cc => (HCE.out u.w ((hc u.w).1 u.h).2).1; have cE1 := fun u : In cc => (HCE.out u.w ((hc u.w).1 u.h).2).2.1; have cE2 := fun u : In cc => (HCE.out u.w ((hc u.w).1 u.h).2).2.2.1; have cE3 := fun u : In cc => (HCE.out u.w ((hc u.w).1 u.h).2).2.2.2.1; have cE4 := fun u : In cc => (HCE.out u.w ((hc u.w).1 u.h).2).2.2.2.2.1; have cE5 := fun u : In cc => (HCE.out u.w ((hc u.w).1 u.h).2).2.2.2.2.2; have HIU := Lib.hid (fun u : In cc => (hc u.w).1 u.h); have HCC := Lib.hid hc; clear hc hA8; have HZ1 := Lib.hid (fun (u : In cc) => zk_On z u.w (HIU.out u).1.zk); have HZ2 := Lib.hid (fun (u : In cc) => zk_Used z u.w (HIU.out u).1.zk); have HZ3 := Lib.hid (fun (u : In cc) => zk_Names z u.w (HIU.out u).1.zk); have HZ4 := Lib.hid (fun (u : In cc) => zk_Ops z u.w (HIU.out u).1.zk); have HZ5 := Lib.hid (fun (u : In cc) nm => zk_Sure' z u.w (HIU.out u).1.zk nm); (repeat (go_big_quiet_step ((first | (go_at_call 11; with_reducible exact inv_of_same _ (HZ1.out _)) | (go_at_call 16; with_reducible exact inv_of_below HCC.out (fun _ _ h hb => And.intro (h.1.below hb) (h.2.trans (hb.mono h.2.size))) _ (HZ2.out _)) | (go_at_call 19; with_reducible exact inv_of_below HCC.out (fun _ _ h hb => And.intro (h.1.below hb) (h.2.trans (hb.mono h.2.size))) _ (HZ3.out _)) | (go_at_call 15; with_reducible exact inv_of_same _ (HZ4.out _)) | (go_at_call 22; with_reducible exact inv_of_below HCC.out (fun _ _ h hb => And.intro (h.1.below hb) (h.2.trans (hb.mono h.2.size))) _ (HZ5.out _ _)))))); (refine wpQuiet_nil ?_; intro _ hw'; obtain ⟨u, hw''⟩ := hw'; subst hw''); clear cN cN1 cE cE1 cE2 cE3 cE4 cE5; have hA9 := HIU.out u; clear HIU HCC; generalize u.w = Wn at hA9 ⊢; go_wp2_with fail); exact ⟨⟨1 + 1, by omega, by go_num, hA9.1, hA9.2⟩, by simp [intOf]⟩)
                        · obtain rfl : q2 = 2 := by omega
                          go_wp2_with fail
                          exact ⟨⟨k + 1, T, { T with fs := L }, by omega, by go_num, hA6.1, HT.out, HSIM.out, hA6.2⟩, by show l.length - ((k : Int) + 1).toNat < l.length - ((k : Int)).toNat; omega⟩
    · have hi1 : ¬ (k : Int) < (l.length : Int) := by omega
      go_wp2_with (go_at_call 7; (with_reducible refine (law07_awake _).mono ?_); rintro e w9 ⟨rfl, b9⟩)
      go_ret
      exact ⟨rfl, hb.trans (b9.mono hb.size)⟩
end Go.Proofs.Ytmkaijjakcjflaa
