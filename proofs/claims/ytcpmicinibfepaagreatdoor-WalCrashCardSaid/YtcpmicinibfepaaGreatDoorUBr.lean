/- Layer 32: the walk of WalCrash · Layer 32: WalCrash, of any input. -/
import Derived.Test.YtcpmicinibfepaaGreatDoorUBq
namespace Go.Proofs.YtcpmicinibfepaaGreatDoor
open Go.ChangeShapes Go.WideShapes Go.ChangeAt Go.RowKit Go.Deep DiskP NameP



set_option maxRecDepth 100000 in
set_option maxHeartbeats 20000000 in
theorem law32_WalCrash_few (room size : Int) (hroom : I64 room) (hsize : I64 size) (a : SlWa) (ks : SlI) (w : World) (ht : TabW w) (ha : a.Ok w) (hks : ks.Ok w) (hf : fewW a.l) (hk20 : ks.l.length ≤ 20) :
    Calls Tryz.prog 4 #[.agg #[.int .i64 room, .int .i64 size], .slice a.A a.l.length a.c, .slice ks.A ks.l.length ks.c] w fun e w' => e = .returned (.bool true) ∧ Below w.heap.size w w' := by
  obtain ⟨A0, c0, l⟩ := a
  obtain ⟨Ak, ck, keep⟩ := ks
  obtain ⟨hl1, hl2, hl3, hli, hrt⟩ := ha
  obtain ⟨hk1, hk2, hki, hrk⟩ := hks
  simp only at *
  have h30 := hf.1
  have HFW := Lib.hid hf
  have HR := Lib.hid hrt
  have HLI := Lib.hid hli
  have HF := Lib.hid (fun (W : World) (hb : Below w.heap.size w W) => ref32_Few_yes A0 c0 l hf W (hrt.world hb))
  have HT := Lib.hid (fun W (hb : Below w.heap.size w W) => TabW.below ht hb)
  have HA := Lib.hid (fun (W : World) (hb : Below w.heap.size w W) => (law32_awake W (HT.out W hb)).mono (fun e w' (hp : e = .returned (.bool true) ∧ Below W.heap.size W w') => (⟨hp.1, below_step hp.2 hb⟩ : e = .returned (.bool true) ∧ Below w.heap.size w w')))
  obtain ⟨d, hd⟩ : ∃ d, d = w.heap.size + 1 := ⟨_, rfl⟩
  have hwd : w.heap.size < d := by omega
  have HD := Lib.hid hd
  have H1' : ∀ W : World, W.heap.size = d → Calls Tryz.prog 9 #[.int .i64 room] W fun e w' => e = .returned (.pointer (some ⟨d, 0, none⟩)) ∧ Dk d none 0 ⟨[], max room 0, true, true, -1, 0⟩ w' ∧ Below W.heap.size W w' := fun W hW => by
    have := disk_New room W
    rw [hW] at this ⊢
    exact this
  have H2' : ∀ W : World, Calls Tryz.prog 10 #[.pointer (some ⟨d, 0, none⟩), .int .i64 size, .int .i64 1] W fun e w' => e = .returned (.pointer (some ⟨W.heap.size, 0, none⟩)) ∧ w'.heap[W.heap.size]? = some (.cells #[.pointer (some ⟨d, 0, none⟩), .int .i64 size, .int .i64 1, .int .i64 0] 74 (0, 0)) ∧ Below W.heap.size W w' := fun W => wal_New d size 1 W
  have H1 := Lib.hid H1'
  have H2 := Lib.hid H2'
  have HUP := Lib.hid (fun (A : Option Addr) (c : Nat) (S : DS) (i j : Nat) (hS : DInv (max room 0) i j S) (hij : i ≤ 900 ∧ j ≤ 900) (W : World) (hB : Below w.heap.size w W) (h : Dk d A c S W) =>
    disk_Up d A c S (hS.ok (by omega) (by omega)) hS.made Ak ck keep hk1 (by omega) W h (fun X hX => (hrk.below (hB.trans (hX.below.mono (by omega)))).more (by have := hB.size; have := hX.below.size; omega)))
  have hk20i : ¬ (20 : Int) < (keep.length : Int) := by omega
  clear H1' H2' ht hrt hli hf hl1 hl2 hl3 hki hrk hk1 hk2 hk20 hd
  go_enter Tryz.func4, Tryz.ntmps4
  go_wp2_with (first
    | (go_at_call 7; (with_reducible refine (HF.out _ (by (repeat (first | assumption | exact Below.refl _ _ | refine below_step (by assumption) ?_ | refine below_alloc' _ ?_ | refine below_drewN ?_ _ | refine Below.drew ?_)))).mono ?_); rintro e w0 ⟨rfl, rfl⟩)
    | (go_at_call 9; (with_reducible refine (H1.out _ (by rw [World.size_alloc]; exact HD.out.symm)).mono ?_); rintro e w1 ⟨rfl, d1, B1⟩; have X1 := bx_cells (bx_kept (heap_alloc_new w _) (B1.mono (by rw [World.size_alloc]; omega))) 1)
    | (go_at_call 10; (with_reducible refine (H2.out _).mono ?_); rintro e w2 ⟨rfl, x2, B2⟩; have hda := d1.lt))
  have B2w : Below w.heap.size w w2 := by
    have h0 : Below w.heap.size w (w.alloc (.cells #[.int .i64 room, .int .i64 size] 48)) := by (repeat (first | assumption | exact Below.refl _ _ | refine below_step (by assumption) ?_ | refine below_alloc' _ ?_ | refine below_drewN ?_ _ | refine Below.drew ?_))
    exact below_step B2 (below_step B1 h0)
  obtain ⟨aa, haa⟩ : ∃ aa, aa = w1.heap.size := ⟨_, rfl⟩
  have l2 : Lg aa d none 0 size ⟨⟨[], max room 0, true, true, -1, 0⟩, 1, 0⟩ w2 := by rw [haa]; exact ⟨d1.kept B2, x2⟩
  rw [← haa] at hda
  rw [← haa]
  have hlt2 := l2.lt
  have I0 : CrI (max room 0) 0 ⟨⟨[], max room 0, true, true, -1, 0⟩, 1, 0⟩ [] 0 [] := ⟨⟨by simp [Sorted], by simp, by simp, by simp [used]; omega, ⟨rfl, by unfold I64 at hroom; omega⟩, rfl, by simp [used], by simp, by simp⟩, ⟨⟨[], max room 0, true, true, -1, 0⟩, ⟨rfl, rfl, rfl, rfl, rfl, List.Perm.refl _⟩, .inl ⟨rfl, rfl, rfl⟩⟩, rfl, by simp, ⟨[], rfl⟩, Nat.le_refl _, by simp, fun _ => ⟨rfl, rfl⟩⟩
  have HI0 := Lib.hid I0
  obtain ⟨R, hR⟩ : ∃ R, R = max room 0 := ⟨_, rfl⟩
  rw [← hR] at HI0 HUP l2
  clear I0 B1 B2 d1 x2 X1 haa H1 H2 HF hR hroom HD
  go_loopw [9, 10] (fun vo vi wr => ∃ (k : Nat) (L : WL) (T : List ByteArray) (p : Nat) (sent : List ByteArray) (A : Option Addr) (c : Nat), k ≤ l.length ∧ vi = .int .i64 k ∧ wr.ownsRow (aa + 1) 9 1 vo sent.length (sent.map Value.string) ∧ Lg aa d A c size L wr ∧ Below w.heap.size w wr ∧ Hid (CrI R k L T p sent)) (fun _ vi _ => l.length - (intOf vi).toNat)
  case atStart => exact ⟨0, _, [], 0, [], none, 0, by omega, rfl, World.ownsRow_nil _ _ _ _, l2, B2w, HI0⟩
  case round =>
    obtain ⟨k, L, T, p, sent, A, c, hk, rfl, ho, hL, B, HI⟩ := hrel
    obtain ⟨As, cs, rfl⟩ := own_slice ho
    have HO := Lib.hid ho
    have hla := hL.lt
    clear l2 B2w HI0 ho
    by_cases hlt : k < l.length
    · obtain ⟨f, hk'⟩ : ∃ f, l[k]? = some f := ⟨l[k], List.getElem?_eq_getElem hlt⟩
      have HK := Lib.hid hk'
      obtain ⟨ad, rfl, hadl, z0, z1, z2⟩ := HR.out.below B k f hk'
      have hi1 : (k : Int) < (l.length : Int) := by omega
      have hs : f.s.size ≤ 100 := HFW.out.2 f (List.mem_of_getElem? hk')
      have hli := HLI.out f (List.mem_of_getElem? hk')
      clear hk'
      by_cases hk3 : f.kind = 3
      · have g3 : (f.kind == 3) = true := by simpa using hk3
        clear hk3
        as_aux_lemma => (
          go_wp2_with (go_at_call 8; (with_reducible refine (HA.out _ B).mono ?_); rintro e y1 ⟨rfl, b1⟩)
          go_ret
          exact ⟨rfl, b1⟩)
      · have g3 : (f.kind == 3) = false := by simpa using hk3
        have hOK := HI.out.ok (by omega)
        have hinv := HI.out.inv
        have hnx := HI.out.nx
        have hlen := HI.out.len
        have CDO := Lib.hid (fun (A : Option Addr) (c : Nat) (W : World) (hb : Below w.heap.size w W) (hl : Lg aa d A c size L W) => law32_do aa d A c size hsize L hOK R (2 * k) (2 * k) hinv (by omega) f hk3 hs W (fun W' hb' => HT.out W' (hb.trans (hb'.mono (by omega)))) hda hl)
        have CNX := Lib.hid (fun (A : Option Addr) (c : Nat) (L' : WL) (W : World) (hl : Lg aa d A c size L' W) => wal_Next aa d A c size L' W hl)
        have HCE := Lib.hid (fun (W : World) (hW : Below w.heap.size w W) => (by obtain ⟨ad', e', _, q0, q1, q2⟩ := HR.out.below hW k _ HK.out; obtain rfl := Option.some.inj e'; exact ⟨q0, q1, q2⟩ : W.cell? (ad.add (k * 3)) = some (.int .i64 f.kind) ∧ W.cell? ⟨(ad.add (k * 3)).block, (ad.add (k * 3)).off + 1, none⟩ = some (.string f.s) ∧ W.cell? ⟨(ad.add (k * 3)).block, (ad.add (k * 3)).off + 2, none⟩ = some (.int .i64 f.n)))
        clear hinv hOK
        by_cases hk1 : f.kind = 1
        · have g1 : (f.kind == 1) = true := by simpa using hk1
          by_cases hpush : (sent.length : Int) = L.nx - 1
          · have g5 : ((sent.length : Int) == L.nx - 1) = true := by simpa using hpush
            obtain ⟨i0, hi, hz0, hz1, hz2⟩ := info_parts' info_str
            have HIS := Lib.hid (And.intro hi (And.intro hz0 (And.intro hz1 hz2)))
            clear hi hz0 hz1 hz2
            rcases HI.out.push (by omega) size f.s hs hpush with ⟨he, T', p', hn⟩ | ⟨he, hnx2, p', hn⟩
            · rcases he with he | he
              · obtain ⟨L2, pv, hap⟩ : ∃ L2 pv, appendW size L f.s = (L2, pv, 0) := ⟨(appendW size L f.s).1, (appendW size L f.s).2.1, by rw [← he]⟩
                rw [hap] at hn
                clear he
                as_aux_lemma => (
                  have CD' : ∀ (A : Option Addr) (c : Nat) (W : World), Below w.heap.size w W → Lg aa d A c size L W → Calls Tryz.prog 19 #[.pointer (some ⟨aa, 0, none⟩), .pointer (some ⟨d, 0, none⟩), .agg #[.int .i64 f.kind, .string f.s, .int .i64 f.n]] W (LPost aa d size L2 (.tuple #[.int .i64 pv, .int .i64 0]) W) := fun A c W hb hl => by
                    have := CDO.out A c W hb hl
                    unfold doW at this
                    rw [if_pos hk1, hap] at this
                    exact this
                  have CD := Lib.hid CD'
                  have HN := Lib.hid hn
                  clear hk1 hk3 hpush hap hn CD' CDO
                  go_wp2_with (first
                    | (go_at_call 18; (with_reducible refine (CNX.out _ _ _ _ hL).mono ?_); rintro e wz ⟨rfl, rfl⟩)
                    | (at_builtin; refine wpList_append_twoN rfl _ _ _ (by rfl) (aa + 1) 9 i0 _ 1 16 Tryz.underlying36 HIS.out.1 HIS.out.2.1 HIS.out.2.2.1 HIS.out.2.2.2 rfl (by decide) (by decide) _ _ _ (by rfl) wr HO.out _ _ rfl (by rfl) (by rfl) (by simp [Value.oneCell']) (by omega) (by omega) ?_; intro g2 cap2 w3 hA; have B3 := app_belowN B HO.out (by omega) (by omega) hA; have l3 := hL.grown hda HO.out hA.gb; have HOP := Lib.hid (own_snoc hA.own); have hcap : sent.length ≤ cap2 := Nat.le_of_succ_le (own_cap hA.own); obtain ⟨y0, y1, y2⟩ := HCE.out _ B3)
                    | (go_at_call 19; (with_reducible refine (CD.out _ _ _ B3 l3).mono ?_); rintro e w4 ⟨rfl, A4, c4, l4, k4⟩; have B4 := Below.trans B3 (k4.below.mono (by omega)); obtain ⟨y0, y1, y2⟩ := HCE.out _ B4; have HO4 := Lib.hid (own_lkeep HOP.out k4 (by omega) (fun g hg => by have := (HOP.out.lt g hg).1; omega) (by decide))))

                  obtain ⟨ns, hM⟩ := mid_calls HN.out (by omega) d
                  have HM := Lib.hid hM
                  have hnl := hM.len
                  clear hM
                  go_wp2_with (first
                    | (go_at_call 13; (with_reducible refine (HM.out.names _ _ _ l4.dk).mono ?_); rintro e w5 ⟨A5, c5, rfl, r5, b5⟩)
                    | (go_at_call 12; (with_reducible refine (HM.out.nums _ _ _ r5).mono ?_); rintro e w6 ⟨A6, c6, rfl, o6, b6⟩; have b46 := below_step b6 b5))
                  have B6 := below_step b46 B4
                  have l6 := l4.kept b46
                  have HO6 := Lib.hid (own_below HO4.out b46)
                  have HNS := Lib.hid o6
                  clear o6 b6 r5 b5 b46 l4 HO4
                  go_loopw [14] (fun vi wr => ∃ k2 : Nat, k2 ≤ 60 ∧ vi = .int .i64 k2 ∧ Below w6.heap.size w6 wr) (fun vi _ => 100 - (intOf vi).toNat)
                  case atStart => exact ⟨0, by omega, rfl, Below.refl _ _⟩
                  case round =>
                    obtain ⟨k2, hk2, rfl, hb7⟩ := hrel
                    by_cases hlt2 : k2 + 1 < ns.length
                    · obtain ⟨n, hn⟩ : ∃ n, ns[k2]? = some n := ⟨ns[k2], List.getElem?_eq_getElem (by omega)⟩
                      obtain ⟨t, b, x, hx, hOf, hRd, hSu⟩ := HM.out.each k2 n hn hlt2
                      obtain ⟨gw, rfl⟩ : ∃ gw, A6 = some ⟨gw, 0, none⟩ := by
                        rcases row_sliceN HNS.out with ⟨_, h0⟩ | ⟨gw, cap, e1, _⟩
                        · omega
                        · exact ⟨gw, by injection e1⟩
                      have HZ := Lib.hid (fun (W : World) (hb : Below w6.heap.size w6 W) => own_cell (own_below HNS.out hb) k2 (.int .i64 n) (by rw [List.getElem?_map, hn]; rfl))
                      have z7 := HZ.out _ hb7
                      have COf := Lib.hid hOf
                      have CRd := Lib.hid hRd
                      have hi2 : (k2 : Int) + 1 < (ns.length : Int) := by omega
                      have hi3 : (k2 : Int) < (ns.length : Int) := by omega
                      have hi4 : k2 < ns.length := by omega
                      have hk3 : k2 + 1 ≤ 60 := by omega
                      clear hOf hRd hn hlt2
                      rcases hx with rfl | rfl
                      · have CSu := Lib.hid (hSu rfl)
                        clear hSu
                        go_wp2_with (first
                          | (go_at_call 15; (with_reducible refine (COf.out w8).mono ?_); rintro e w9 ⟨rfl, b9⟩; have hb9 := below_step b9 hb8)
                          | (go_at_call 15; (with_reducible refine (COf.out _).mono ?_); rintro e wq ⟨rfl, bq⟩; have hbq := below_step bq hb7)
                          | (go_at_call 14; (with_reducible refine (CRd.out _ _ _ (l6.kept hbq).dk).mono ?_); rintro e w8 ⟨rfl, b8⟩; have hb8 := below_step b8 hbq; have z8 := HZ.out _ hb8)
                          | (go_at_call 20; (with_reducible refine (CSu.out _ _ _ (l6.kept hb9).dk).mono ?_); rintro e w10 ⟨rfl, b10⟩; have hb10 := below_step b10 hb9))
                        exact ⟨⟨k2 + 1, hk3, by go_num, hb10⟩, by show 100 - ((k2 : Int) + 1).toNat < 100 - ((k2 : Int)).toNat; omega⟩
                      · clear hSu
                        go_wp2_with (first
                          | (go_at_call 15; (with_reducible refine (COf.out _).mono ?_); rintro e wq ⟨rfl, bq⟩; have hbq := below_step bq hb7)
                          | (go_at_call 14; (with_reducible refine (CRd.out _ _ _ (l6.kept hbq).dk).mono ?_); rintro e w8 ⟨rfl, b8⟩; have hb8 := below_step b8 hbq))
                        exact ⟨⟨k2 + 1, hk3, by go_num, hb8⟩, by show 100 - ((k2 : Int) + 1).toNat < 100 - ((k2 : Int)).toNat; omega⟩
                    · have hi2 : ¬ (k2 : Int) + 1 < (ns.length : Int) := by omega
                      clear hlt2
                      go_wp2_with fail
                      exact ⟨⟨k + 1, L2, T', p', sent ++ [f.s], A4, c4, by omega, by go_num, own_below HO6.out hb7, l6.kept hb7, below_step hb7 B6, HN⟩, by show l.length - ((k : Int) + 1).toNat < l.length - ((k : Int)).toNat; omega⟩
                  )
              · obtain ⟨L2, pv, hap⟩ : ∃ L2 pv, appendW size L f.s = (L2, pv, 9) := ⟨(appendW size L f.s).1, (appendW size L f.s).2.1, by rw [← he]⟩
                rw [hap] at hn
                clear he
                as_aux_lemma => (
                  have CD' : ∀ (A : Option Addr) (c : Nat) (W : World), Below w.heap.size w W → Lg aa d A c size L W → Calls Tryz.prog 19 #[.pointer (some ⟨aa, 0, none⟩), .pointer (some ⟨d, 0, none⟩), .agg #[.int .i64 f.kind, .string f.s, .int .i64 f.n]] W (LPost aa d size L2 (.tuple #[.int .i64 pv, .int .i64 9]) W) := fun A c W hb hl => by
                    have := CDO.out A c W hb hl
                    unfold doW at this
                    rw [if_pos hk1, hap] at this
                    exact this
                  have CD := Lib.hid CD'
                  have HN := Lib.hid hn
                  clear hk1 hk3 hpush hap hn CD' CDO
                  go_wp2_with (first
                    | (go_at_call 18; (with_reducible refine (CNX.out _ _ _ _ hL).mono ?_); rintro e wz ⟨rfl, rfl⟩)
                    | (at_builtin; refine wpList_append_twoN rfl _ _ _ (by rfl) (aa + 1) 9 i0 _ 1 16 Tryz.underlying36 HIS.out.1 HIS.out.2.1 HIS.out.2.2.1 HIS.out.2.2.2 rfl (by decide) (by decide) _ _ _ (by rfl) wr HO.out _ _ rfl (by rfl) (by rfl) (by simp [Value.oneCell']) (by omega) (by omega) ?_; intro g2 cap2 w3 hA; have B3 := app_belowN B HO.out (by omega) (by omega) hA; have l3 := hL.grown hda HO.out hA.gb; have HOP := Lib.hid (own_snoc hA.own); have hcap : sent.length ≤ cap2 := Nat.le_of_succ_le (own_cap hA.own); obtain ⟨y0, y1, y2⟩ := HCE.out _ B3)
                    | (go_at_call 19; (with_reducible refine (CD.out _ _ _ B3 l3).mono ?_); rintro e w4 ⟨rfl, A4, c4, l4, k4⟩; have B4 := Below.trans B3 (k4.below.mono (by omega)); obtain ⟨y0, y1, y2⟩ := HCE.out _ B4; have HO4 := Lib.hid (own_lkeep HOP.out k4 (by omega) (fun g hg => by have := (HOP.out.lt g hg).1; omega) (by decide))))

                  obtain ⟨ns, hM⟩ := mid_calls HN.out (by omega) d
                  have HM := Lib.hid hM
                  have hnl := hM.len
                  clear hM
                  go_wp2_with (first
                    | (go_at_call 13; (with_reducible refine (HM.out.names _ _ _ l4.dk).mono ?_); rintro e w5 ⟨A5, c5, rfl, r5, b5⟩)
                    | (go_at_call 12; (with_reducible refine (HM.out.nums _ _ _ r5).mono ?_); rintro e w6 ⟨A6, c6, rfl, o6, b6⟩; have b46 := below_step b6 b5))
                  have B6 := below_step b46 B4
                  have l6 := l4.kept b46
                  have HO6 := Lib.hid (own_below HO4.out b46)
                  have HNS := Lib.hid o6
                  clear o6 b6 r5 b5 b46 l4 HO4
                  go_loopw [14] (fun vi wr => ∃ k2 : Nat, k2 ≤ 60 ∧ vi = .int .i64 k2 ∧ Below w6.heap.size w6 wr) (fun vi _ => 100 - (intOf vi).toNat)
                  case atStart => exact ⟨0, by omega, rfl, Below.refl _ _⟩
                  case round =>
                    obtain ⟨k2, hk2, rfl, hb7⟩ := hrel
                    by_cases hlt2 : k2 + 1 < ns.length
                    · obtain ⟨n, hn⟩ : ∃ n, ns[k2]? = some n := ⟨ns[k2], List.getElem?_eq_getElem (by omega)⟩
                      obtain ⟨t, b, x, hx, hOf, hRd, hSu⟩ := HM.out.each k2 n hn hlt2
                      obtain ⟨gw, rfl⟩ : ∃ gw, A6 = some ⟨gw, 0, none⟩ := by
                        rcases row_sliceN HNS.out with ⟨_, h0⟩ | ⟨gw, cap, e1, _⟩
                        · omega
                        · exact ⟨gw, by injection e1⟩
                      have HZ := Lib.hid (fun (W : World) (hb : Below w6.heap.size w6 W) => own_cell (own_below HNS.out hb) k2 (.int .i64 n) (by rw [List.getElem?_map, hn]; rfl))
                      have z7 := HZ.out _ hb7
                      have COf := Lib.hid hOf
                      have CRd := Lib.hid hRd
                      have hi2 : (k2 : Int) + 1 < (ns.length : Int) := by omega
                      have hi3 : (k2 : Int) < (ns.length : Int) := by omega
                      have hi4 : k2 < ns.length := by omega
                      have hk3 : k2 + 1 ≤ 60 := by omega
                      clear hOf hRd hn hlt2
                      rcases hx with rfl | rfl
                      · have CSu := Lib.hid (hSu rfl)
                        clear hSu
                        go_wp2_with (first
                          | (go_at_call 15; (with_reducible refine (COf.out w8).mono ?_); rintro e w9 ⟨rfl, b9⟩; have hb9 := below_step b9 hb8)
                          | (go_at_call 15; (with_reducible refine (COf.out _).mono ?_); rintro e wq ⟨rfl, bq⟩; have hbq := below_step bq hb7)
                          | (go_at_call 14; (with_reducible refine (CRd.out _ _ _ (l6.kept hbq).dk).mono ?_); rintro e w8 ⟨rfl, b8⟩; have hb8 := below_step b8 hbq; have z8 := HZ.out _ hb8)
                          | (go_at_call 20; (with_reducible refine (CSu.out _ _ _ (l6.kept hb9).dk).mono ?_); rintro e w10 ⟨rfl, b10⟩; have hb10 := below_step b10 hb9))
                        exact ⟨⟨k2 + 1, hk3, by go_num, hb10⟩, by show 100 - ((k2 : Int) + 1).toNat < 100 - ((k2 : Int)).toNat; omega⟩
                      · clear hSu
                        go_wp2_with (first
                          | (go_at_call 15; (with_reducible refine (COf.out _).mono ?_); rintro e wq ⟨rfl, bq⟩; have hbq := below_step bq hb7)
                          | (go_at_call 14; (with_reducible refine (CRd.out _ _ _ (l6.kept hbq).dk).mono ?_); rintro e w8 ⟨rfl, b8⟩; have hb8 := below_step b8 hbq))
                        exact ⟨⟨k2 + 1, hk3, by go_num, hb8⟩, by show 100 - ((k2 : Int) + 1).toNat < 100 - ((k2 : Int)).toNat; omega⟩
                    · have hi2 : ¬ (k2 : Int) + 1 < (ns.length : Int) := by omega
                      clear hlt2
                      go_wp2_with fail
                      exact ⟨⟨k + 1, L2, T', p', sent ++ [f.s], A4, c4, by omega, by go_num, own_below HO6.out hb7, l6.kept hb7, below_step hb7 B6, HN⟩, by show l.length - ((k : Int) + 1).toNat < l.length - ((k : Int)).toNat; omega⟩
                  )
            · obtain ⟨L2, pv, hap⟩ : ∃ L2 pv, appendW size L f.s = (L2, pv, 5) := ⟨(appendW size L f.s).1, (appendW size L f.s).2.1, by rw [← he]⟩
              rw [hap] at hn hnx2
              simp only at hnx2
              clear he
              as_aux_lemma => (
                have CD' : ∀ (A : Option Addr) (c : Nat) (W : World), Below w.heap.size w W → Lg aa d A c size L W → Calls Tryz.prog 19 #[.pointer (some ⟨aa, 0, none⟩), .pointer (some ⟨d, 0, none⟩), .agg #[.int .i64 f.kind, .string f.s, .int .i64 f.n]] W (LPost aa d size L2 (.tuple #[.int .i64 pv, .int .i64 5]) W) := fun A c W hb hl => by
                  have := CDO.out A c W hb hl
                  unfold doW at this
                  rw [if_pos hk1, hap] at this
                  exact this
                have CD := Lib.hid CD'
                have HN := Lib.hid hn
                have g7 : max (0 : Int) (min ((sent.length : Int) + 1) (L2.nx - 1)) = (sent.length : Int) := by omega
                have hb1 : 1 ≤ L2.nx := by omega
                have hb2 : L2.nx ≤ 100 := by omega
                clear hk1 hk3 hpush hap hn CD' CDO hnx2
                go_wp2_with (first
                  | (go_at_call 18; (with_reducible refine (CNX.out _ _ _ _ l4).mono ?_); rintro e wy ⟨rfl, rfl⟩)
                  | (go_at_call 18; (with_reducible refine (CNX.out _ _ _ _ hL).mono ?_); rintro e wz ⟨rfl, rfl⟩)
                  | (at_builtin; refine wpList_append_twoN rfl _ _ _ (by rfl) (aa + 1) 9 i0 _ 1 16 Tryz.underlying36 HIS.out.1 HIS.out.2.1 HIS.out.2.2.1 HIS.out.2.2.2 rfl (by decide) (by decide) _ _ _ (by rfl) wr HO.out _ _ rfl (by rfl) (by rfl) (by simp [Value.oneCell']) (by omega) (by omega) ?_; intro g2 cap2 w3 hA; have B3 := app_belowN B HO.out (by omega) (by omega) hA; have l3 := hL.grown hda HO.out hA.gb; have HOP := Lib.hid (own_snoc hA.own); have hcap : sent.length ≤ cap2 := Nat.le_of_succ_le (own_cap hA.own); obtain ⟨y0, y1, y2⟩ := HCE.out _ B3)
                  | (go_at_call 19; (with_reducible refine (CD.out _ _ _ B3 l3).mono ?_); rintro e w4 ⟨rfl, A4, c4, l4, k4⟩; have B4 := Below.trans B3 (k4.below.mono (by omega)); obtain ⟨y0, y1, y2⟩ := HCE.out _ B4; have HO4 := Lib.hid (own_lkeep HOP.out k4 (by omega) (fun g hg => by have := (HOP.out.lt g hg).1; omega) (by decide))))
                have HO4 := Lib.hid (own_cutS HO4.out)

                obtain ⟨ns, hM⟩ := mid_calls HN.out (by omega) d
                have HM := Lib.hid hM
                have hnl := hM.len
                clear hM
                go_wp2_with (first
                  | (go_at_call 13; (with_reducible refine (HM.out.names _ _ _ l4.dk).mono ?_); rintro e w5 ⟨A5, c5, rfl, r5, b5⟩)
                  | (go_at_call 12; (with_reducible refine (HM.out.nums _ _ _ r5).mono ?_); rintro e w6 ⟨A6, c6, rfl, o6, b6⟩; have b46 := below_step b6 b5))
                have B6 := below_step b46 B4
                have l6 := l4.kept b46
                have HO6 := Lib.hid (own_below HO4.out b46)
                have HNS := Lib.hid o6
                clear o6 b6 r5 b5 b46 l4 HO4
                go_loopw [14] (fun vi wr => ∃ k2 : Nat, k2 ≤ 60 ∧ vi = .int .i64 k2 ∧ Below w6.heap.size w6 wr) (fun vi _ => 100 - (intOf vi).toNat)
                case atStart => exact ⟨0, by omega, rfl, Below.refl _ _⟩
                case round =>
                  obtain ⟨k2, hk2, rfl, hb7⟩ := hrel
                  by_cases hlt2 : k2 + 1 < ns.length
                  · obtain ⟨n, hn⟩ : ∃ n, ns[k2]? = some n := ⟨ns[k2], List.getElem?_eq_getElem (by omega)⟩
                    obtain ⟨t, b, x, hx, hOf, hRd, hSu⟩ := HM.out.each k2 n hn hlt2
                    obtain ⟨gw, rfl⟩ : ∃ gw, A6 = some ⟨gw, 0, none⟩ := by
                      rcases row_sliceN HNS.out with ⟨_, h0⟩ | ⟨gw, cap, e1, _⟩
                      · omega
                      · exact ⟨gw, by injection e1⟩
                    have HZ := Lib.hid (fun (W : World) (hb : Below w6.heap.size w6 W) => own_cell (own_below HNS.out hb) k2 (.int .i64 n) (by rw [List.getElem?_map, hn]; rfl))
                    have z7 := HZ.out _ hb7
                    have COf := Lib.hid hOf
                    have CRd := Lib.hid hRd
                    have hi2 : (k2 : Int) + 1 < (ns.length : Int) := by omega
                    have hi3 : (k2 : Int) < (ns.length : Int) := by omega
                    have hi4 : k2 < ns.length := by omega
                    have hk3 : k2 + 1 ≤ 60 := by omega
                    clear hOf hRd hn hlt2
                    rcases hx with rfl | rfl
                    · have CSu := Lib.hid (hSu rfl)
                      clear hSu
                      go_wp2_with (first
                        | (go_at_call 15; (with_reducible refine (COf.out w8).mono ?_); rintro e w9 ⟨rfl, b9⟩; have hb9 := below_step b9 hb8)
                        | (go_at_call 15; (with_reducible refine (COf.out _).mono ?_); rintro e wq ⟨rfl, bq⟩; have hbq := below_step bq hb7)
                        | (go_at_call 14; (with_reducible refine (CRd.out _ _ _ (l6.kept hbq).dk).mono ?_); rintro e w8 ⟨rfl, b8⟩; have hb8 := below_step b8 hbq; have z8 := HZ.out _ hb8)
                        | (go_at_call 20; (with_reducible refine (CSu.out _ _ _ (l6.kept hb9).dk).mono ?_); rintro e w10 ⟨rfl, b10⟩; have hb10 := below_step b10 hb9))
                      exact ⟨⟨k2 + 1, hk3, by go_num, hb10⟩, by show 100 - ((k2 : Int) + 1).toNat < 100 - ((k2 : Int)).toNat; omega⟩
                    · clear hSu
                      go_wp2_with (first
                        | (go_at_call 15; (with_reducible refine (COf.out _).mono ?_); rintro e wq ⟨rfl, bq⟩; have hbq := below_step bq hb7)
                        | (go_at_call 14; (with_reducible refine (CRd.out _ _ _ (l6.kept hbq).dk).mono ?_); rintro e w8 ⟨rfl, b8⟩; have hb8 := below_step b8 hbq))
                      exact ⟨⟨k2 + 1, hk3, by go_num, hb8⟩, by show 100 - ((k2 : Int) + 1).toNat < 100 - ((k2 : Int)).toNat; omega⟩
                  · have hi2 : ¬ (k2 : Int) + 1 < (ns.length : Int) := by omega
                    clear hlt2
                    go_wp2_with fail
                    exact ⟨⟨k + 1, L2, T, p', sent, A4, c4, by omega, by go_num, own_below HO6.out hb7, l6.kept hb7, below_step hb7 B6, HN⟩, by show l.length - ((k : Int) + 1).toNat < l.length - ((k : Int)).toNat; omega⟩
                )
          · obtain ⟨hap, hn⟩ := HI.out.late size f.s hpush
            have g5 : ((sent.length : Int) == L.nx - 1) = false := by simpa using hpush
            have HOP := HO
            as_aux_lemma => (
              have CD' : ∀ (A : Option Addr) (c : Nat) (W : World), Below w.heap.size w W → Lg aa d A c size L W → Calls Tryz.prog 19 #[.pointer (some ⟨aa, 0, none⟩), .pointer (some ⟨d, 0, none⟩), .agg #[.int .i64 f.kind, .string f.s, .int .i64 f.n]] W (LPost aa d size L (.tuple #[.int .i64 0, .int .i64 9]) W) := fun A c W hb hl => by
                have := CDO.out A c W hb hl
                unfold doW at this
                rw [if_pos hk1, hap] at this
                exact this
              have CD := Lib.hid CD'
              have HN := Lib.hid hn
              clear hk1 hk3 hpush hap hn CD' CDO
              go_wp2_with (first
                | (go_at_call 18; (with_reducible refine (CNX.out _ _ _ _ hL).mono ?_); rintro e wz ⟨rfl, rfl⟩)
                | (go_at_call 19; (with_reducible refine (CD.out _ _ _ B hL).mono ?_); rintro e w4 ⟨rfl, A4, c4, l4, k4⟩; have B4 := Below.trans B (k4.below.mono (by omega)); obtain ⟨y0, y1, y2⟩ := HCE.out _ B4; have HO4 := Lib.hid (own_lkeep HOP.out k4 (by omega) (fun g hg => by have := (HOP.out.lt g hg).1; omega) (by decide))))

              obtain ⟨ns, hM⟩ := mid_calls HN.out (by omega) d
              have HM := Lib.hid hM
              have hnl := hM.len
              clear hM
              go_wp2_with (first
                | (go_at_call 13; (with_reducible refine (HM.out.names _ _ _ l4.dk).mono ?_); rintro e w5 ⟨A5, c5, rfl, r5, b5⟩)
                | (go_at_call 12; (with_reducible refine (HM.out.nums _ _ _ r5).mono ?_); rintro e w6 ⟨A6, c6, rfl, o6, b6⟩; have b46 := below_step b6 b5))
              have B6 := below_step b46 B4
              have l6 := l4.kept b46
              have HO6 := Lib.hid (own_below HO4.out b46)
              have HNS := Lib.hid o6
              clear o6 b6 r5 b5 b46 l4 HO4
              go_loopw [14] (fun vi wr => ∃ k2 : Nat, k2 ≤ 60 ∧ vi = .int .i64 k2 ∧ Below w6.heap.size w6 wr) (fun vi _ => 100 - (intOf vi).toNat)
              case atStart => exact ⟨0, by omega, rfl, Below.refl _ _⟩
              case round =>
                obtain ⟨k2, hk2, rfl, hb7⟩ := hrel
                by_cases hlt2 : k2 + 1 < ns.length
                · obtain ⟨n, hn⟩ : ∃ n, ns[k2]? = some n := ⟨ns[k2], List.getElem?_eq_getElem (by omega)⟩
                  obtain ⟨t, b, x, hx, hOf, hRd, hSu⟩ := HM.out.each k2 n hn hlt2
                  obtain ⟨gw, rfl⟩ : ∃ gw, A6 = some ⟨gw, 0, none⟩ := by
                    rcases row_sliceN HNS.out with ⟨_, h0⟩ | ⟨gw, cap, e1, _⟩
                    · omega
                    · exact ⟨gw, by injection e1⟩
                  have HZ := Lib.hid (fun (W : World) (hb : Below w6.heap.size w6 W) => own_cell (own_below HNS.out hb) k2 (.int .i64 n) (by rw [List.getElem?_map, hn]; rfl))
                  have z7 := HZ.out _ hb7
                  have COf := Lib.hid hOf
                  have CRd := Lib.hid hRd
                  have hi2 : (k2 : Int) + 1 < (ns.length : Int) := by omega
                  have hi3 : (k2 : Int) < (ns.length : Int) := by omega
                  have hi4 : k2 < ns.length := by omega
                  have hk3 : k2 + 1 ≤ 60 := by omega
                  clear hOf hRd hn hlt2
                  rcases hx with rfl | rfl
                  · have CSu := Lib.hid (hSu rfl)
                    clear hSu
                    go_wp2_with (first
                      | (go_at_call 15; (with_reducible refine (COf.out w8).mono ?_); rintro e w9 ⟨rfl, b9⟩; have hb9 := below_step b9 hb8)
                      | (go_at_call 15; (with_reducible refine (COf.out _).mono ?_); rintro e wq ⟨rfl, bq⟩; have hbq := below_step bq hb7)
                      | (go_at_call 14; (with_reducible refine (CRd.out _ _ _ (l6.kept hbq).dk).mono ?_); rintro e w8 ⟨rfl, b8⟩; have hb8 := below_step b8 hbq; have z8 := HZ.out _ hb8)
                      | (go_at_call 20; (with_reducible refine (CSu.out _ _ _ (l6.kept hb9).dk).mono ?_); rintro e w10 ⟨rfl, b10⟩; have hb10 := below_step b10 hb9))
                    exact ⟨⟨k2 + 1, hk3, by go_num, hb10⟩, by show 100 - ((k2 : Int) + 1).toNat < 100 - ((k2 : Int)).toNat; omega⟩
                  · clear hSu
                    go_wp2_with (first
                      | (go_at_call 15; (with_reducible refine (COf.out _).mono ?_); rintro e wq ⟨rfl, bq⟩; have hbq := below_step bq hb7)
                      | (go_at_call 14; (with_reducible refine (CRd.out _ _ _ (l6.kept hbq).dk).mono ?_); rintro e w8 ⟨rfl, b8⟩; have hb8 := below_step b8 hbq))
                    exact ⟨⟨k2 + 1, hk3, by go_num, hb8⟩, by show 100 - ((k2 : Int) + 1).toNat < 100 - ((k2 : Int)).toNat; omega⟩
                · have hi2 : ¬ (k2 : Int) + 1 < (ns.length : Int) := by omega
                  clear hlt2
                  go_wp2_with fail
                  exact ⟨⟨k + 1, L, T, p, sent, A4, c4, by omega, by go_num, own_below HO6.out hb7, l6.kept hb7, below_step hb7 B6, HN⟩, by show l.length - ((k : Int) + 1).toNat < l.length - ((k : Int)).toNat; omega⟩
              )
        · have g1 : (f.kind == 1) = false := by simpa using hk1
          have HOP := HO
          obtain ⟨L2, pv, ev, p', hdo, hn⟩ : ∃ L2 pv ev p', doW size L f = (L2, pv, ev) ∧ CrI R (k + 1) L2 T p' sent := by
            by_cases hk2 : f.kind = 2
            · obtain ⟨p', h1, _⟩ := HI.out.sync (by omega)
              exact ⟨(syncW L).1, 0, (syncW L).2, p', by unfold doW; rw [if_neg hk1, if_pos hk2], h1⟩
            · exact ⟨_, 0, 0, p, by unfold doW; rw [if_neg hk1, if_neg hk2], HI.out.fuse f.n hli.2.1⟩
          as_aux_lemma => (
            have CD' : ∀ (A : Option Addr) (c : Nat) (W : World), Below w.heap.size w W → Lg aa d A c size L W → Calls Tryz.prog 19 #[.pointer (some ⟨aa, 0, none⟩), .pointer (some ⟨d, 0, none⟩), .agg #[.int .i64 f.kind, .string f.s, .int .i64 f.n]] W (LPost aa d size L2 (.tuple #[.int .i64 pv, .int .i64 ev]) W) := fun A c W hb hl => by
              have := CDO.out A c W hb hl
              rw [hdo] at this
              exact this
            have CD := Lib.hid CD'
            have HN := Lib.hid hn
            clear hk1 hk3 hdo hn CD' CDO
            go_wp2_with ((go_at_call 19; (with_reducible refine (CD.out _ _ _ B hL).mono ?_); rintro e w4 ⟨rfl, A4, c4, l4, k4⟩; have B4 := Below.trans B (k4.below.mono (by omega)); obtain ⟨y0, y1, y2⟩ := HCE.out _ B4; have HO4 := Lib.hid (own_lkeep HOP.out k4 (by omega) (fun g hg => by have := (HOP.out.lt g hg).1; omega) (by decide))))

            obtain ⟨ns, hM⟩ := mid_calls HN.out (by omega) d
            have HM := Lib.hid hM
            have hnl := hM.len
            clear hM
            go_wp2_with (first
              | (go_at_call 13; (with_reducible refine (HM.out.names _ _ _ l4.dk).mono ?_); rintro e w5 ⟨A5, c5, rfl, r5, b5⟩)
              | (go_at_call 12; (with_reducible refine (HM.out.nums _ _ _ r5).mono ?_); rintro e w6 ⟨A6, c6, rfl, o6, b6⟩; have b46 := below_step b6 b5))
            have B6 := below_step b46 B4
            have l6 := l4.kept b46
            have HO6 := Lib.hid (own_below HO4.out b46)
            have HNS := Lib.hid o6
            clear o6 b6 r5 b5 b46 l4 HO4
            go_loopw [14] (fun vi wr => ∃ k2 : Nat, k2 ≤ 60 ∧ vi = .int .i64 k2 ∧ Below w6.heap.size w6 wr) (fun vi _ => 100 - (intOf vi).toNat)
            case atStart => exact ⟨0, by omega, rfl, Below.refl _ _⟩
            case round =>
              obtain ⟨k2, hk2, rfl, hb7⟩ := hrel
              by_cases hlt2 : k2 + 1 < ns.length
              · obtain ⟨n, hn⟩ : ∃ n, ns[k2]? = some n := ⟨ns[k2], List.getElem?_eq_getElem (by omega)⟩
                obtain ⟨t, b, x, hx, hOf, hRd, hSu⟩ := HM.out.each k2 n hn hlt2
                obtain ⟨gw, rfl⟩ : ∃ gw, A6 = some ⟨gw, 0, none⟩ := by
                  rcases row_sliceN HNS.out with ⟨_, h0⟩ | ⟨gw, cap, e1, _⟩
                  · omega
                  · exact ⟨gw, by injection e1⟩
                have HZ := Lib.hid (fun (W : World) (hb : Below w6.heap.size w6 W) => own_cell (own_below HNS.out hb) k2 (.int .i64 n) (by rw [List.getElem?_map, hn]; rfl))
                have z7 := HZ.out _ hb7
                have COf := Lib.hid hOf
                have CRd := Lib.hid hRd
                have hi2 : (k2 : Int) + 1 < (ns.length : Int) := by omega
                have hi3 : (k2 : Int) < (ns.length : Int) := by omega
                have hi4 : k2 < ns.length := by omega
                have hk3 : k2 + 1 ≤ 60 := by omega
                clear hOf hRd hn hlt2
                rcases hx with rfl | rfl
                · have CSu := Lib.hid (hSu rfl)
                  clear hSu
                  go_wp2_with (first
                    | (go_at_call 15; (with_reducible refine (COf.out w8).mono ?_); rintro e w9 ⟨rfl, b9⟩; have hb9 := below_step b9 hb8)
                    | (go_at_call 15; (with_reducible refine (COf.out _).mono ?_); rintro e wq ⟨rfl, bq⟩; have hbq := below_step bq hb7)
                    | (go_at_call 14; (with_reducible refine (CRd.out _ _ _ (l6.kept hbq).dk).mono ?_); rintro e w8 ⟨rfl, b8⟩; have hb8 := below_step b8 hbq; have z8 := HZ.out _ hb8)
                    | (go_at_call 20; (with_reducible refine (CSu.out _ _ _ (l6.kept hb9).dk).mono ?_); rintro e w10 ⟨rfl, b10⟩; have hb10 := below_step b10 hb9))
                  exact ⟨⟨k2 + 1, hk3, by go_num, hb10⟩, by show 100 - ((k2 : Int) + 1).toNat < 100 - ((k2 : Int)).toNat; omega⟩
                · clear hSu
                  go_wp2_with (first
                    | (go_at_call 15; (with_reducible refine (COf.out _).mono ?_); rintro e wq ⟨rfl, bq⟩; have hbq := below_step bq hb7)
                    | (go_at_call 14; (with_reducible refine (CRd.out _ _ _ (l6.kept hbq).dk).mono ?_); rintro e w8 ⟨rfl, b8⟩; have hb8 := below_step b8 hbq))
                  exact ⟨⟨k2 + 1, hk3, by go_num, hb8⟩, by show 100 - ((k2 : Int) + 1).toNat < 100 - ((k2 : Int)).toNat; omega⟩
              · have hi2 : ¬ (k2 : Int) + 1 < (ns.length : Int) := by omega
                clear hlt2
                go_wp2_with fail
                exact ⟨⟨k + 1, L2, T, p', sent, A4, c4, by omega, by go_num, own_below HO6.out hb7, l6.kept hb7, below_step hb7 B6, HN⟩, by show l.length - ((k : Int) + 1).toNat < l.length - ((k : Int)).toNat; omega⟩
            )
    · have hi1 : ¬ (k : Int) < (l.length : Int) := by omega
      obtain ⟨ns, st, hE⟩ := end_calls HI.out (by omega) d keep
      have hinv := HI.out.inv
      have hS1 : DInv R (2 * k) (2 * k) { L.S with on := false, fuse := -1 } := { hinv with fuse := by simp only; omega }
      have hsy : L.sy = (p : Int) := HI.out.sy
      have hsl := HI.out.len
      have hnl := hE.len
      have CSY := Lib.hid (wal_Synced aa d A c size L wr hL)
      have CCR := Lib.hid (disk_Crash d A c L.S wr hL.dk)
      have CUP := Lib.hid (fun (A : Option Addr) (c : Nat) (W : World) (hB : Below w.heap.size w W) (h : Dk d A c { L.S with on := false, fuse := -1 } W) => HUP.out A c _ (2 * k) (2 * k) hS1 (by omega) W hB h)
      rw [hsy] at CSY
      clear hS1 hinv
      generalize upD { L.S with on := false, fuse := -1 } keep = S2 at CUP hE
      have HE := Lib.hid hE
      clear hE hsy HUP HI HR HLI HFW hk hlt hL
      go_wp2_with (first
        | (go_at_call 21; (with_reducible refine (CSY.out).mono ?_); rintro e y1 ⟨rfl, rfl⟩)
        | (go_at_call 22; (with_reducible refine (CCR.out).mono ?_); rintro e y2 ⟨rfl, d2, k2⟩; have B2 := B.trans (k2.below.mono (by omega)); have HO2 := Lib.hid (own_lkeep HO.out (LKeep.of_d (a := aa) k2) (by omega) (fun g hg => by have := (HO.out.lt g hg).1; omega) (by decide)))
        | (go_at_call 23; (with_reducible refine (CUP.out _ _ _ B2 d2).mono ?_); rintro e y3 ⟨rfl, A3, c3, d3, k3⟩; have B3 := B2.trans (k3.below.mono (by omega)); have HO3 := Lib.hid (own_lkeep HO2.out (LKeep.of_d (a := aa) k3) (by omega) (fun g hg => by have := (HO2.out.lt g hg).1; omega) (by decide)))
        | (go_at_call 13; (with_reducible refine (HE.out.names _ _ _ d3).mono ?_); rintro e y4 ⟨A4, c4, rfl, r4, b4⟩)
        | (go_at_call 12; (with_reducible refine (HE.out.nums _ _ _ r4).mono ?_); rintro e y5 ⟨A5, c5, rfl, o5, b5⟩; have b35 := below_step b5 b4))
      have B5 := below_step b35 B3
      have d5 := d3.kept b35
      have HO5 := Lib.hid (own_below HO3.out b35)
      have HNS := Lib.hid o5
      clear o5 b5 r4 b4 b35 d3 d2 k2 k3 HO3 HO2 HO B2 B3 B CSY CCR CUP
      go_loopw [19, 20, 21] (fun vs vt vk wr => ∃ (kk j : Nat) (bb : Bool), kk ≤ ns.length ∧ vk = .int .i64 kk ∧ vs = .int .i64 j ∧ vt = .bool bb ∧ j ≤ 40 ∧ Hid ((kk < ns.length → j = st kk ∧ bb = false) ∧ (kk = ns.length → p ≤ j)) ∧ Below y5.heap.size y5 wr) (fun _ _ vk _ => 60 - (intOf vk).toNat)
      case atStart => exact ⟨0, 0, false, by omega, rfl, rfl, rfl, by omega, Lib.hid ⟨fun _ => ⟨HE.out.start.symm, rfl⟩, fun h => by have := HE.out.zero h.symm; omega⟩, Below.refl _ _⟩
      case round =>
        obtain ⟨kk, j, bb, hkk, rfl, rfl, rfl, hj40, HJ, hb6⟩ := hrel
        by_cases hlt2 : kk < ns.length
        · obtain ⟨hj, rfl⟩ := HJ.out.1 hlt2
          obtain ⟨n, hn⟩ : ∃ n, ns[kk]? = some n := ⟨ns[kk], List.getElem?_eq_getElem hlt2⟩
          obtain ⟨hnj, t, cc, m, sz, er, e1, e2, e3, e4, cOf, cRd, cAll, e5, e6⟩ := HE.out.each kk n hn
          rw [← hj] at hnj e1 e2 cAll e5 e6
          subst hnj
          obtain ⟨gw, rfl⟩ : ∃ gw, A5 = some ⟨gw, 0, none⟩ := by
            rcases row_sliceN HNS.out with ⟨_, h0⟩ | ⟨gw, cap, e1, _⟩
            · omega
            · exact ⟨gw, by injection e1⟩
          have HZ := Lib.hid (fun (W : World) (hb : Below y5.heap.size y5 W) => own_cell (own_below HNS.out hb) kk (.int .i64 ((j : Int) + 1)) (by rw [List.getElem?_map, hn]; rfl))
          have z6 := HZ.out _ hb6
          have COf := Lib.hid cOf
          have CRd := Lib.hid cRd
          have CAll := Lib.hid cAll
          have HE5 := Lib.hid e5
          have HE6 := Lib.hid e6
          have hi2 : (kk : Int) < (ns.length : Int) := by omega
          clear hn cOf cRd cAll e5 e6 hj HJ
          go_wp2_with (first
            | (go_at_call 15; (with_reducible refine (COf.out _).mono ?_); rintro e y7 ⟨rfl, b7⟩; have hb7 := below_step b7 hb6)
            | (go_at_call 14; (with_reducible refine (CRd.out _ _ _ (d5.kept hb7)).mono ?_); rintro e y8 ⟨rfl, b8⟩; have hb8 := below_step b8 hb7)
            | (go_at_call 17; (with_reducible refine (CAll.out _).mono ?_); rintro e y9 ⟨A6, c6, rfl, b9, hfr⟩; have hb9 := below_step b9 hb8; have z9 := HZ.out _ hb9))
          have HFR := Lib.hid hfr
          have HB9 := Lib.hid hb9
          clear hfr b7 b8 b9 z6 z9 hb7 hb8 hb9 hb6
          go_loopw [19, 27] (fun vs vi wr => ∃ i q : Nat, i ≤ m ∧ vi = .int .i64 i ∧ vs = .int .i64 q ∧ q ≤ 40 ∧ Hid (q = j + i) ∧ Below y9.heap.size y9 wr) (fun _ vi _ => m - (intOf vi).toNat)
          case atStart => exact ⟨0, j, by omega, rfl, rfl, by omega, Lib.hid rfl, Below.refl _ _⟩
          case round =>
            obtain ⟨i, q, him, rfl, rfl, hq40, HQ, hb10⟩ := hrel
            by_cases hlt3 : i < m
            · obtain ⟨x, ad, hx, rfl, hadl, y1, y2⟩ := HFR.out i hlt3
              have hq := HQ.out
              rw [← hq] at hx y1
              have hqs : q < sent.length := by omega
              obtain ⟨gs, rfl⟩ : ∃ gs, As = some ⟨gs, 0, none⟩ := by
                rcases row_sliceN HO5.out with ⟨_, h0⟩ | ⟨gs, cap, e1, _⟩
                · omega
                · exact ⟨gs, by injection e1⟩
              have s1 := own_cell (own_below HO5.out (below_step hb10 HB9.out)) q (.string x) (by rw [List.getElem?_map, hx]; rfl)
              have s2 := (hb10.cell (p := ad.add (i * 2)) (by rw [addr_add_block]; exact hadl)).trans y1
              have s3 := (hb10.cell (p := ⟨(ad.add (i * 2)).block, (ad.add (i * 2)).off + 1, none⟩) (by show (ad.add (i * 2)).block < _; rw [addr_add_block]; exact hadl)).trans y2
              have hidx : (q : Int) + 1 - 1 = (q : Int) := by omega
              have hi5 : (q : Int) < (sent.length : Int) := by omega
              have hi6 : decide ((sent.length : Int) < (q : Int) + 1) = false := by rw [decide_eq_false_iff_not]; omega
              have hi7 : (i : Int) < (m : Int) := by omega
              have HQ1 := Lib.hid (show q + 1 = j + (i + 1) by omega)
              have him1 : i + 1 ≤ m := by omega
              have hq1 : q + 1 ≤ 40 := by omega
              have HB10 := Lib.hid hb10
              clear hx y1 y2 hq hb10
              go_wp2_with fail
              go_quiet (fail)
              go_wp2_with fail
              exact ⟨⟨i + 1, q + 1, him1, by go_num, by go_num, hq1, HQ1, below_drewN HB10.out _⟩, by show m - ((i : Int) + 1).toNat < m - ((i : Int)).toNat; omega⟩
            · have hi7 : ¬ (i : Int) < (m : Int) := by omega
              have hqm : q = j + m := by have := HQ.out; omega
              have hb11 := below_step hb10 HB9.out
              clear hlt3
              by_cases hlast : kk + 1 < ns.length
              · obtain ⟨s1, s2, s3⟩ := HE5.out hlast
                have ht1 : ¬ (sz : Int) < (cc.size : Int) := by omega
                have ht2 : ((m : Int) == 0) = false := by simp; omega
                have HR1 := Lib.hid (show q = st (kk + 1) by omega)
                clear s1 s2 s3 hqm
                go_wp2_with fail
                exact ⟨⟨kk + 1, q, false, by omega, by go_num, rfl, rfl, hq40, Lib.hid ⟨fun _ => ⟨HR1.out, rfl⟩, fun h => by omega⟩, hb11⟩, by show 60 - ((kk : Int) + 1).toNat < 60 - ((kk : Int)).toNat; omega⟩
              · have hfin := HE6.out (by omega)
                have HR1 := Lib.hid (show p ≤ q by omega)
                clear hfin hqm
                by_cases ht1 : (sz : Int) < (cc.size : Int)
                · go_wp2_with fail
                  exact ⟨⟨kk + 1, q, true, by omega, by go_num, rfl, rfl, hq40, Lib.hid ⟨fun h => by omega, fun _ => HR1.out⟩, hb11⟩, by show 60 - ((kk : Int) + 1).toNat < 60 - ((kk : Int)).toNat; omega⟩
                · go_wp2_with fail
                  exact ⟨⟨kk + 1, q, _, by omega, by go_num, rfl, rfl, hq40, Lib.hid ⟨fun h => by omega, fun _ => HR1.out⟩, hb11⟩, by show 60 - ((kk : Int) + 1).toNat < 60 - ((kk : Int)).toNat; omega⟩
        · have hi2 : ¬ (kk : Int) < (ns.length : Int) := by omega
          have hge0 := HJ.out.2 (by omega)
          have hge : (p : Int) ≤ (j : Int) := by omega
          have B7 := below_step hb6 B5
          clear hge0 HJ
          go_wp2_with (go_at_call 8; (with_reducible refine (HA.out _ B7).mono ?_); rintro e y1 ⟨rfl, b1⟩)
          go_ret
          exact ⟨rfl, b1⟩
end Go.Proofs.YtcpmicinibfepaaGreatDoor

namespace Go.Proofs.YtcpmicinibfepaaGreatDoor
open Go.ChangeShapes Go.WideShapes Go.ChangeAt Go.RowKit Go.Deep DiskP NameP


set_option maxRecDepth 100000 in
theorem law32_WalCrash (n : Int × Int) (hn : I64 n.1 ∧ I64 n.2) (a : SlWa) (ks : SlI) (w : World) (ht : TabW w) (ha : a.Ok w) (hks : ks.Ok w) :
    Calls Tryz.prog 4 #[.agg #[.int .i64 n.1, .int .i64 n.2], .slice a.A a.l.length a.c, .slice ks.A ks.l.length ks.c] w fun e w' => e = .returned (.bool true) ∧ Below w.heap.size w w' := by
  by_cases hf : fewW a.l
  · by_cases hk : ks.l.length ≤ 20
    · exact law32_WalCrash_few n.1 n.2 hn.1 hn.2 a ks w ht ha hks hf hk
    · obtain ⟨h1, h2, h3, h4, h5⟩ := ha
      have HF := Lib.hid (fun (W : World) (hb : Below w.heap.size w W) => ref32_Few_yes a.A a.c a.l hf W (h5.world hb))
      have HA := Lib.hid (fun (W : World) (hb : Below w.heap.size w W) => (law32_awake W (TabW.below ht hb)).mono (fun e w' (hp : e = .returned (.bool true) ∧ Below W.heap.size W w') => (⟨hp.1, below_step hp.2 hb⟩ : e = .returned (.bool true) ∧ Below w.heap.size w w')))
      have hk20 : (20 : Int) < (ks.l.length : Int) := by omega
      clear h5 h4 hf ht hk hks hn
      go_enter Tryz.func4, Tryz.ntmps4
      go_wp2_with (first
        | (go_at_call 7; (with_reducible refine (HF.out _ (by (repeat (first | assumption | exact Below.refl _ _ | refine below_step (by assumption) ?_ | refine below_alloc' _ ?_ | refine below_drewN ?_ _ | refine Below.drew ?_)))).mono ?_); rintro e w0 ⟨rfl, rfl⟩)
        | (go_at_call 8; (with_reducible refine (HA.out _ (by (repeat (first | assumption | exact Below.refl _ _ | refine below_step (by assumption) ?_ | refine below_alloc' _ ?_ | refine below_drewN ?_ _ | refine Below.drew ?_)))).mono ?_); rintro e y1 ⟨rfl, b1⟩))
      go_ret
      exact ⟨rfl, b1⟩
  · obtain ⟨h1, h2, h3, h4, h5⟩ := ha
    have HF := Lib.hid (fun (W : World) (hb : Below w.heap.size w W) => ref32_Few_no a.A a.c a.l h1 (fun p hp => (h4 p hp).2.2) hf W (h5.world hb))
    have HA := Lib.hid (fun (W : World) (hb : Below w.heap.size w W) => (law32_awake W (TabW.below ht hb)).mono (fun e w' (hp : e = .returned (.bool true) ∧ Below W.heap.size W w') => (⟨hp.1, below_step hp.2 hb⟩ : e = .returned (.bool true) ∧ Below w.heap.size w w')))
    clear h5 h4 hf ht hks hn
    go_enter Tryz.func4, Tryz.ntmps4
    go_wp2_with (first
      | (go_at_call 7; (with_reducible refine (HF.out _ (by (repeat (first | assumption | exact Below.refl _ _ | refine below_step (by assumption) ?_ | refine below_alloc' _ ?_ | refine below_drewN ?_ _ | refine Below.drew ?_)))).mono ?_); rintro e w0 ⟨rfl, rfl⟩)
      | (go_at_call 8; (with_reducible refine (HA.out _ (by (repeat (first | assumption | exact Below.refl _ _ | refine below_step (by assumption) ?_ | refine below_alloc' _ ?_ | refine below_drewN ?_ _ | refine Below.drew ?_)))).mono ?_); rintro e y1 ⟨rfl, b1⟩))
    go_ret
    exact ⟨rfl, b1⟩
end Go.Proofs.YtcpmicinibfepaaGreatDoor
