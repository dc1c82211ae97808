/- Layer 33: what ReplayGoesOn calls, in the form that its walk takes · Layer 33: the walk of ReplayGoesOn (few acts) · Layer 33: ReplayGoesOn, of any input. -/
import Derived.Test.YtcpmicinibfepaaGreatDoorWBs
import Derived.Test.YtcpmicinibfepaaGreatDoorWBx
import Derived.Test.YtcpmicinibfepaaGreatDoorWBv
import Derived.Test.YtcpmicinibfepaaGreatDoorWBi
namespace Go.Proofs.YtcpmicinibfepaaGreatDoor
open Go.ChangeShapes Go.WideShapes Go.ChangeAt Go.RowKit Go.Deep DiskP NameP


theorem own_snocI {w : World} {B m : Nat} {v : Value} {ks : List Int} {n : Int} (h : w.ownsRow B 3 1 v m (ks.map (Value.int .i64) ++ [.int .i64 n])) : w.ownsRow B 3 1 v m ((ks ++ [n]).map (Value.int .i64)) := by
  rw [List.map_append]
  exact h
/-- a row beside a row of another type that grows -/
theorem own_grownO {w w' : World} {B B' n n' sz sz' : Nat} {e e' : TypeId} {v v' : Value} {xs xs' : List Value} (h : w.ownsRow B e sz v n xs) (ho : w.ownsRow B' e' sz' v' n' xs') (hne : e ≠ e') (hg : w.grownBy w' v'.ownBlock) : w'.ownsRow B e sz v n xs := by
  refine own_at h fun g hgg => ?_
  obtain ⟨cur, hc⟩ := own_type h hgg
  refine hg.block g (bx_lt hc) (fun e1 => ?_)
  obtain ⟨cur', hc'⟩ := own_type ho e1.symm
  rw [hc] at hc'
  injection hc' with hc'
  injection hc' with _ hc'
  exact hne hc'
/-- a log beside a row that grows -/
theorem Lg.grownE {a d c n B sz : Nat} {e : TypeId} {A : Option Addr} {size : Int} {L : WL} {w w' : World} {v : Value} {xs : List Value} (h : Lg a d A c size L w) (hB : d < B) (ho : w.ownsRow B e sz v n xs) (he : e ≠ 81 ∧ e ≠ 74) (hg : w.grownBy w' v.ownBlock) : Lg a d A c size L w' := by
  have hf : ∀ b cs T, w.heap[b]? = some (.cells cs T (0, 0)) → (b ≤ d ∨ T ≠ e) → w'.heap[b]? = w.heap[b]? := fun b cs T hb hor => by
    refine hg.block b (bx_lt hb) (fun e => ?_)
    have h1 := (ho.lt b e.symm).1
    rcases hor with h2 | h2
    · omega
    · obtain ⟨cur, hc⟩ := own_type ho e.symm
      rw [hb] at hc
      simp at hc
      exact h2 hc.2
  exact ⟨⟨(hf d _ _ h.dk.box (.inl (Nat.le_refl _))).trans h.dk.box, own_at h.dk.row fun g hgg => by obtain ⟨cur, hc⟩ := own_type h.dk.row hgg; exact hf g _ _ hc (.inr he.1.symm)⟩, (hf a _ _ h.box (.inr he.2.symm)).trans h.box⟩
/-- what a scan of a log leaves -/
def ScanT (T : List ByteArray) (file : ByteArray) (keep : Nat) (xs : List ByteArray) (w : World) (e : Ending) (w' : World) : Prop :=
  ∃ A1 c1 A2 c2, e = .returned (.tuple #[.agg #[.slice A1 T.length c1, .string file, .int .i64 (keep : Nat), .slice A2 xs.length c2], .int .i64 0]) ∧ w'.ownsRow (w.heap.size + 1) 46 2 (.slice A1 T.length c1) T.length (fcells (frs 1 T)) ∧ w'.ownsRow (w.heap.size + 1) 9 1 (.slice A2 xs.length c2) xs.length (xs.map Value.string) ∧ Below w.heap.size w w'
theorem scanT_of {T : List ByteArray} {r : List FrameP.Fr × (Option Int × Nat) × List Int} (hr : r.1 = frs 1 T) {w w' : World} {e : Ending} (h : ScanPost r w e w') : ScanT T (fileB r.2.1.1) r.2.1.2 (r.2.2.map tB) w e w' := by
  obtain ⟨A1, c1, A2, c2, e1, o1, o2, b⟩ := h
  have hl : r.1.length = T.length := by rw [hr, frs_len]
  rw [hl] at e1 o1
  rw [hr] at o1
  refine ⟨A1, c1, A2, c2, by rw [List.length_map]; exact e1, o1, ?_, b⟩
  rw [List.length_map, List.map_map]
  exact o2
/-- a frame's cells -/
theorem frs_cell {w : World} {B c : Nat} {A : Option Addr} {T : List ByteArray} (h : w.ownsRow B 46 2 (.slice A T.length c) T.length (fcells (frs 1 T))) {k : Nat} {d : ByteArray} (hk : T[k]? = some d) :
    ∃ ad, A = some ad ∧ ad.block < w.heap.size ∧ w.cell? (ad.add (k * 2)) = some (.int .i64 ((k : Int) + 1)) ∧ w.cell? ⟨(ad.add (k * 2)).block, (ad.add (k * 2)).off + 1, none⟩ = some (.string d) := by
  have hl := frs_len T 1
  rw [← hl] at h
  obtain ⟨ad, e, hlt, z0, z1⟩ := RdF.own h k (((1 + k : Nat) : Int), d.data.toList) (by rw [frs_get, hk]; rfl)
  refine ⟨ad, e, hlt, ?_, z1⟩
  rw [z0]
  congr 2
  push_cast
  omega
theorem next_of (T : List ByteArray) (hT : T.length ≤ 1000) (A : Option Addr) (c : Nat) (file : ByteArray) (keep : Int) (A2 : Option Addr) (n2 c2 B : Nat) (w : World) (h : w.ownsRow B 46 2 (.slice A T.length c) T.length (fcells (frs 1 T))) :
    Calls Tryz.prog 33 #[.int .i64 0, .agg #[.slice A T.length c, .string file, .int .i64 keep, .slice A2 n2 c2]] w fun e w' => e = .returned (.int .i64 ((T.length : Int) + 1)) ∧ Below w.heap.size w w' := by
  rcases Nat.eq_zero_or_pos T.length with h0 | h0
  · have := rep_Next_none 0 (by unfold I64; omega) A c file keep A2 n2 c2 w
    rw [h0]
    exact this
  · obtain ⟨k, hk⟩ : ∃ k, T.length = k + 1 := ⟨T.length - 1, by omega⟩
    obtain ⟨d, hd⟩ : ∃ d, T[k]? = some d := ⟨T[k]'(by omega), List.getElem?_eq_getElem _⟩
    have hl := frs_len T 1
    have h' := h
    rw [← hl] at h'
    have := rep_Next_some 0 A c (frs 1 T) k (by omega) (((1 + k : Nat) : Int), d.data.toList) (by rw [frs_get, hd]; rfl) (by unfold I64; simp only; omega) file keep A2 n2 c2 w (RdF.own h')
    have e : addS (((1 + k : Nat) : Int), d.data.toList).1 1 = ((k + 1 : Nat) : Int) + 1 := by
      unfold addS clampS
      simp only
      push_cast
      omega
    rw [e] at this
    rw [hk]
    exact this
/-- a new log, where a number is wanted -/
theorem new_of (d : Nat) (size : Int) (n : Nat) (hn : n ≤ 1000) (w : World) : Calls Tryz.prog 10 #[.pointer (some ⟨d, 0, none⟩), .int .i64 size, .int .i64 ((n : Int) + 1)] w fun e w' => e = .returned (.pointer (some ⟨w.heap.size, 0, none⟩)) ∧
    w'.heap[w.heap.size]? = some (.cells #[.pointer (some ⟨d, 0, none⟩), .int .i64 size, .int .i64 ((n : Int) + 1), .int .i64 n] 74 (0, 0)) ∧ Below w.heap.size w w' := by
  have := wal_New d size ((n : Int) + 1) w
  rw [show max 1 (min ((n : Int) + 1) 100000000000000000) = (n : Int) + 1 by omega, show (n : Int) + 1 - 1 = (n : Int) by omega] at this
  exact this
end Go.Proofs.YtcpmicinibfepaaGreatDoor

namespace Go.Proofs.YtcpmicinibfepaaGreatDoor
open Go.ChangeShapes Go.WideShapes Go.ChangeAt Go.RowKit Go.Deep DiskP NameP FrameP



set_option maxRecDepth 100000 in
set_option maxHeartbeats 20000000 in
theorem law33_GoesOn_few (size : Int) (hsize : I64 size) (a b : SlWa) (w : World) (ht : TabW w) (ha : a.Ok w) (hb : b.Ok w) (hfa : fewW a.l) (hfb : fewW b.l) :
    Calls Tryz.prog 6 #[.int .i64 size, .slice a.A a.l.length a.c, .slice b.A b.l.length b.c] w fun e w' => e = .returned (.bool true) ∧ Below w.heap.size w w' := by
  obtain ⟨A0, c0, l⟩ := a
  obtain ⟨Am, cm, more⟩ := b
  obtain ⟨hl1, hl2, hl3, hli, hrt⟩ := ha
  obtain ⟨hm1, hm2, hm3, hmi, hrm⟩ := hb
  simp only at *
  have h30 := hfa.1
  have m30 := hfb.1
  have HFW := Lib.hid hfa
  have HFM := Lib.hid hfb
  have HR := Lib.hid hrt
  have HRM := Lib.hid hrm
  have HLI := Lib.hid hli
  have HF := Lib.hid (fun (W : World) (hb : Below w.heap.size w W) => ref32_Few_yes A0 c0 l hfa W (hrt.world hb))
  have HF2 := Lib.hid (fun (W : World) (hb : Below w.heap.size w W) => ref32_Few_yes Am cm more hfb W (hrm.world hb))
  have HT := Lib.hid (fun W (hb : Below w.heap.size w W) => TabW.below ht hb)
  have HA := Lib.hid (fun (W : World) (hb : Below w.heap.size w W) => (law33_awake' W (HT.out W hb)).mono (fun e w' (hp : e = .returned (.bool true) ∧ Below W.heap.size W w') => (⟨hp.1, below_step hp.2 hb⟩ : e = .returned (.bool true) ∧ Below w.heap.size w w')))
  obtain ⟨d, hd⟩ : ∃ d, d = w.heap.size := ⟨_, rfl⟩
  have hwd : w.heap.size ≤ d := by omega
  have HD := Lib.hid hd
  have H1' : Calls Tryz.prog 9 #[.int .i64 65536] w fun e w' => e = .returned (.pointer (some ⟨d, 0, none⟩)) ∧ Dk d none 0 d0 w' ∧ Below w.heap.size w w' := by
    have := disk_New 65536 w
    rw [← hd] at this ⊢
    exact this
  have H2' : ∀ W : World, Calls Tryz.prog 10 #[.pointer (some ⟨d, 0, none⟩), .int .i64 size, .int .i64 1] W fun e w' => e = .returned (.pointer (some ⟨W.heap.size, 0, none⟩)) ∧ w'.heap[W.heap.size]? = some (.cells #[.pointer (some ⟨d, 0, none⟩), .int .i64 size, .int .i64 1, .int .i64 0] 74 (0, 0)) ∧ Below W.heap.size W w' := fun W => wal_New d size 1 W
  have H1 := Lib.hid H1'
  have H2 := Lib.hid H2'
  obtain ⟨i0, hi, hz0, hz1, hz2⟩ := info_parts' info_str
  have HIS := Lib.hid (And.intro hi (And.intro hz0 (And.intro hz1 hz2)))
  clear hi hz0 hz1 hz2
  obtain ⟨i1, hi, hz0, hz1, hz2⟩ := info_parts' info_int
  have HII := Lib.hid (And.intro hi (And.intro hz0 (And.intro hz1 hz2)))
  clear hi hz0 hz1 hz2
  clear H1' H2' ht hrt hrm hli hmi hfa hfb hl1 hl2 hl3 hm1 hm2 hm3 hd
  go_enter Tryz.func6, Tryz.ntmps6
  go_wp2_with (first
    | (go_at_call 7; (with_reducible refine (HF.out _ (by (repeat (first | assumption | exact Below.refl _ _ | refine below_step (by assumption) ?_ | refine below_alloc' _ ?_ | refine below_drewN ?_ _ | refine Below.drew ?_)))).mono ?_); rintro e w0 ⟨rfl, rfl⟩)
    | (go_at_call 7; (with_reducible refine (HF2.out _ (by (repeat (first | assumption | exact Below.refl _ _ | refine below_step (by assumption) ?_ | refine below_alloc' _ ?_ | refine below_drewN ?_ _ | refine Below.drew ?_)))).mono ?_); rintro e w0 ⟨rfl, rfl⟩)
    | (go_at_call 9; (with_reducible refine (H1.out).mono ?_); rintro e w1 ⟨rfl, d1, B1⟩)
    | (go_at_call 10; (with_reducible refine (H2.out _).mono ?_); rintro e w2 ⟨rfl, x2, B2⟩; have hda := d1.lt))
  have B2w : Below w.heap.size w w2 := below_step B2 B1
  obtain ⟨aa, haa⟩ : ∃ aa, aa = w1.heap.size := ⟨_, rfl⟩
  have l2 : Lg aa d none 0 size ⟨d0, 1, 0⟩ w2 := by rw [haa]; exact ⟨d1.kept B2, x2⟩
  rw [← haa] at hda
  rw [← haa]
  have I0 : CrI 65536 0 ⟨d0, 1, 0⟩ [] 0 [] := ⟨d0_inv, ⟨d0, ⟨rfl, rfl, rfl, rfl, rfl, List.Perm.refl _⟩, .inl ⟨rfl, rfl, rfl⟩⟩, rfl, by simp, ⟨[], rfl⟩, Nat.le_refl _, by simp, fun _ => ⟨rfl, rfl⟩⟩
  have HI0 := Lib.hid I0
  clear I0 B1 B2 d1 x2 haa H1 H2 HF HF2
  go_loopw [9, 10, 11] (fun vo vk vi wr => ∃ (k : Nat) (L : WL) (T : List ByteArray) (p : Nat) (sent : List ByteArray) (ks : List Int) (A : Option Addr) (c : Nat), k ≤ l.length ∧ vi = .int .i64 k ∧ wr.ownsRow (aa + 1) 9 1 vo sent.length (sent.map Value.string) ∧ wr.ownsRow (aa + 1) 3 1 vk k (ks.map (Value.int .i64)) ∧ Lg aa d A c size L wr ∧ Below w.heap.size w wr ∧ Hid (CrI 65536 k L T p sent)) (fun _ _ vi _ => l.length - (intOf vi).toNat)
  case atStart => exact ⟨0, _, [], 0, [], [], none, 0, by omega, rfl, World.ownsRow_nil _ _ _ _, World.ownsRow_nil _ _ _ _, l2, B2w, HI0⟩
  case round =>
    obtain ⟨k, L, T, p, sent, ks, A, c, hk, rfl, ho, hok, hL, B, HI⟩ := hrel
    obtain ⟨As, cs, rfl⟩ := own_slice ho
    obtain ⟨Ak, ck, rfl⟩ := own_slice hok
    have HO := Lib.hid ho
    have HK := Lib.hid hok
    have hla := hL.lt
    have hlen := HI.out.len
    clear l2 B2w HI0 ho hok
    by_cases hlt : k < l.length
    · obtain ⟨f, hk'⟩ : ∃ f, l[k]? = some f := ⟨l[k], List.getElem?_eq_getElem hlt⟩
      have HKF := Lib.hid hk'
      obtain ⟨ad, rfl, hadl, z0, z1, z2⟩ := HR.out.below B k f hk'
      have hi1 : (k : Int) < (l.length : Int) := by omega
      have hs : f.s.size ≤ 100 := HFW.out.2 f (List.mem_of_getElem? hk')
      have hli := HLI.out f (List.mem_of_getElem? hk')
      have hOK := HI.out.ok (by omega)
      have hinv := HI.out.inv
      have hnx := HI.out.nx
      have HCE := Lib.hid (fun (W : World) (hW : Below w.heap.size w W) => (by obtain ⟨ad', e', _, q0, q1, q2⟩ := HR.out.below hW k _ HKF.out; obtain rfl := Option.some.inj e'; exact ⟨q1, q2⟩ : W.cell? ⟨(ad.add (k * 3)).block, (ad.add (k * 3)).off + 1, none⟩ = some (.string f.s) ∧ W.cell? ⟨(ad.add (k * 3)).block, (ad.add (k * 3)).off + 2, none⟩ = some (.int .i64 f.n)))
      have CNX := Lib.hid (wal_Next aa d A c size L wr hL)
      have CAP := Lib.hid (fun (A : Option Addr) (c : Nat) (W : World) (hb : Below w.heap.size w W) (hl : Lg aa d A c size L W) => wal_Append aa d A c size hsize L hOK 65536 (2 * k) (2 * k) hinv (by omega) f.s hs W (fun W' hb' => HT.out W' (hb.trans (hb'.mono hwd))) hda hl)
      have CSY := Lib.hid (wal_Sync aa d A c size L hOK wr (fun W' hb' => HT.out W' (B.trans (hb'.mono hwd))) hda hL)
      have CFU := Lib.hid (disk_Fuse d A c L.S f.n wr hL.dk)
      have hst : ∀ (A' : Option Addr) (c' : Nat) (W' : World), DKeep d wr W' → Dk d A' c' { L.S with fuse := max f.n (-1) } W' → Lg aa d A' c' size ⟨{ L.S with fuse := max f.n (-1) }, L.nx, L.sy⟩ W' := fun A' c' W' hk hd => hL.step hk hd hda
      have HST := Lib.hid hst
      clear hinv hOK hst hk'
      by_cases hk1 : f.kind = 1
      · have g1 : (f.kind == 1) = true := by simpa using hk1
        by_cases hpush : (sent.length : Int) = L.nx - 1
        · have g5 : ((sent.length : Int) == L.nx - 1) = true := by simpa using hpush
          obtain ⟨T', p', hn⟩ := HI.out.pushOk (by omega) size f.s hs hpush
          have HN := Lib.hid hn
          clear hk1 hpush hn hli
          generalize appendW size L f.s = r at *
          obtain ⟨L2, q1, q2⟩ := r
          simp only at HN CAP
          as_aux_lemma => (
            go_wp2_with (first
              | (go_at_call 18; (with_reducible refine (CNX.out).mono ?_); rintro e wz ⟨rfl, rfl⟩)
              | (at_builtin; refine wpList_append_twoN rfl _ _ _ (by rfl) (aa + 1) 9 i0 _ 1 16 Tryz.underlying36 HIS.out.1 HIS.out.2.1 HIS.out.2.2.1 HIS.out.2.2.2 rfl (by decide) (by decide) _ _ _ (by rfl) wr HO.out _ _ rfl (by rfl) (by rfl) (by simp [Value.oneCell']) (by omega) (by omega) ?_; intro g2 cap2 w3 hA; have B3 := app_belowN B HO.out (by omega) (by omega) hA; have l3 := hL.grownE (by omega) HO.out (by decide) hA.gb; have HOP := Lib.hid (own_snoc hA.own); have HK3 := Lib.hid (own_grownO HK.out HO.out (by decide) hA.gb); obtain ⟨y1, y2⟩ := HCE.out _ B3)
              | (go_at_call 11; (with_reducible refine (CAP.out _ _ _ B3 l3).mono ?_); rintro e w4 ⟨rfl, A4, c4, l4, k4⟩; have B4 := Below.trans B3 (k4.below.mono hwd); obtain ⟨u1, u2⟩ := HCE.out _ B4; have HO4 := Lib.hid (own_lkeep HOP.out k4 (by omega) (fun g hg => by have := (HOP.out.lt g hg).1; omega) (by decide)); have HK4 := Lib.hid (own_lkeep HK3.out k4 (by omega) (fun g hg => by have := (HK3.out.lt g hg).1; omega) (by decide)); have hl4 := l4.lt)
              | (at_builtin; refine wpList_append_twoN rfl _ _ _ (by rfl) (aa + 1) 3 i1 _ 1 8 Tryz.underlying34 HII.out.1 HII.out.2.1 HII.out.2.2.1 HII.out.2.2.2 rfl (by decide) (by decide) _ _ _ (by rfl) w4 HK4.out _ _ rfl (by rfl) (by rfl) (by simp [Value.oneCell']) (by omega) (by omega) ?_; intro g5 cap5 w5 hA5; have B5 := app_belowN B4 HK4.out (by omega) (by omega) hA5; have l5 := l4.grownE (by omega) HK4.out (by decide) hA5.gb; have HOP5 := Lib.hid (own_snocI hA5.own); have HO5 := Lib.hid (own_grownO HO4.out HK4.out (by decide) hA5.gb)))
            exact ⟨⟨k + 1, L2, T', p', sent ++ [f.s], ks ++ [f.n], A4, c4, by omega, by go_num, HO5.out, HOP5.out, l5, B5, HN⟩, by show l.length - ((k : Int) + 1).toNat < l.length - ((k : Int)).toNat; omega⟩)
        · have g5 : ((sent.length : Int) == L.nx - 1) = false := by simpa using hpush
          obtain ⟨e1, hn⟩ := HI.out.late size f.s hpush
          have HN := Lib.hid hn
          rw [e1] at CAP
          clear hk1 hpush hn hli e1
          as_aux_lemma => (
            go_wp2_with (first
              | (go_at_call 18; (with_reducible refine (CNX.out).mono ?_); rintro e wz ⟨rfl, rfl⟩)
              | (go_at_call 11; (with_reducible refine (CAP.out _ _ _ B hL).mono ?_); rintro e w4 ⟨rfl, A4, c4, l4, k4⟩; have B4 := Below.trans B (k4.below.mono hwd); obtain ⟨u1, u2⟩ := HCE.out _ B4; have HO4 := Lib.hid (own_lkeep HO.out k4 (by omega) (fun g hg => by have := (HO.out.lt g hg).1; omega) (by decide)); have HK4 := Lib.hid (own_lkeep HK.out k4 (by omega) (fun g hg => by have := (HK.out.lt g hg).1; omega) (by decide)); have hl4 := l4.lt)
              | (at_builtin; refine wpList_append_twoN rfl _ _ _ (by rfl) (aa + 1) 3 i1 _ 1 8 Tryz.underlying34 HII.out.1 HII.out.2.1 HII.out.2.2.1 HII.out.2.2.2 rfl (by decide) (by decide) _ _ _ (by rfl) w4 HK4.out _ _ rfl (by rfl) (by rfl) (by simp [Value.oneCell']) (by omega) (by omega) ?_; intro g5 cap5 w5 hA5; have B5 := app_belowN B4 HK4.out (by omega) (by omega) hA5; have l5 := l4.grownE (by omega) HK4.out (by decide) hA5.gb; have HOP5 := Lib.hid (own_snocI hA5.own); have HO5 := Lib.hid (own_grownO HO4.out HK4.out (by decide) hA5.gb)))
            exact ⟨⟨k + 1, L, T, p, sent, ks ++ [f.n], A4, c4, by omega, by go_num, HO5.out, HOP5.out, l5, B5, HN⟩, by show l.length - ((k : Int) + 1).toNat < l.length - ((k : Int)).toNat; omega⟩)
      · have g1 : (f.kind == 1) = false := by simpa using hk1
        by_cases hk2 : f.kind = 2
        · have g2 : (f.kind == 2) = true := by simpa using hk2
          obtain ⟨p', hn, _⟩ := HI.out.sync (by omega)
          have HN := Lib.hid hn
          clear hk1 hk2 hn hli
          generalize syncW L = r at *
          obtain ⟨L2, q2⟩ := r
          simp only at HN CSY
          as_aux_lemma => (
            go_wp2_with (first
              | (go_at_call 32; (with_reducible refine (CSY.out).mono ?_); rintro e w4 ⟨rfl, A4, c4, l4, k4⟩; have B4 := Below.trans B (k4.below.mono hwd); obtain ⟨u1, u2⟩ := HCE.out _ B4; have HO4 := Lib.hid (own_lkeep HO.out k4 (by omega) (fun g hg => by have := (HO.out.lt g hg).1; omega) (by decide)); have HK4 := Lib.hid (own_lkeep HK.out k4 (by omega) (fun g hg => by have := (HK.out.lt g hg).1; omega) (by decide)); have hl4 := l4.lt)
              | (at_builtin; refine wpList_append_twoN rfl _ _ _ (by rfl) (aa + 1) 3 i1 _ 1 8 Tryz.underlying34 HII.out.1 HII.out.2.1 HII.out.2.2.1 HII.out.2.2.2 rfl (by decide) (by decide) _ _ _ (by rfl) w4 HK4.out _ _ rfl (by rfl) (by rfl) (by simp [Value.oneCell']) (by omega) (by omega) ?_; intro g5 cap5 w5 hA5; have B5 := app_belowN B4 HK4.out (by omega) (by omega) hA5; have l5 := l4.grownE (by omega) HK4.out (by decide) hA5.gb; have HOP5 := Lib.hid (own_snocI hA5.own); have HO5 := Lib.hid (own_grownO HO4.out HK4.out (by decide) hA5.gb)))
            exact ⟨⟨k + 1, L2, T, p', sent, ks ++ [f.n], A4, c4, by omega, by go_num, HO5.out, HOP5.out, l5, B5, HN⟩, by show l.length - ((k : Int) + 1).toNat < l.length - ((k : Int)).toNat; omega⟩)
        · have g2 : (f.kind == 2) = false := by simpa using hk2
          by_cases hk4 : f.kind = 4
          · have g4 : (f.kind == 4) = true := by simpa using hk4
            have HN := Lib.hid (HI.out.fuse f.n hli.2.1)
            clear hk1 hk2 hk4 hli
            as_aux_lemma => (
              go_wp2_with (first
                | (go_at_call 28; (with_reducible refine (CFU.out).mono ?_); rintro e w4 ⟨rfl, A4, c4, d4, k4⟩; have l4 := HST.out _ _ _ k4 d4; have B4 := Below.trans B (k4.below.mono hwd); obtain ⟨u1, u2⟩ := HCE.out _ B4; have HO4 := Lib.hid (own_lkeep HO.out (LKeep.of_d (a := aa) k4) (by omega) (fun g hg => by have := (HO.out.lt g hg).1; omega) (by decide)); have HK4 := Lib.hid (own_lkeep HK.out (LKeep.of_d (a := aa) k4) (by omega) (fun g hg => by have := (HK.out.lt g hg).1; omega) (by decide)); have hl4 := l4.lt)
                | (at_builtin; refine wpList_append_twoN rfl _ _ _ (by rfl) (aa + 1) 3 i1 _ 1 8 Tryz.underlying34 HII.out.1 HII.out.2.1 HII.out.2.2.1 HII.out.2.2.2 rfl (by decide) (by decide) _ _ _ (by rfl) w4 HK4.out _ _ rfl (by rfl) (by rfl) (by simp [Value.oneCell']) (by omega) (by omega) ?_; intro g5 cap5 w5 hA5; have B5 := app_belowN B4 HK4.out (by omega) (by omega) hA5; have l5 := l4.grownE (by omega) HK4.out (by decide) hA5.gb; have HOP5 := Lib.hid (own_snocI hA5.own); have HO5 := Lib.hid (own_grownO HO4.out HK4.out (by decide) hA5.gb)))
              exact ⟨⟨k + 1, _, T, p, sent, ks ++ [f.n], A4, c4, by omega, by go_num, HO5.out, HOP5.out, l5, B5, HN⟩, by show l.length - ((k : Int) + 1).toNat < l.length - ((k : Int)).toNat; omega⟩)
          · have g4 : (f.kind == 4) = false := by simpa using hk4
            have HN := Lib.hid HI.out.skip
            clear hk1 hk2 hk4 hli
            have l4 := hL
            have B4 := B
            have HO4 := HO
            have HK4 := HK
            have hl4 := l4.lt
            as_aux_lemma => (
              go_wp2_with (at_builtin; refine wpList_append_twoN rfl _ _ _ (by rfl) (aa + 1) 3 i1 _ 1 8 Tryz.underlying34 HII.out.1 HII.out.2.1 HII.out.2.2.1 HII.out.2.2.2 rfl (by decide) (by decide) _ _ _ (by rfl) wr HK4.out _ _ rfl (by rfl) (by rfl) (by simp [Value.oneCell']) (by omega) (by omega) ?_; intro g5 cap5 w5 hA5; have B5 := app_belowN B4 HK4.out (by omega) (by omega) hA5; have l5 := l4.grownE (by omega) HK4.out (by decide) hA5.gb; have HOP5 := Lib.hid (own_snocI hA5.own); have HO5 := Lib.hid (own_grownO HO4.out HK4.out (by decide) hA5.gb))
              exact ⟨⟨k + 1, L, T, p, sent, ks ++ [f.n], A, c, by omega, by go_num, HO5.out, HOP5.out, l5, B5, HN⟩, by show l.length - ((k : Int) + 1).toNat < l.length - ((k : Int)).toNat; omega⟩)
    · have hi1 : ¬ (k : Int) < (l.length : Int) := by omega
      obtain rfl : k = l.length := by omega
      have hksl : ks.length = l.length := by have := HK.out.1; simpa using this
      obtain ⟨l0, D, T1, hB, hp1, r, hr⟩ := HI.out.back (by omega) ks
      have hsy := HI.out.sy
      have hinv1 : DInv 65536 (2 * l.length) (2 * l.length) { L.S with on := false, fuse := -1 } := { HI.out.inv with fuse := by simp only; omega }
      have hsl : sent.length = T1.length + r.length := by rw [hr, List.length_append]
      have hT30 : T1.length ≤ 30 := by omega
      have CSN' := wal_Synced aa d A c size L wr hL
      rw [hsy] at CSN'
      have CSN := Lib.hid CSN'
      have CCR := Lib.hid (disk_Crash d A c L.S wr hL.dk)
      have CUP' : ∀ W : World, Dk d A c { L.S with on := false, fuse := -1 } W → DKeep d wr W → Calls Tryz.prog 23 #[.pointer (some ⟨d, 0, none⟩), .slice Ak l.length ck] W (DPost d (upD { L.S with on := false, fuse := -1 } ks) (.tuple #[]) W) := fun W hd hkp => by
        have ho := own_lkeep HK.out (LKeep.of_d (a := aa) hkp) (by omega) (fun g hg => by have := (HK.out.lt g hg).1; omega) (by decide)
        have := disk_Up d A c _ (hinv1.ok (by omega) (by omega)) hinv1.made Ak ck ks (by rw [hksl]; exact own_cap ho) (by omega) W hd (fun X hX => Rd.own (own_lkeep ho (LKeep.of_d (a := aa) hX) (by omega) (fun g hg => by have := (ho.lt g hg).1; omega) (by decide)))
        rw [hksl] at this
        exact this
      have CUP := Lib.hid CUP'
      have CSC := Lib.hid (fun (A : Option Addr) (c : Nat) (W : World) (hb : Below w.heap.size w W) (hk : Dk d A c (upD { L.S with on := false, fuse := -1 } ks) W) => (scanC d A c _ _ hB.s 0 W (HT.out W hb) hk).mono (fun e w' h => scanT_of hB.fr h))
      have CRP' := fun (A : Option Addr) (c : Nat) (A1 : Option Addr) (n1 c1 B : Nat) (A2 : Option Addr) (c2 : Nat) (hdB : d < B) (W : World) (hk : Dk d A c (upD { L.S with on := false, fuse := -1 } ks) W) (ho : W.ownsRow B 9 1 (.slice A2 ((scanF l0 0).2.2.map tB).length c2) ((scanF l0 0).2.2.map tB).length (((scanF l0 0).2.2.map tB).map Value.string)) =>
        rep_Repair d A c _ 65536 60 60 hB.inv (by omega) A1 n1 c1 (fileB (scanF l0 0).2.1.1) ((scanF l0 0).2.1.2 : Nat) B A2 c2 ((scanF l0 0).2.2.map tB) (by have := scan_extra l0 0; have := hB.s.len; rw [List.length_map]; omega) hdB W hk ho
      rw [hB.d, hB.e] at CRP'
      have CRP := Lib.hid CRP'
      have CNE := Lib.hid (fun (A : Option Addr) (c : Nat) (file : ByteArray) (keep : Int) (A2 : Option Addr) (n2 c2 B : Nat) (W : World) => next_of T1 (by omega) A c file keep A2 n2 c2 B W)
      have CNW := Lib.hid (fun W : World => new_of d size T1.length (by omega) W)
      have HGO := Lib.hid hB.go
      have g6 : ¬ (T1.length : Int) < (p : Int) := by omega
      have g7 : ¬ (sent.length : Int) < (T1.length : Int) := by omega
      have g8 : T1.length ≤ cs := by have := own_cap HO.out; omega
      have HSR := Lib.hid hr
      clear CUP' CRP' CSN' hinv1 hsy hksl hB hp1 HK hr
      generalize fileB (scanF l0 0).2.1.1 = fl0 at *
      generalize (scanF l0 0).2.1.2 = kp0 at *
      generalize (scanF l0 0).2.2.map tB = xs0 at *
      generalize upD { L.S with on := false, fuse := -1 } ks = S1 at *
      obtain ⟨S2, eD⟩ := D
      simp only at HGO CRP
      as_aux_lemma => (
        go_wp2_with (first
          | (go_at_call 21; (with_reducible refine (CSN.out).mono ?_); rintro e wz ⟨rfl, rfl⟩)
          | (go_at_call 22; (with_reducible refine (CCR.out).mono ?_); rintro e w2 ⟨rfl, d2, k2⟩; have B2 := B.trans (k2.below.mono hwd))
          | (go_at_call 23; (with_reducible refine (CUP.out _ d2 k2).mono ?_); rintro e w3 ⟨rfl, A3, c3, d3, k3⟩; have B3 := B2.trans (k3.below.mono hwd); have HO3 := Lib.hid (own_lkeep HO.out (LKeep.of_d (a := aa) (k2.trans k3)) (by omega) (fun g hg => by have := (HO.out.lt g hg).1; omega) (by decide)); have hd3 := d3.lt)
          | (go_at_call 27; ((with_reducible refine (CSC.out _ _ _ B3 d3).mono ?_); rintro e w4 ⟨Aa, ca, Ab, cb, rfl, oa, ob, b4⟩; have hs4 := b4.size; have B4 := B3.trans (b4.mono (by omega)); have x4 := heap_alloc_new w4 (.cells #[.slice Aa T1.length ca, .string fl0, .int .i64 (kp0 : Nat), .slice Ab xs0.length cb] 58); have K4 := below_alloc' (.cells #[.slice Aa T1.length ca, .string fl0, .int .i64 (kp0 : Nat), .slice Ab xs0.length cb] 58) (Below.refl w4.heap.size w4); have oa4 := own_below oa K4; have ob4 := own_below ob K4; have d4 := (d3.kept b4).kept K4; have HO4 := Lib.hid (own_below (own_below HO3.out b4) K4); have B4a := B4.trans (K4.mono (by omega)); have p0 := bx_cells x4 0; have p1 := bx_cells x4 1; have p2 := bx_cells x4 2; have p3 := bx_cells x4 3))
          | (go_at_call 29; ((with_reducible refine (CRP.out _ _ _ _ _ _ _ _ (by omega) _ d4 ob4).mono ?_); rintro e w5 ⟨rfl, A5, c5, d5, k5⟩; have x5 := dkeep_box k5 x4 (by omega) (by decide); have oa5 := own_lkeep oa4 (LKeep.of_d (a := d) k5) (by omega) (fun g hg => by have := (oa4.lt g hg).1; omega) (by decide); have HO5 := Lib.hid (own_lkeep HO4.out (LKeep.of_d (a := aa) k5) (by omega) (fun g hg => by have := (HO4.out.lt g hg).1; omega) (by decide)); have B5 := B4a.trans (k5.below.mono hwd); have q0 := bx_cells x5 0; have q1 := bx_cells x5 1; have q2 := bx_cells x5 2; have q3 := bx_cells x5 3))
          | (go_at_call 33; (with_reducible refine (CNE.out _ _ _ _ _ _ _ _ _ oa5).mono ?_); rintro e w6 ⟨rfl, b6⟩)
          | (go_at_call 10; (with_reducible refine (CNW.out _).mono ?_); rintro e w7 ⟨rfl, x7, b7⟩))
        obtain ⟨bb, hbb⟩ : ∃ bb, bb = w6.heap.size := ⟨_, rfl⟩
        have l7 : Lg bb d A5 c5 size ⟨S2, (T1.length : Int) + 1, T1.length⟩ w7 := by rw [hbb]; exact ⟨(d5.kept b6).kept b7, x7⟩
        have hdb : d < bb := by have := d5.lt; have := b6.size; omega
        have hab : aa < bb := by have := b6.size; have := (B3.size); have := k5.below.size; have := hs4; rw [World.size_alloc] at *; have := k3.below.size; have := k2.below.size; omega
        have B7 := below_step b7 (below_step b6 B5)
        have o7 : TxtAt (aa + 1) w7 (.slice As T1.length T1.length) T1 := by
          have h1 := HO5.out
          rw [HSR.out] at h1
          exact ((TxtAt.cut' h1).below b6).below b7
        rw [← hbb]
        clear HO5 HO4 HO3 HO HSR HI CSN CCR CUP CSC CRP CNE CNW B B2 B3 B4 B4a B5 d2 d3 d4 d5 k2 k3 k5 x4 x5 x7 b4 b6 b7 oa ob oa4 ob4 oa5 hs4 K4 p0 p1 p2 p3 q0 q1 q2 q3 hbb g6 g7 g8 hL hla hlt hi1 hsl hlen
        go_loopw [15, 17] (fun vo vi wr => ∃ (m : Nat) (L : WL) (T : List ByteArray) (A : Option Addr) (c : Nat), m ≤ more.length ∧ vi = .int .i64 m ∧ TxtAt (aa + 1) wr vo T ∧ Lg bb d A c size L wr ∧ Below w.heap.size w wr ∧ Hid (GoI m L T)) (fun _ vi _ => more.length - (intOf vi).toNat)
        case atStart => exact ⟨0, _, T1, A5, c5, by omega, rfl, o7, l7, B7, HGO⟩
        case round =>
          obtain ⟨m, L, T, A, c, hm, rfl, ho, hL, B, HI⟩ := hrel
          obtain ⟨Ar, cr, rfl, hcr⟩ := ho.slice
          have HO := Lib.hid ho
          have hT60 : T.length ≤ 60 := by have := HI.out.len; omega
          have hla := hL.lt
          clear l7 o7 B7 HGO ho
          by_cases hlt : m < more.length
          · obtain ⟨f, hk'⟩ : ∃ f, more[m]? = some f := ⟨more[m], List.getElem?_eq_getElem hlt⟩
            have HKF := Lib.hid hk'
            obtain ⟨ad, rfl, hadl, z0, z1, z2⟩ := HRM.out.below B m f hk'
            have hi1 : (m : Int) < (more.length : Int) := by omega
            have hs : f.s.size ≤ 100 := HFM.out.2 f (List.mem_of_getElem? hk')
            have HCE := Lib.hid (fun (W : World) (hW : Below w.heap.size w W) => (by obtain ⟨ad', e', _, q0, q1, q2⟩ := HRM.out.below hW m _ HKF.out; obtain rfl := Option.some.inj e'; exact q1 : W.cell? ⟨(ad.add (m * 3)).block, (ad.add (m * 3)).off + 1, none⟩ = some (.string f.s)))
            clear hk'
            by_cases hk1 : f.kind = 1
            · have g1 : (f.kind == 1) = true := by simpa using hk1
              obtain ⟨e1, hn⟩ := HI.out.push (by omega) size f.s hs
              have CAP' := wal_Append bb d A c size hsize L (HI.out.ok (by omega)) 65536 (160 + 2 * m) (60 + 2 * m) HI.out.inv (by omega) f.s hs wr (fun W' hb' => HT.out W' (B.trans (hb'.mono hwd))) hdb hL
              have CAP := Lib.hid CAP'
              have HN := Lib.hid hn
              clear hk1 hn CAP'
              generalize appendW size L f.s = rr at *
              obtain ⟨L2, q1, q2⟩ := rr
              simp only at HN CAP e1
              obtain ⟨rfl, rfl⟩ : q1 = (T.length : Int) + 1 ∧ q2 = 0 := by injection e1 with a1 a2; exact ⟨a1, a2⟩
              clear e1
              as_aux_lemma => (
                go_wp2_with (first
                  | (go_at_call 11; (with_reducible refine (CAP.out).mono ?_); rintro e w4 ⟨rfl, A4, c4, l4, k4⟩; have B4 := Below.trans B (k4.below.mono hwd); have u1 := HCE.out _ B4; have HO4 := Lib.hid (HO.out.lkeep k4 (by omega) hL.box); have hl4 := l4.lt)
                  | (at_builtin; refine wpList_append_txt rfl _ _ _ (by rfl) (aa + 1) i0 _ Tryz.underlying36 HIS.out.1 HIS.out.2.1 HIS.out.2.2.1 HIS.out.2.2.2 rfl _ T T.length rfl (by rfl) w4 HO4.out f.s _ rfl (by rfl) (by omega) (by omega) ?_; intro g5 cap5 w5 hA5; have B5 := B4.grown hA5.gb (by omega) (fun k e => by have := HO4.out.lt e; omega); have l5 := l4.grownT (by omega) HO4.out hA5.gb; have HO5 := Lib.hid (own_snoc hA5.own)))
                exact ⟨⟨m + 1, L2, T ++ [f.s], A4, c4, by omega, by go_num, .inl HO5.out, l5, B5, HN⟩, by show more.length - ((m : Int) + 1).toNat < more.length - ((m : Int)).toNat; omega⟩)
            · have g1 : (f.kind == 1) = false := by simpa using hk1
              have HN := Lib.hid HI.out.skip
              clear hk1
              as_aux_lemma => (
                go_wp2_with fail
                exact ⟨⟨m + 1, L, T, A, c, by omega, by go_num, HO.out, hL, B, HN⟩, by show more.length - ((m : Int) + 1).toNat < more.length - ((m : Int)).toNat; omega⟩)
          · have hi1 : ¬ (m : Int) < (more.length : Int) := by omega
            obtain ⟨l2, hS, hfr, hex⟩ := HI.out.done (by omega)
            have CSC' := (scanC d A c L.S l2 hS 0 wr (HT.out wr B) hL.dk).mono (fun e w' h => scanT_of hfr h)
            rw [hex] at CSC'
            have CSC := Lib.hid CSC'
            have hdl := hL.dk.lt
            clear CSC' hS hfr hex
            generalize fileB (scanF l2 0).2.1.1 = fl2 at *
            generalize (scanF l2 0).2.1.2 = kp2 at *
            as_aux_lemma => (
              go_wp2_with (go_at_call 27; ((with_reducible refine (CSC.out).mono ?_); rintro e w4 ⟨Aa, ca, Ab, cb, rfl, oa, ob, b4⟩; have x4 := heap_alloc_new w4 (.cells #[.slice Aa T.length ca, .string fl2, .int .i64 (kp2 : Nat), .slice Ab 0 cb] 58); have K4 := below_alloc' (.cells #[.slice Aa T.length ca, .string fl2, .int .i64 (kp2 : Nat), .slice Ab 0 cb] 58) (Below.refl w4.heap.size w4); have p0 := bx_cells x4 0; have p3 := bx_cells x4 3))
              have hs4 := b4.size
              have hs5 : w4.heap.size + 1 = (w4.alloc (.cells #[.slice Aa T.length ca, .string fl2, .int .i64 (kp2 : Nat), .slice Ab 0 cb] 58)).heap.size := (World.size_alloc w4 _).symm
              have HB5 := Lib.hid (below_step K4 (below_step b4 B))
              have HO5 := Lib.hid ((HO.out.below b4).below K4)
              have HF5 := Lib.hid (own_below oa K4)
              have HX5 := Lib.hid x4
              clear oa ob b4 K4 p0 p3 x4
              generalize w4.alloc (.cells #[.slice Aa T.length ca, .string fl2, .int .i64 (kp2 : Nat), .slice Ab 0 cb] 58) = w5 at *
              go_loopw [22] (fun vi wx => ∃ i : Nat, i ≤ T.length ∧ vi = .int .i64 i ∧ Below w5.heap.size w5 wx) (fun vi _ => 100 - (intOf vi).toNat)
              case atStart => exact ⟨0, by omega, rfl, Below.refl _ _⟩
              case round =>
                obtain ⟨i, hi, rfl, hbx⟩ := hrel
                have xb := bx_kept HX5.out hbx
                have p0 := bx_cells xb 0
                by_cases hlt2 : i < T.length
                · obtain ⟨x, hx⟩ : ∃ x, T[i]? = some x := ⟨T[i], List.getElem?_eq_getElem hlt2⟩
                  obtain ⟨g, rfl, hgl, c1⟩ := (HO5.out.below hbx).cell hx
                  obtain ⟨au, rfl, haul, f0, f1⟩ := frs_cell (own_below HF5.out hbx) hx
                  have hi2 : (i : Int) < (T.length : Int) := by omega
                  have HBX := Lib.hid hbx
                  clear hbx xb hx
                  go_wp2_with fail
                  go_quiet (fail)
                  go_wp2_with fail
                  exact ⟨⟨i + 1, by omega, by go_num, below_drewN HBX.out _⟩, by show 100 - ((i : Int) + 1).toNat < 100 - ((i : Int)).toNat; omega⟩
                · have hi2 : ¬ (i : Int) < (T.length : Int) := by omega
                  have HBX := Lib.hid (below_step hbx HB5.out)
                  clear hbx
                  go_wp2_with (go_at_call 25; (with_reducible refine (HA.out _ HBX.out).mono ?_); rintro e y1 ⟨rfl, b1⟩)
                  go_ret
                  exact ⟨rfl, b1⟩))
end Go.Proofs.YtcpmicinibfepaaGreatDoor

namespace Go.Proofs.YtcpmicinibfepaaGreatDoor
open Go.ChangeShapes Go.WideShapes Go.ChangeAt Go.RowKit Go.Deep DiskP NameP


set_option maxRecDepth 100000 in
theorem law33_GoesOn (size : Int) (hsize : I64 size) (a b : SlWa) (w : World) (ht : TabW w) (ha : a.Ok w) (hb : b.Ok w) :
    Calls Tryz.prog 6 #[.int .i64 size, .slice a.A a.l.length a.c, .slice b.A b.l.length b.c] w fun e w' => e = .returned (.bool true) ∧ Below w.heap.size w w' := by
  by_cases hf : fewW a.l
  · by_cases hg : fewW b.l
    · exact law33_GoesOn_few size hsize a b w ht ha hb hf hg
    · have hra := ha.2.2.2.2
      obtain ⟨h1, h2, h3, h4, h5⟩ := hb
      have HF := Lib.hid (fun (W : World) (hb : Below w.heap.size w W) => ref32_Few_yes a.A a.c a.l hf W (hra.world hb))
      have HF2 := Lib.hid (fun (W : World) (hb : Below w.heap.size w W) => ref32_Few_no b.A b.c b.l h1 (fun p hp => (h4 p hp).2.2) hg W (h5.world hb))
      have HA := Lib.hid (fun (W : World) (hb : Below w.heap.size w W) => (law33_awake' W (TabW.below ht hb)).mono (fun e w' (hp : e = .returned (.bool true) ∧ Below W.heap.size W w') => (⟨hp.1, below_step hp.2 hb⟩ : e = .returned (.bool true) ∧ Below w.heap.size w w')))
      clear h5 h4 hf hg ht ha hra hsize
      go_enter Tryz.func6, Tryz.ntmps6
      go_wp2_with (first
        | (go_at_call 7; (with_reducible refine (HF.out _ (by (repeat (first | assumption | exact Below.refl _ _ | refine below_step (by assumption) ?_ | refine below_alloc' _ ?_ | refine below_drewN ?_ _ | refine Below.drew ?_)))).mono ?_); rintro e w0 ⟨rfl, rfl⟩)
        | (go_at_call 7; (with_reducible refine (HF2.out _ (by (repeat (first | assumption | exact Below.refl _ _ | refine below_step (by assumption) ?_ | refine below_alloc' _ ?_ | refine below_drewN ?_ _ | refine Below.drew ?_)))).mono ?_); rintro e w0 ⟨rfl, rfl⟩)
        | (go_at_call 25; (with_reducible refine (HA.out _ (by (repeat (first | assumption | exact Below.refl _ _ | refine below_step (by assumption) ?_ | refine below_alloc' _ ?_ | refine below_drewN ?_ _ | refine Below.drew ?_)))).mono ?_); rintro e y1 ⟨rfl, b1⟩))
      go_ret
      exact ⟨rfl, b1⟩
  · obtain ⟨h1, h2, h3, h4, h5⟩ := ha
    have HF := Lib.hid (fun (W : World) (hb : Below w.heap.size w W) => ref32_Few_no a.A a.c a.l h1 (fun p hp => (h4 p hp).2.2) hf W (h5.world hb))
    have HA := Lib.hid (fun (W : World) (hb : Below w.heap.size w W) => (law33_awake' W (TabW.below ht hb)).mono (fun e w' (hp : e = .returned (.bool true) ∧ Below W.heap.size W w') => (⟨hp.1, below_step hp.2 hb⟩ : e = .returned (.bool true) ∧ Below w.heap.size w w')))
    clear h5 h4 hf ht hb hsize
    go_enter Tryz.func6, Tryz.ntmps6
    go_wp2_with (first
      | (go_at_call 7; (with_reducible refine (HF.out _ (by (repeat (first | assumption | exact Below.refl _ _ | refine below_step (by assumption) ?_ | refine below_alloc' _ ?_ | refine below_drewN ?_ _ | refine Below.drew ?_)))).mono ?_); rintro e w0 ⟨rfl, rfl⟩)
      | (go_at_call 25; (with_reducible refine (HA.out _ (by (repeat (first | assumption | exact Below.refl _ _ | refine below_step (by assumption) ?_ | refine below_alloc' _ ?_ | refine below_drewN ?_ _ | refine Below.drew ?_)))).mono ?_); rintro e y1 ⟨rfl, b1⟩))
    go_ret
    exact ⟨rfl, b1⟩
end Go.Proofs.YtcpmicinibfepaaGreatDoor
