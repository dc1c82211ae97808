/- Layer 33: the walk of ReplayRepairs (few files), with what is said of Scan and of awake ahead of it. -/
import Derived.Test.YtcpmicinibfepaaGreatDoorWBs
namespace Go.Proofs.YtcpmicinibfepaaGreatDoor
open Go.ChangeShapes Go.WideShapes Go.ChangeAt Go.RowKit Go.Deep DiskP NameP FrameP


def ScanQ (fr : List FrameP.Fr) (file : ByteArray) (keep : Nat) (xs : List ByteArray) (w : World) (e : Ending) (w' : World) : Prop :=
  ∃ A1 c1 A2 c2, e = .returned (.tuple #[.agg #[.slice A1 fr.length c1, .string file, .int .i64 (keep : Nat), .slice A2 xs.length c2], .int .i64 0]) ∧ w'.ownsRow (w.heap.size + 1) 46 2 (.slice A1 fr.length c1) fr.length (fcells fr) ∧ w'.ownsRow (w.heap.size + 1) 9 1 (.slice A2 xs.length c2) xs.length (xs.map Value.string) ∧ Below w.heap.size w w'
theorem scanQ_of {r : List FrameP.Fr × (Option Int × Nat) × List Int} {w w' : World} {e : Ending} (h : ScanPost r w e w') : ScanQ r.1 (fileB r.2.1.1) r.2.1.2 (r.2.2.map tB) w e w' := by
  obtain ⟨A1, c1, A2, c2, e1, o1, o2, b⟩ := h
  refine ⟨A1, c1, A2, c2, by rw [List.length_map]; exact e1, o1, ?_, b⟩
  rw [List.length_map, List.map_map]
  exact o2
theorem own_dk {d B n sz : Nat} {w w' : World} {e : TypeId} {v : Value} {xs : List Value} (h : w.ownsRow B e sz v n xs) (hk : DKeep d w w') (hd : d < B) (ht : e ≠ 81) : w'.ownsRow B e sz v n xs :=
  own_lkeep h (LKeep.of_d (a := d) hk) hd (fun g hg => by have := (h.lt g hg).1; omega) ht
theorem same_of (A B : Option Addr) (c d B1 B2 : Nat) (fr : List FrameP.Fr) (hl : fr.length ≤ 1000) (w : World) (h1 : w.ownsRow B1 46 2 (.slice A fr.length c) fr.length (fcells fr)) (h2 : w.ownsRow B2 46 2 (.slice B fr.length d) fr.length (fcells fr)) :
    Calls Tryz.prog 31 #[.slice A fr.length c, .slice B fr.length d] w fun e w' => e = .returned (.bool true) ∧ Below w.heap.size w w' :=
  ref_Same6 A B c d fr (by omega) w (RdF.own h1) (RdF.own h2)

set_option maxRecDepth 100000 in
set_option maxHeartbeats 20000000 in
theorem law33_ReplayRepairs_few (HSC : ScanC) (after fuse : Int) (hfu : I64 fuse) (A0 : Option Addr) (c0 : Nat) (l : List Rf) (hf : fewR l) (w : World) (ht : TabW w) (hr : RdRf w w.heap.size A0 l)
    (HAW : ∀ W, TabW W → Calls Tryz.prog 25 #[] W fun e w' => e = .returned (.bool true) ∧ Below W.heap.size W w') :
    Calls Tryz.prog 5 #[.slice A0 l.length c0, .int .i64 after, .int .i64 fuse] w fun e w' => e = .returned (.bool true) ∧ Below w.heap.size w w' := by
  obtain ⟨l0, l1, l2, D, D4, s, e5, HC⟩ := rep_chain hf after fuse hfu
  obtain ⟨d, hd⟩ : ∃ d, d = w.heap.size := ⟨_, rfl⟩
  have HT := Lib.hid (fun W (hb : Below d w W) => TabW.below ht (by rw [← hd]; exact hb))
  have HF := Lib.hid (ref33_Few_yes A0 c0 l hf w hr)
  have HL' := law33_laid A0 c0 l hf w hr
  rw [← hd] at HL'
  have HL := Lib.hid HL'
  have HA := Lib.hid (fun (W : World) (hb : Below d w W) => HAW W (HT.out W hb))
  have hS1 := fun (A : Option Addr) (c : Nat) (W : World) (hb : Below d w W) (hk : Dk d A c (laidS l) W) => (HSC d A c _ _ HC.s0 after W (HT.out W hb) hk).mono (fun e w' h => scanQ_of h)
  have hS2 := fun (A : Option Addr) (c : Nat) (W : World) (hb : Below d w W) (hk : Dk d A c (upD D.1 []) W) => (HSC d A c _ _ HC.s3 after W (HT.out W hb) hk).mono (fun e w' h => scanQ_of h)
  have hS3 := fun (A : Option Addr) (c : Nat) (W : World) (hb : Below d w W) (hk : Dk d A c D4.1 W) => (HSC d A c _ _ HC.s4 after W (HT.out W hb) hk).mono (fun e w' h => scanQ_of h)
  have hR1 := fun (A : Option Addr) (c : Nat) (A1 : Option Addr) (n1 c1 B : Nat) (A2 : Option Addr) (c2 : Nat) (hdB : d < B) (W : World) (hk : Dk d A c { laidS l with fuse := max fuse (-1) } W) (ho : W.ownsRow B 9 1 (.slice A2 ((scanF l0 after).2.2.map tB).length c2) ((scanF l0 after).2.2.map tB).length (((scanF l0 after).2.2.map tB).map Value.string)) =>
    rep_Repair d A c _ 65536 12 48 HC.i1 (by omega) A1 n1 c1 (fileB (scanF l0 after).2.1.1) ((scanF l0 after).2.1.2 : Nat) B A2 c2 ((scanF l0 after).2.2.map tB) (by have := scan_extra l0 after; have := HC.s0.len; rw [List.length_map]; omega) hdB W hk ho
  have hR2 := fun (A : Option Addr) (c : Nat) (A1 : Option Addr) (n1 c1 B : Nat) (A2 : Option Addr) (c2 : Nat) (hdB : d < B) (W : World) (hk : Dk d A c (upD D.1 []) W) (ho : W.ownsRow B 9 1 (.slice A2 ((scanF l1 after).2.2.map tB).length c2) ((scanF l1 after).2.2.map tB).length (((scanF l1 after).2.2.map tB).map Value.string)) =>
    rep_Repair d A c _ 65536 100 48 HC.i3 (by omega) A1 n1 c1 (fileB (scanF l1 after).2.1.1) ((scanF l1 after).2.1.2 : Nat) B A2 c2 ((scanF l1 after).2.2.map tB) (by have := scan_extra l1 after; have := HC.s3.len; rw [List.length_map]; omega) hdB W hk ho
  rw [HC.d] at hR1
  rw [HC.d4, HC.e4] at hR2
  rw [HC.f1] at hS2
  rw [HC.f2, HC.ex] at hS3
  simp only [List.map_nil] at hS3
  have hsz := HC.sz
  have hfk := HC.fk
  have hrd := HC.rd
  have hdd := HC.dd
  have hi2 := HC.i2
  have hi4 := HC.i4
  have hfl : (scanF l0 after).1.length ≤ 1000 := by
    have h1 := HC.s0.few
    have h2 := frS_take_le l0 (rdS l0 after)
    unfold scanF
    split
    · simp
    · simp only [List.length_drop]; omega
  generalize fileB (scanF l0 after).2.1.1 = fl0 at *
  generalize (scanF l0 after).2.1.2 = kp0 at *
  generalize (scanF l0 after).2.2.map tB = xs0 at *
  generalize fileB (scanF l1 after).2.1.1 = fl1 at *
  generalize (scanF l1 after).2.1.2 = kp1 at *
  generalize (scanF l1 after).2.2.map tB = xs1 at *
  generalize fileB (scanF l2 after).2.1.1 = fl2 at *
  generalize (scanF l2 after).2.1.2 = kp2 at *
  generalize (scanF l0 after).1 = fr at *
  have CFu := Lib.hid (fun (A : Option Addr) (c : Nat) (W : World) (h : Dk d A c (laidS l) W) => disk_Fuse d A c (laidS l) fuse W h)
  have COn := Lib.hid (fun (A : Option Addr) (c : Nat) (W : World) (h : Dk d A c D.1 W) => disk_On d A c D.1 W h)
  have CUp' : ∀ (A : Option Addr) (c : Nat) (W : World), Dk d A c D.1 W → Calls Tryz.prog 23 #[.pointer (some ⟨d, 0, none⟩), .slice none 0 0] W (DPost d (upD D.1 []) (.tuple #[]) W) := fun A c W h => disk_Up d A c D.1 (hi2.ok (by omega) (by omega)) hi2.made none 0 [] (Nat.le_refl _) (by simp) W h (fun X _ j u hj => by simp at hj)
  have CUp := Lib.hid CUp'
  have CRd' : ∀ (A : Option Addr) (c : Nat) (W : World), Dk d A c D4.1 W → Calls Tryz.prog 14 #[.pointer (some ⟨d, 0, none⟩), .string fl2] W fun e w' => e = .returned (.tuple #[.string s, .int .i64 e5]) ∧ Below W.heap.size W w' := fun A c W h => by
    have := disk_Read d A c D4.1 fl2 hi4.sorted (by have := hi4.many; omega) W h
    rw [hrd] at this
    exact this
  have CRd := Lib.hid CRd'
  have S1 := Lib.hid hS1
  have S2 := Lib.hid hS2
  have S3 := Lib.hid hS3
  have R1 := Lib.hid hR1
  have R2 := Lib.hid hR2
  have HDD := Lib.hid hd
  clear hd hS1 hS2 hS3 hR1 hR2 CUp' CRd' hi2 hi4 hrd HC HSC ht hr hf HL' HAW hfu
  generalize laidS l = L0 at *
  obtain ⟨Dd, er⟩ := D
  simp only at hdd CUp COn S2 R2
  have gsz : ((s.size : Int) == (kp2 : Int)) = true := by simp [hsz]
  by_cases he : fl2.toList.isEmpty = true
  · have hk2 : kp2 = 0 := by
      rcases hfk with h | h
      · rw [emp_eq] at he
        exact absurd (by simpa using he) h
      · exact h
    have gk2 : ((kp2 : Int) == 0) = true := by simp [hk2]
    clear hfk hsz hk2
    rcases hdd with ⟨rfl, hon⟩ | ⟨rfl, hon⟩
    · rw [hon] at COn
      clear hon
      go_enter Tryz.func5, Tryz.ntmps5
      go_wp2_with (first
        | (go_at_call 24; (with_reducible refine (HF.out).mono ?_); rintro e w0 ⟨rfl, rfl⟩)
        | (go_at_call 26; (with_reducible refine (HL.out).mono ?_); rintro e w1 ⟨rfl, ⟨A1, c1, d1⟩, B1⟩; have hd1 := d1.lt)
        | (go_at_call 27; ((with_reducible refine (S1.out _ _ w1 B1 d1).mono ?_); rintro e w2 ⟨Aa, ca, Ab, cb, rfl, oa, ob, b2⟩; have d2 := d1.kept b2; have hs2 := b2.size; have B2 := B1.trans (b2.mono (Nat.le_of_lt hd1))))
        | (go_at_call 28; ((with_reducible refine (CFu.out _ _ _ (d2.kept (by (repeat (first | assumption | exact Below.refl _ _ | refine below_step (by assumption) ?_ | refine below_alloc' _ ?_ | refine below_drewN ?_ _ | refine Below.drew ?_))))).mono ?_); rintro e w3 ⟨rfl, A3, c3, d3, k3⟩; have x8 := dkeep_box k3 (heap_alloc_new w2 _) (by omega) (by decide); have oa3 := own_dk (own_below oa (below_alloc' _ (Below.refl _ _))) k3 (by omega) (by decide); have ob3 := own_dk (own_below ob (below_alloc' _ (Below.refl _ _))) k3 (by omega) (by decide); have p80 := bx_cells x8 0; have p81 := bx_cells x8 1; have p82 := bx_cells x8 2; have p83 := bx_cells x8 3; have B3 := (B2.trans ((below_alloc' _ (Below.refl w2.heap.size w2)).mono (by omega))).trans k3.below))
        | (go_at_call 29; ((with_reducible refine (R1.out _ _ _ _ _ _ _ _ (by omega) w3 d3 ob3).mono ?_); rintro e w4 ⟨rfl, A4, c4, d4, k4⟩; have x84 := dkeep_box k4 x8 (by omega) (by decide); have oa4 := own_dk oa3 k4 (by omega) (by decide); have B4 := B3.trans k4.below))
        | (go_at_call 30; (with_reducible refine (COn.out _ _ _ d4).mono ?_); rintro e w4' ⟨rfl, rfl⟩)
        | (go_at_call 23; ((with_reducible refine (CUp.out _ _ _ d4).mono ?_); rintro e w5 ⟨rfl, A5, c5, d5, k5⟩; have x85 := dkeep_box k5 x84 (by omega) (by decide); have oa5 := own_dk oa4 k5 (by omega) (by decide); have B5 := B4.trans k5.below; have hd5 := d5.lt; have hl8 := bx_lt x85))
        | (go_at_call 27; ((with_reducible refine (S2.out _ _ w5 B5 d5).mono ?_); rintro e w6 ⟨Ac, cc, Ad, cd, rfl, oc, od, b6⟩; have d6 := d5.kept b6; have hs6 := b6.size; have B6 := B5.trans (b6.mono (Nat.le_of_lt hd5)); have x86 := kept_new (bx_kept x85 b6) (.cells #[.slice Ac fr.length cc, .string fl1, .int .i64 (kp1 : Nat), .slice Ad xs1.length cd] 58); have x11 := heap_alloc_new w6 (.cells #[.slice Ac fr.length cc, .string fl1, .int .i64 (kp1 : Nat), .slice Ad xs1.length cd] 58); have q80 := bx_cells x86 0; have q110 := bx_cells x11 0; have oa6 := own_below (own_below oa5 b6) (below_alloc' (.cells #[.slice Ac fr.length cc, .string fl1, .int .i64 (kp1 : Nat), .slice Ad xs1.length cd] 58) (Below.refl _ _)); have oc6 := own_below oc (below_alloc' (.cells #[.slice Ac fr.length cc, .string fl1, .int .i64 (kp1 : Nat), .slice Ad xs1.length cd] 58) (Below.refl _ _)); have od6 := own_below od (below_alloc' (.cells #[.slice Ac fr.length cc, .string fl1, .int .i64 (kp1 : Nat), .slice Ad xs1.length cd] 58) (Below.refl _ _)); have d6a := d6.kept (below_alloc' (.cells #[.slice Ac fr.length cc, .string fl1, .int .i64 (kp1 : Nat), .slice Ad xs1.length cd] 58) (Below.refl _ _)); have B6a := B6.trans ((below_alloc' (.cells #[.slice Ac fr.length cc, .string fl1, .int .i64 (kp1 : Nat), .slice Ad xs1.length cd] 58) (Below.refl w6.heap.size w6)).mono (by omega))))
        | (go_at_call 31; ((with_reducible refine (same_of _ _ _ _ _ _ fr hfl _ oa6 oc6).mono ?_); rintro e w7 ⟨rfl, b7⟩; have x87 := bx_kept x86 b7; have x117 := bx_kept x11 b7; have d7 := d6a.kept b7; have oa7 := own_below oa6 b7; have od7 := own_below od6 b7; have r110 := bx_cells x117 0; have r111 := bx_cells x117 1; have r112 := bx_cells x117 2; have r113 := bx_cells x117 3; have B7 := B6a.trans (b7.mono (by rw [World.size_alloc]; omega))))
        | (go_at_call 29; ((with_reducible refine (R2.out _ _ _ _ _ _ _ _ (by omega) w7 d7 od7).mono ?_); rintro e w8 ⟨rfl, A8, c8, d8, k8⟩; have x88 := dkeep_box k8 x87 (by omega) (by decide); have oa8 := own_dk oa7 k8 (by omega) (by decide); have B8 := B7.trans k8.below; have hd8 := d8.lt))
        | (go_at_call 27; ((with_reducible refine (S3.out _ _ w8 B8 d8).mono ?_); rintro e w9 ⟨Ae, ce, Af, cf, rfl, oe, of9, b9⟩; have d9 := d8.kept b9; have hs9 := b9.size; have B9 := B8.trans (b9.mono (Nat.le_of_lt hd8)); have x89 := kept_new (bx_kept x88 b9) (.cells #[.slice Ae fr.length ce, .string fl2, .int .i64 (kp2 : Nat), .slice Af 0 cf] 58); have x13 := heap_alloc_new w9 (.cells #[.slice Ae fr.length ce, .string fl2, .int .i64 (kp2 : Nat), .slice Af 0 cf] 58); have oa9 := own_below (own_below oa8 b9) (below_alloc' (.cells #[.slice Ae fr.length ce, .string fl2, .int .i64 (kp2 : Nat), .slice Af 0 cf] 58) (Below.refl _ _)); have oe9 := own_below oe (below_alloc' (.cells #[.slice Ae fr.length ce, .string fl2, .int .i64 (kp2 : Nat), .slice Af 0 cf] 58) (Below.refl _ _)); have d9a := d9.kept (below_alloc' (.cells #[.slice Ae fr.length ce, .string fl2, .int .i64 (kp2 : Nat), .slice Af 0 cf] 58) (Below.refl _ _)); have B9a := B9.trans ((below_alloc' (.cells #[.slice Ae fr.length ce, .string fl2, .int .i64 (kp2 : Nat), .slice Af 0 cf] 58) (Below.refl w9.heap.size w9)).mono (by omega)); have t131 := bx_cells x13 1))
        | (go_at_call 14; ((with_reducible refine (CRd.out _ _ _ d9a).mono ?_); rintro e w10 ⟨rfl, b10⟩; have x810 := bx_kept x89 b10; have x1310 := bx_kept x13 b10; have oa10 := own_below oa9 b10; have oe10 := own_below oe9 b10; have B10 := B9a.trans (b10.mono (by rw [World.size_alloc]; omega)); have u80 := bx_cells x810 0; have u130 := bx_cells x1310 0; have hs10 := b10.size))
        | (go_at_call 31; ((with_reducible refine (same_of _ _ _ _ _ _ fr hfl _ oa10 oe10).mono ?_); rintro e w11 ⟨rfl, b11⟩; have x1311 := bx_kept x1310 b11; have v131 := bx_cells x1311 1; have v132 := bx_cells x1311 2; have v133 := bx_cells x1311 3; have B11 := B10.trans (b11.mono (by have := hs10; rw [World.size_alloc] at this; omega))))
        | (go_at_call 25; ((with_reducible refine (HA.out _ B11).mono ?_); rintro e w12 ⟨rfl, b12⟩; have B12 := B11.trans (b12.mono (by have := B11.size; have := b11.size; have := hs10; rw [World.size_alloc] at this; omega))))
      )
      go_ret
      exact ⟨rfl, by rw [← HDD.out]; exact B12⟩
    · rw [hon] at COn
      clear hon
      go_enter Tryz.func5, Tryz.ntmps5
      go_wp2_with (first
        | (go_at_call 24; (with_reducible refine (HF.out).mono ?_); rintro e w0 ⟨rfl, rfl⟩)
        | (go_at_call 26; (with_reducible refine (HL.out).mono ?_); rintro e w1 ⟨rfl, ⟨A1, c1, d1⟩, B1⟩; have hd1 := d1.lt)
        | (go_at_call 27; ((with_reducible refine (S1.out _ _ w1 B1 d1).mono ?_); rintro e w2 ⟨Aa, ca, Ab, cb, rfl, oa, ob, b2⟩; have d2 := d1.kept b2; have hs2 := b2.size; have B2 := B1.trans (b2.mono (Nat.le_of_lt hd1))))
        | (go_at_call 28; ((with_reducible refine (CFu.out _ _ _ (d2.kept (by (repeat (first | assumption | exact Below.refl _ _ | refine below_step (by assumption) ?_ | refine below_alloc' _ ?_ | refine below_drewN ?_ _ | refine Below.drew ?_))))).mono ?_); rintro e w3 ⟨rfl, A3, c3, d3, k3⟩; have x8 := dkeep_box k3 (heap_alloc_new w2 _) (by omega) (by decide); have oa3 := own_dk (own_below oa (below_alloc' _ (Below.refl _ _))) k3 (by omega) (by decide); have ob3 := own_dk (own_below ob (below_alloc' _ (Below.refl _ _))) k3 (by omega) (by decide); have p80 := bx_cells x8 0; have p81 := bx_cells x8 1; have p82 := bx_cells x8 2; have p83 := bx_cells x8 3; have B3 := (B2.trans ((below_alloc' _ (Below.refl w2.heap.size w2)).mono (by omega))).trans k3.below))
        | (go_at_call 29; ((with_reducible refine (R1.out _ _ _ _ _ _ _ _ (by omega) w3 d3 ob3).mono ?_); rintro e w4 ⟨rfl, A4, c4, d4, k4⟩; have x84 := dkeep_box k4 x8 (by omega) (by decide); have oa4 := own_dk oa3 k4 (by omega) (by decide); have B4 := B3.trans k4.below))
        | (go_at_call 30; (with_reducible refine (COn.out _ _ _ d4).mono ?_); rintro e w4' ⟨rfl, rfl⟩)
        | (go_at_call 23; ((with_reducible refine (CUp.out _ _ _ d4).mono ?_); rintro e w5 ⟨rfl, A5, c5, d5, k5⟩; have x85 := dkeep_box k5 x84 (by omega) (by decide); have oa5 := own_dk oa4 k5 (by omega) (by decide); have B5 := B4.trans k5.below; have hd5 := d5.lt; have hl8 := bx_lt x85))
        | (go_at_call 27; ((with_reducible refine (S2.out _ _ w5 B5 d5).mono ?_); rintro e w6 ⟨Ac, cc, Ad, cd, rfl, oc, od, b6⟩; have d6 := d5.kept b6; have hs6 := b6.size; have B6 := B5.trans (b6.mono (Nat.le_of_lt hd5)); have x86 := kept_new (bx_kept x85 b6) (.cells #[.slice Ac fr.length cc, .string fl1, .int .i64 (kp1 : Nat), .slice Ad xs1.length cd] 58); have x11 := heap_alloc_new w6 (.cells #[.slice Ac fr.length cc, .string fl1, .int .i64 (kp1 : Nat), .slice Ad xs1.length cd] 58); have q80 := bx_cells x86 0; have q110 := bx_cells x11 0; have oa6 := own_below (own_below oa5 b6) (below_alloc' (.cells #[.slice Ac fr.length cc, .string fl1, .int .i64 (kp1 : Nat), .slice Ad xs1.length cd] 58) (Below.refl _ _)); have oc6 := own_below oc (below_alloc' (.cells #[.slice Ac fr.length cc, .string fl1, .int .i64 (kp1 : Nat), .slice Ad xs1.length cd] 58) (Below.refl _ _)); have od6 := own_below od (below_alloc' (.cells #[.slice Ac fr.length cc, .string fl1, .int .i64 (kp1 : Nat), .slice Ad xs1.length cd] 58) (Below.refl _ _)); have d6a := d6.kept (below_alloc' (.cells #[.slice Ac fr.length cc, .string fl1, .int .i64 (kp1 : Nat), .slice Ad xs1.length cd] 58) (Below.refl _ _)); have B6a := B6.trans ((below_alloc' (.cells #[.slice Ac fr.length cc, .string fl1, .int .i64 (kp1 : Nat), .slice Ad xs1.length cd] 58) (Below.refl w6.heap.size w6)).mono (by omega))))
        | (go_at_call 31; ((with_reducible refine (same_of _ _ _ _ _ _ fr hfl _ oa6 oc6).mono ?_); rintro e w7 ⟨rfl, b7⟩; have x87 := bx_kept x86 b7; have x117 := bx_kept x11 b7; have d7 := d6a.kept b7; have oa7 := own_below oa6 b7; have od7 := own_below od6 b7; have r110 := bx_cells x117 0; have r111 := bx_cells x117 1; have r112 := bx_cells x117 2; have r113 := bx_cells x117 3; have B7 := B6a.trans (b7.mono (by rw [World.size_alloc]; omega))))
        | (go_at_call 29; ((with_reducible refine (R2.out _ _ _ _ _ _ _ _ (by omega) w7 d7 od7).mono ?_); rintro e w8 ⟨rfl, A8, c8, d8, k8⟩; have x88 := dkeep_box k8 x87 (by omega) (by decide); have oa8 := own_dk oa7 k8 (by omega) (by decide); have B8 := B7.trans k8.below; have hd8 := d8.lt))
        | (go_at_call 27; ((with_reducible refine (S3.out _ _ w8 B8 d8).mono ?_); rintro e w9 ⟨Ae, ce, Af, cf, rfl, oe, of9, b9⟩; have d9 := d8.kept b9; have hs9 := b9.size; have B9 := B8.trans (b9.mono (Nat.le_of_lt hd8)); have x89 := kept_new (bx_kept x88 b9) (.cells #[.slice Ae fr.length ce, .string fl2, .int .i64 (kp2 : Nat), .slice Af 0 cf] 58); have x13 := heap_alloc_new w9 (.cells #[.slice Ae fr.length ce, .string fl2, .int .i64 (kp2 : Nat), .slice Af 0 cf] 58); have oa9 := own_below (own_below oa8 b9) (below_alloc' (.cells #[.slice Ae fr.length ce, .string fl2, .int .i64 (kp2 : Nat), .slice Af 0 cf] 58) (Below.refl _ _)); have oe9 := own_below oe (below_alloc' (.cells #[.slice Ae fr.length ce, .string fl2, .int .i64 (kp2 : Nat), .slice Af 0 cf] 58) (Below.refl _ _)); have d9a := d9.kept (below_alloc' (.cells #[.slice Ae fr.length ce, .string fl2, .int .i64 (kp2 : Nat), .slice Af 0 cf] 58) (Below.refl _ _)); have B9a := B9.trans ((below_alloc' (.cells #[.slice Ae fr.length ce, .string fl2, .int .i64 (kp2 : Nat), .slice Af 0 cf] 58) (Below.refl w9.heap.size w9)).mono (by omega)); have t131 := bx_cells x13 1))
        | (go_at_call 14; ((with_reducible refine (CRd.out _ _ _ d9a).mono ?_); rintro e w10 ⟨rfl, b10⟩; have x810 := bx_kept x89 b10; have x1310 := bx_kept x13 b10; have oa10 := own_below oa9 b10; have oe10 := own_below oe9 b10; have B10 := B9a.trans (b10.mono (by rw [World.size_alloc]; omega)); have u80 := bx_cells x810 0; have u130 := bx_cells x1310 0; have hs10 := b10.size))
        | (go_at_call 31; ((with_reducible refine (same_of _ _ _ _ _ _ fr hfl _ oa10 oe10).mono ?_); rintro e w11 ⟨rfl, b11⟩; have x1311 := bx_kept x1310 b11; have v131 := bx_cells x1311 1; have v132 := bx_cells x1311 2; have v133 := bx_cells x1311 3; have B11 := B10.trans (b11.mono (by have := hs10; rw [World.size_alloc] at this; omega))))
        | (go_at_call 25; ((with_reducible refine (HA.out _ B11).mono ?_); rintro e w12 ⟨rfl, b12⟩; have B12 := B11.trans (b12.mono (by have := B11.size; have := b11.size; have := hs10; rw [World.size_alloc] at this; omega))))
      )
      go_ret
      exact ⟨rfl, by rw [← HDD.out]; exact B12⟩
  · have he2 : fl2.toList.isEmpty = false := by simpa using he
    clear hfk hsz he
    rcases hdd with ⟨rfl, hon⟩ | ⟨rfl, hon⟩
    · rw [hon] at COn
      clear hon
      go_enter Tryz.func5, Tryz.ntmps5
      go_wp2_with (first
        | (go_at_call 24; (with_reducible refine (HF.out).mono ?_); rintro e w0 ⟨rfl, rfl⟩)
        | (go_at_call 26; (with_reducible refine (HL.out).mono ?_); rintro e w1 ⟨rfl, ⟨A1, c1, d1⟩, B1⟩; have hd1 := d1.lt)
        | (go_at_call 27; ((with_reducible refine (S1.out _ _ w1 B1 d1).mono ?_); rintro e w2 ⟨Aa, ca, Ab, cb, rfl, oa, ob, b2⟩; have d2 := d1.kept b2; have hs2 := b2.size; have B2 := B1.trans (b2.mono (Nat.le_of_lt hd1))))
        | (go_at_call 28; ((with_reducible refine (CFu.out _ _ _ (d2.kept (by (repeat (first | assumption | exact Below.refl _ _ | refine below_step (by assumption) ?_ | refine below_alloc' _ ?_ | refine below_drewN ?_ _ | refine Below.drew ?_))))).mono ?_); rintro e w3 ⟨rfl, A3, c3, d3, k3⟩; have x8 := dkeep_box k3 (heap_alloc_new w2 _) (by omega) (by decide); have oa3 := own_dk (own_below oa (below_alloc' _ (Below.refl _ _))) k3 (by omega) (by decide); have ob3 := own_dk (own_below ob (below_alloc' _ (Below.refl _ _))) k3 (by omega) (by decide); have p80 := bx_cells x8 0; have p81 := bx_cells x8 1; have p82 := bx_cells x8 2; have p83 := bx_cells x8 3; have B3 := (B2.trans ((below_alloc' _ (Below.refl w2.heap.size w2)).mono (by omega))).trans k3.below))
        | (go_at_call 29; ((with_reducible refine (R1.out _ _ _ _ _ _ _ _ (by omega) w3 d3 ob3).mono ?_); rintro e w4 ⟨rfl, A4, c4, d4, k4⟩; have x84 := dkeep_box k4 x8 (by omega) (by decide); have oa4 := own_dk oa3 k4 (by omega) (by decide); have B4 := B3.trans k4.below))
        | (go_at_call 30; (with_reducible refine (COn.out _ _ _ d4).mono ?_); rintro e w4' ⟨rfl, rfl⟩)
        | (go_at_call 23; ((with_reducible refine (CUp.out _ _ _ d4).mono ?_); rintro e w5 ⟨rfl, A5, c5, d5, k5⟩; have x85 := dkeep_box k5 x84 (by omega) (by decide); have oa5 := own_dk oa4 k5 (by omega) (by decide); have B5 := B4.trans k5.below; have hd5 := d5.lt; have hl8 := bx_lt x85))
        | (go_at_call 27; ((with_reducible refine (S2.out _ _ w5 B5 d5).mono ?_); rintro e w6 ⟨Ac, cc, Ad, cd, rfl, oc, od, b6⟩; have d6 := d5.kept b6; have hs6 := b6.size; have B6 := B5.trans (b6.mono (Nat.le_of_lt hd5)); have x86 := kept_new (bx_kept x85 b6) (.cells #[.slice Ac fr.length cc, .string fl1, .int .i64 (kp1 : Nat), .slice Ad xs1.length cd] 58); have x11 := heap_alloc_new w6 (.cells #[.slice Ac fr.length cc, .string fl1, .int .i64 (kp1 : Nat), .slice Ad xs1.length cd] 58); have q80 := bx_cells x86 0; have q110 := bx_cells x11 0; have oa6 := own_below (own_below oa5 b6) (below_alloc' (.cells #[.slice Ac fr.length cc, .string fl1, .int .i64 (kp1 : Nat), .slice Ad xs1.length cd] 58) (Below.refl _ _)); have oc6 := own_below oc (below_alloc' (.cells #[.slice Ac fr.length cc, .string fl1, .int .i64 (kp1 : Nat), .slice Ad xs1.length cd] 58) (Below.refl _ _)); have od6 := own_below od (below_alloc' (.cells #[.slice Ac fr.length cc, .string fl1, .int .i64 (kp1 : Nat), .slice Ad xs1.length cd] 58) (Below.refl _ _)); have d6a := d6.kept (below_alloc' (.cells #[.slice Ac fr.length cc, .string fl1, .int .i64 (kp1 : Nat), .slice Ad xs1.length cd] 58) (Below.refl _ _)); have B6a := B6.trans ((below_alloc' (.cells #[.slice Ac fr.length cc, .string fl1, .int .i64 (kp1 : Nat), .slice Ad xs1.length cd] 58) (Below.refl w6.heap.size w6)).mono (by omega))))
        | (go_at_call 31; ((with_reducible refine (same_of _ _ _ _ _ _ fr hfl _ oa6 oc6).mono ?_); rintro e w7 ⟨rfl, b7⟩; have x87 := bx_kept x86 b7; have x117 := bx_kept x11 b7; have d7 := d6a.kept b7; have oa7 := own_below oa6 b7; have od7 := own_below od6 b7; have r110 := bx_cells x117 0; have r111 := bx_cells x117 1; have r112 := bx_cells x117 2; have r113 := bx_cells x117 3; have B7 := B6a.trans (b7.mono (by rw [World.size_alloc]; omega))))
        | (go_at_call 29; ((with_reducible refine (R2.out _ _ _ _ _ _ _ _ (by omega) w7 d7 od7).mono ?_); rintro e w8 ⟨rfl, A8, c8, d8, k8⟩; have x88 := dkeep_box k8 x87 (by omega) (by decide); have oa8 := own_dk oa7 k8 (by omega) (by decide); have B8 := B7.trans k8.below; have hd8 := d8.lt))
        | (go_at_call 27; ((with_reducible refine (S3.out _ _ w8 B8 d8).mono ?_); rintro e w9 ⟨Ae, ce, Af, cf, rfl, oe, of9, b9⟩; have d9 := d8.kept b9; have hs9 := b9.size; have B9 := B8.trans (b9.mono (Nat.le_of_lt hd8)); have x89 := kept_new (bx_kept x88 b9) (.cells #[.slice Ae fr.length ce, .string fl2, .int .i64 (kp2 : Nat), .slice Af 0 cf] 58); have x13 := heap_alloc_new w9 (.cells #[.slice Ae fr.length ce, .string fl2, .int .i64 (kp2 : Nat), .slice Af 0 cf] 58); have oa9 := own_below (own_below oa8 b9) (below_alloc' (.cells #[.slice Ae fr.length ce, .string fl2, .int .i64 (kp2 : Nat), .slice Af 0 cf] 58) (Below.refl _ _)); have oe9 := own_below oe (below_alloc' (.cells #[.slice Ae fr.length ce, .string fl2, .int .i64 (kp2 : Nat), .slice Af 0 cf] 58) (Below.refl _ _)); have d9a := d9.kept (below_alloc' (.cells #[.slice Ae fr.length ce, .string fl2, .int .i64 (kp2 : Nat), .slice Af 0 cf] 58) (Below.refl _ _)); have B9a := B9.trans ((below_alloc' (.cells #[.slice Ae fr.length ce, .string fl2, .int .i64 (kp2 : Nat), .slice Af 0 cf] 58) (Below.refl w9.heap.size w9)).mono (by omega)); have t131 := bx_cells x13 1))
        | (go_at_call 14; ((with_reducible refine (CRd.out _ _ _ d9a).mono ?_); rintro e w10 ⟨rfl, b10⟩; have x810 := bx_kept x89 b10; have x1310 := bx_kept x13 b10; have oa10 := own_below oa9 b10; have oe10 := own_below oe9 b10; have B10 := B9a.trans (b10.mono (by rw [World.size_alloc]; omega)); have u80 := bx_cells x810 0; have u130 := bx_cells x1310 0; have hs10 := b10.size))
        | (go_at_call 31; ((with_reducible refine (same_of _ _ _ _ _ _ fr hfl _ oa10 oe10).mono ?_); rintro e w11 ⟨rfl, b11⟩; have x1311 := bx_kept x1310 b11; have v131 := bx_cells x1311 1; have v132 := bx_cells x1311 2; have v133 := bx_cells x1311 3; have B11 := B10.trans (b11.mono (by have := hs10; rw [World.size_alloc] at this; omega))))
        | (go_at_call 25; ((with_reducible refine (HA.out _ B11).mono ?_); rintro e w12 ⟨rfl, b12⟩; have B12 := B11.trans (b12.mono (by have := B11.size; have := b11.size; have := hs10; rw [World.size_alloc] at this; omega))))
      )
      go_ret
      exact ⟨rfl, by rw [← HDD.out]; exact B12⟩
    · rw [hon] at COn
      clear hon
      go_enter Tryz.func5, Tryz.ntmps5
      go_wp2_with (first
        | (go_at_call 24; (with_reducible refine (HF.out).mono ?_); rintro e w0 ⟨rfl, rfl⟩)
        | (go_at_call 26; (with_reducible refine (HL.out).mono ?_); rintro e w1 ⟨rfl, ⟨A1, c1, d1⟩, B1⟩; have hd1 := d1.lt)
        | (go_at_call 27; ((with_reducible refine (S1.out _ _ w1 B1 d1).mono ?_); rintro e w2 ⟨Aa, ca, Ab, cb, rfl, oa, ob, b2⟩; have d2 := d1.kept b2; have hs2 := b2.size; have B2 := B1.trans (b2.mono (Nat.le_of_lt hd1))))
        | (go_at_call 28; ((with_reducible refine (CFu.out _ _ _ (d2.kept (by (repeat (first | assumption | exact Below.refl _ _ | refine below_step (by assumption) ?_ | refine below_alloc' _ ?_ | refine below_drewN ?_ _ | refine Below.drew ?_))))).mono ?_); rintro e w3 ⟨rfl, A3, c3, d3, k3⟩; have x8 := dkeep_box k3 (heap_alloc_new w2 _) (by omega) (by decide); have oa3 := own_dk (own_below oa (below_alloc' _ (Below.refl _ _))) k3 (by omega) (by decide); have ob3 := own_dk (own_below ob (below_alloc' _ (Below.refl _ _))) k3 (by omega) (by decide); have p80 := bx_cells x8 0; have p81 := bx_cells x8 1; have p82 := bx_cells x8 2; have p83 := bx_cells x8 3; have B3 := (B2.trans ((below_alloc' _ (Below.refl w2.heap.size w2)).mono (by omega))).trans k3.below))
        | (go_at_call 29; ((with_reducible refine (R1.out _ _ _ _ _ _ _ _ (by omega) w3 d3 ob3).mono ?_); rintro e w4 ⟨rfl, A4, c4, d4, k4⟩; have x84 := dkeep_box k4 x8 (by omega) (by decide); have oa4 := own_dk oa3 k4 (by omega) (by decide); have B4 := B3.trans k4.below))
        | (go_at_call 30; (with_reducible refine (COn.out _ _ _ d4).mono ?_); rintro e w4' ⟨rfl, rfl⟩)
        | (go_at_call 23; ((with_reducible refine (CUp.out _ _ _ d4).mono ?_); rintro e w5 ⟨rfl, A5, c5, d5, k5⟩; have x85 := dkeep_box k5 x84 (by omega) (by decide); have oa5 := own_dk oa4 k5 (by omega) (by decide); have B5 := B4.trans k5.below; have hd5 := d5.lt; have hl8 := bx_lt x85))
        | (go_at_call 27; ((with_reducible refine (S2.out _ _ w5 B5 d5).mono ?_); rintro e w6 ⟨Ac, cc, Ad, cd, rfl, oc, od, b6⟩; have d6 := d5.kept b6; have hs6 := b6.size; have B6 := B5.trans (b6.mono (Nat.le_of_lt hd5)); have x86 := kept_new (bx_kept x85 b6) (.cells #[.slice Ac fr.length cc, .string fl1, .int .i64 (kp1 : Nat), .slice Ad xs1.length cd] 58); have x11 := heap_alloc_new w6 (.cells #[.slice Ac fr.length cc, .string fl1, .int .i64 (kp1 : Nat), .slice Ad xs1.length cd] 58); have q80 := bx_cells x86 0; have q110 := bx_cells x11 0; have oa6 := own_below (own_below oa5 b6) (below_alloc' (.cells #[.slice Ac fr.length cc, .string fl1, .int .i64 (kp1 : Nat), .slice Ad xs1.length cd] 58) (Below.refl _ _)); have oc6 := own_below oc (below_alloc' (.cells #[.slice Ac fr.length cc, .string fl1, .int .i64 (kp1 : Nat), .slice Ad xs1.length cd] 58) (Below.refl _ _)); have od6 := own_below od (below_alloc' (.cells #[.slice Ac fr.length cc, .string fl1, .int .i64 (kp1 : Nat), .slice Ad xs1.length cd] 58) (Below.refl _ _)); have d6a := d6.kept (below_alloc' (.cells #[.slice Ac fr.length cc, .string fl1, .int .i64 (kp1 : Nat), .slice Ad xs1.length cd] 58) (Below.refl _ _)); have B6a := B6.trans ((below_alloc' (.cells #[.slice Ac fr.length cc, .string fl1, .int .i64 (kp1 : Nat), .slice Ad xs1.length cd] 58) (Below.refl w6.heap.size w6)).mono (by omega))))
        | (go_at_call 31; ((with_reducible refine (same_of _ _ _ _ _ _ fr hfl _ oa6 oc6).mono ?_); rintro e w7 ⟨rfl, b7⟩; have x87 := bx_kept x86 b7; have x117 := bx_kept x11 b7; have d7 := d6a.kept b7; have oa7 := own_below oa6 b7; have od7 := own_below od6 b7; have r110 := bx_cells x117 0; have r111 := bx_cells x117 1; have r112 := bx_cells x117 2; have r113 := bx_cells x117 3; have B7 := B6a.trans (b7.mono (by rw [World.size_alloc]; omega))))
        | (go_at_call 29; ((with_reducible refine (R2.out _ _ _ _ _ _ _ _ (by omega) w7 d7 od7).mono ?_); rintro e w8 ⟨rfl, A8, c8, d8, k8⟩; have x88 := dkeep_box k8 x87 (by omega) (by decide); have oa8 := own_dk oa7 k8 (by omega) (by decide); have B8 := B7.trans k8.below; have hd8 := d8.lt))
        | (go_at_call 27; ((with_reducible refine (S3.out _ _ w8 B8 d8).mono ?_); rintro e w9 ⟨Ae, ce, Af, cf, rfl, oe, of9, b9⟩; have d9 := d8.kept b9; have hs9 := b9.size; have B9 := B8.trans (b9.mono (Nat.le_of_lt hd8)); have x89 := kept_new (bx_kept x88 b9) (.cells #[.slice Ae fr.length ce, .string fl2, .int .i64 (kp2 : Nat), .slice Af 0 cf] 58); have x13 := heap_alloc_new w9 (.cells #[.slice Ae fr.length ce, .string fl2, .int .i64 (kp2 : Nat), .slice Af 0 cf] 58); have oa9 := own_below (own_below oa8 b9) (below_alloc' (.cells #[.slice Ae fr.length ce, .string fl2, .int .i64 (kp2 : Nat), .slice Af 0 cf] 58) (Below.refl _ _)); have oe9 := own_below oe (below_alloc' (.cells #[.slice Ae fr.length ce, .string fl2, .int .i64 (kp2 : Nat), .slice Af 0 cf] 58) (Below.refl _ _)); have d9a := d9.kept (below_alloc' (.cells #[.slice Ae fr.length ce, .string fl2, .int .i64 (kp2 : Nat), .slice Af 0 cf] 58) (Below.refl _ _)); have B9a := B9.trans ((below_alloc' (.cells #[.slice Ae fr.length ce, .string fl2, .int .i64 (kp2 : Nat), .slice Af 0 cf] 58) (Below.refl w9.heap.size w9)).mono (by omega)); have t131 := bx_cells x13 1))
        | (go_at_call 14; ((with_reducible refine (CRd.out _ _ _ d9a).mono ?_); rintro e w10 ⟨rfl, b10⟩; have x810 := bx_kept x89 b10; have x1310 := bx_kept x13 b10; have oa10 := own_below oa9 b10; have oe10 := own_below oe9 b10; have B10 := B9a.trans (b10.mono (by rw [World.size_alloc]; omega)); have u80 := bx_cells x810 0; have u130 := bx_cells x1310 0; have hs10 := b10.size))
        | (go_at_call 31; ((with_reducible refine (same_of _ _ _ _ _ _ fr hfl _ oa10 oe10).mono ?_); rintro e w11 ⟨rfl, b11⟩; have x1311 := bx_kept x1310 b11; have v131 := bx_cells x1311 1; have v132 := bx_cells x1311 2; have v133 := bx_cells x1311 3; have B11 := B10.trans (b11.mono (by have := hs10; rw [World.size_alloc] at this; omega))))
        | (go_at_call 25; ((with_reducible refine (HA.out _ B11).mono ?_); rintro e w12 ⟨rfl, b12⟩; have B12 := B11.trans (b12.mono (by have := B11.size; have := b11.size; have := hs10; rw [World.size_alloc] at this; omega))))
      )
      go_ret
      exact ⟨rfl, by rw [← HDD.out]; exact B12⟩
end Go.Proofs.YtcpmicinibfepaaGreatDoor
