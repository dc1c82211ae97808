/- Layer 33: awake. -/
import Derived.Test.YtcpmicinibfepaaGreatDoorWBp
import Derived.Test.YtcpmicinibfepaaGreatDoorWBt
import Derived.Test.YtcpmicinibfepaaGreatDoorWBv
namespace Go.Proofs.YtcpmicinibfepaaGreatDoor
open Go.ChangeShapes Go.WideShapes Go.ChangeAt Go.RowKit Go.Deep DiskP NameP FrameP


set_option maxRecDepth 100000 in
set_option maxHeartbeats 4000000 in
theorem law33_awake (HSC : ScanC) (w : World) (ht : TabW w) : Calls Tryz.prog 25 #[] w fun e w' => e = .returned (.bool true) ∧ Below w.heap.size w w' := by
  obtain ⟨b1, hb1⟩ : ∃ b, b = fB 1 aB := ⟨_, rfl⟩
  obtain ⟨b2, hb2⟩ : ∃ b, b = fB 2 bB := ⟨_, rfl⟩
  have z1 : b1.size = 17 := by rw [hb1, fB_size]; rfl
  have z2 : b2.size = 17 := by rw [hb2, fB_size]; rfl
  obtain ⟨x, hx⟩ : ∃ x, x = (⟨#[]⟩ ++ b1 : ByteArray) := ⟨_, rfl⟩
  have zx : x.size = 17 := by rw [hx, emp_size, z1]
  obtain ⟨y2, hy2⟩ : ∃ y, y = x ++ b2 := ⟨_, rfl⟩
  have zy2 : y2.size = 34 := by rw [hy2, ByteArray.size_append]; omega
  obtain ⟨y, hy⟩ : ∃ y, y = y2 ++ tornB := ⟨_, rfl⟩
  have zy : y.size = 38 := by rw [hy, ByteArray.size_append, zy2]; rfl
  have hyl : y.data.toList = awL := by
    rw [hy, hy2, hx, hb1, hb2]
    simp [ByteArray.data_append, fB, S8, awL, aB, bB, tornB]
  have e1 : appendW 1000 ⟨dA [] 0, 1, 0⟩ aB = (⟨dA [⟨tB 1, x, 0⟩] 1, 2, 0⟩, 1, 0) := by
    have := rwk1 b1 z1
    unfold appendW
    show putW (placeW 1000 ⟨dA [] 0, 1, 0⟩ (fB 1 aB).size) (fB 1 aB) = _
    rw [← hb1, z1, hx]
    exact this
  have e2 : appendW 1000 ⟨dA [⟨tB 1, x, 0⟩] 1, 2, 0⟩ bB = (⟨dA [⟨tB 1, y2, 0⟩] 2, 3, 0⟩, 2, 0) := by
    have := rwk2 x b2 zx z2
    unfold appendW
    show putW (placeW 1000 ⟨dA [⟨tB 1, x, 0⟩] 1, 2, 0⟩ (fB 2 bB).size) (fB 2 bB) = _
    rw [← hb2, z2, hy2]
    exact this
  have e3 : appendD (dA [⟨tB 1, y2, 0⟩] 2) (tB 1) tornB = (dA [⟨tB 1, y, 0⟩] 3, 0) := by
    rw [app_1 y2 tornB 2 (by rw [zy2]; decide), hy]
    rfl
  have I0 := dA_inv
  have I1 : DInv 1000 2 2 (dA [⟨tB 1, x, 0⟩] 1) := by have := appendW_inv (L := ⟨dA [] 0, 1, 0⟩) I0 1000 aB (by decide); rw [e1] at this; exact this
  have I2 : DInv 1000 4 4 (dA [⟨tB 1, y2, 0⟩] 2) := by have := appendW_inv (L := ⟨dA [⟨tB 1, x, 0⟩] 1, 2, 0⟩) I1 1000 bB (by decide); rw [e2] at this; exact this
  have I3 : DInv 1000 5 5 (dA [⟨tB 1, y, 0⟩] 3) := by have := appendD_invM I2 (tB 1) tornB 1 (by decide); rw [e3] at this; exact this
  have I4 : DInv 1000 6 5 (dA [⟨tB 1, y.extract 0 34, 0⟩] 4) := by have := repair_inv I3 (tB 1) 34 []; rw [repair_awake y zy] at this; exact this
  have s1 := tB_size 1
  have o0 : OkW ⟨dA [] 0, 1, 0⟩ := ⟨I0.ok (by omega) (by omega), (by intro s hs; cases hs), by simp, by simp⟩
  have o1 : OkW ⟨dA [⟨tB 1, x, 0⟩] 1, 2, 0⟩ := ⟨I1.ok (by omega) (by omega), (by intro s hs; simp [names, dA] at hs; subst hs; omega), by simp, by simp⟩
  obtain ⟨d, hd⟩ : ∃ d, d = w.heap.size := ⟨_, rfl⟩
  have HT := Lib.hid (fun W (hb : Below d w W) => TabW.below ht (by rw [← hd]; exact hb))
  have H1' := disk_New 1000 w
  rw [← hd] at H1'
  have H1'' : Calls Tryz.prog 9 #[.int .i64 1000] w fun e w' => e = .returned (.pointer (some ⟨d, 0, none⟩)) ∧ Dk d none 0 (dA [] 0) w' ∧ Below d w w' := H1'
  have H1 := Lib.hid H1''
  have H2' : ∀ W : World, Calls Tryz.prog 10 #[.pointer (some ⟨d, 0, none⟩), .int .i64 1000, .int .i64 1] W fun e w' => e = .returned (.pointer (some ⟨W.heap.size, 0, none⟩)) ∧ w'.heap[W.heap.size]? = some (.cells #[.pointer (some ⟨d, 0, none⟩), .int .i64 1000, .int .i64 1, .int .i64 0] 74 (0, 0)) ∧ Below W.heap.size W w' := fun W => wal_New d 1000 1 W
  have H2 := Lib.hid H2'
  have HS1' : ∀ a A c W, Below d w W → d < a → Lg a d A c 1000 ⟨dA [] 0, 1, 0⟩ W → Calls Tryz.prog 11 #[.pointer (some ⟨a, 0, none⟩), .string ⟨#[97]⟩] W (LPost a d 1000 ⟨dA [⟨tB 1, x, 0⟩] 1, 2, 0⟩ (.tuple #[.int .i64 1, .int .i64 0]) W) := fun a A c W hb hda h => by
    have := wal_Append a d A c 1000 (by unfold I64; omega) _ o0 1000 0 0 I0 (by omega) aB (by decide) W (fun W' hb' => HT.out W' (hb.trans hb')) hda h
    rw [e1] at this
    exact this
  have HS2' : ∀ a A c W, Below d w W → d < a → Lg a d A c 1000 ⟨dA [⟨tB 1, x, 0⟩] 1, 2, 0⟩ W → Calls Tryz.prog 11 #[.pointer (some ⟨a, 0, none⟩), .string ⟨#[98]⟩] W (LPost a d 1000 ⟨dA [⟨tB 1, y2, 0⟩] 2, 3, 0⟩ (.tuple #[.int .i64 2, .int .i64 0]) W) := fun a A c W hb hda h => by
    have := wal_Append a d A c 1000 (by unfold I64; omega) _ o1 1000 2 2 I1 (by omega) bB (by decide) W (fun W' hb' => HT.out W' (hb.trans hb')) hda h
    rw [e2] at this
    exact this
  have HAp' : ∀ A c W, Dk d A c (dA [⟨tB 1, y2, 0⟩] 2) W → Calls Tryz.prog 39 #[.pointer (some ⟨d, 0, none⟩), .string ⟨#[108, 111, 103, 46, 49]⟩, .string ⟨#[116, 111, 114, 110]⟩] W (DPost d (dA [⟨tB 1, y, 0⟩] 3) (.int .i64 0) W) := fun A c W h => by
    have := disk_Append d A c _ (I2.ok (by omega) (by omega)) (tB 1) tornB (by omega) (by decide) W h
    rw [e3, tB_1] at this
    rw [tB_1]
    exact this
  have HSc' : ∀ A c W, Below d w W → Dk d A c (dA [⟨tB 1, y, 0⟩] 3) W → Calls Tryz.prog 27 #[.pointer (some ⟨d, 0, none⟩), .int .i64 1] W (ScanQ [(2, [98])] ⟨#[108, 111, 103, 46, 49]⟩ 34 [] W) := fun A c W hb h => by
    have := (HSC d A c _ _ (segs_awake y hyl) 1 W (HT.out W hb) h).mono (fun e w' h => scanQ_of h)
    rw [scan_awake] at this
    have e : fileB (some 1) = ⟨#[108, 111, 103, 46, 49]⟩ := tB_1
    simp only [e, List.map_nil] at this
    exact this
  have hrp := repair_awake y zy
  have HRp' : ∀ (A : Option Addr) (c : Nat) (A1 : Option Addr) (c1 B : Nat) (A2 : Option Addr) (c2 : Nat) (hdB : d < B) (W : World) (h : Dk d A c (dA [⟨tB 1, y, 0⟩] 3) W) (ho : W.ownsRow B 9 1 (.slice A2 0 c2) 0 []), Calls Tryz.prog 29 #[.pointer (some ⟨d, 0, none⟩), .agg #[.slice A1 1 c1, .string ⟨#[108, 111, 103, 46, 49]⟩, .int .i64 34, .slice A2 0 c2]] W (DPost d (dA [⟨tB 1, y.extract 0 34, 0⟩] 4) (.int .i64 0) W) := fun A c A1 c1 B A2 c2 hdB W h ho => by
    have := rep_Repair d A c _ 1000 5 5 I3 (by omega) A1 1 c1 (tB 1) 34 B A2 c2 [] (by simp) hdB W h ho
    rw [hrp, tB_1] at this
    rw [tB_1]
    exact this
  have HRd' : ∀ A c W, Dk d A c (dA [⟨tB 1, y.extract 0 34, 0⟩] 4) W → Calls Tryz.prog 14 #[.pointer (some ⟨d, 0, none⟩), .string ⟨#[108, 111, 103, 46, 49]⟩] W fun e w' => e = .returned (.tuple #[.string (y.extract 0 34), .int .i64 0]) ∧ Below W.heap.size W w' := fun A c W h => by
    have := disk_Read d A c _ (tB 1) I4.sorted (by simp [dA]) W h
    rw [show readD (dA [⟨tB 1, y.extract 0 34, 0⟩] 4) (tB 1) = (y.extract 0 34, 0) by simp [readD, dA, has, pos, cmpN_self], tB_1] at this
    exact this
  have zq : (y.extract 0 34).size = 34 := by rw [ByteArray.size_extract]; omega
  have HN1' : ∀ (A : Option Addr) (c : Nat) (A2 : Option Addr) (c2 : Nat) (B : Nat) (W : World) (ho : W.ownsRow B 46 2 (.slice A 1 c) 1 (fcells [(2, [98])])), Calls Tryz.prog 33 #[.int .i64 1, .agg #[.slice A 1 c, .string ⟨#[108, 111, 103, 46, 49]⟩, .int .i64 34, .slice A2 0 c2]] W fun e w' => e = .returned (.int .i64 3) ∧ Below W.heap.size W w' := fun A c A2 c2 B W ho => by
    have := rep_Next_some 1 A c [(2, [98])] 0 (by omega) (2, [98]) rfl (by unfold I64; simp) ⟨#[108, 111, 103, 46, 49]⟩ 34 A2 0 c2 W (RdF.own ho)
    exact this
  have HN2' : ∀ W : World, Calls Tryz.prog 33 #[.int .i64 7, .agg #[.slice none 0 0, .string ⟨#[]⟩, .int .i64 0, .slice none 0 0]] W fun e w' => e = .returned (.int .i64 8) ∧ Below W.heap.size W w' := fun W => rep_Next_none 7 (by unfold I64; omega) none 0 ⟨#[]⟩ 0 none 0 0 W
  have HS1 := Lib.hid HS1'
  have HS2 := Lib.hid HS2'
  have HAp := Lib.hid HAp'
  have HSc := Lib.hid HSc'
  have HRp := Lib.hid HRp'
  have HRd := Lib.hid HRd'
  have HN1 := Lib.hid HN1'
  have HN2 := Lib.hid HN2'
  have HDD := Lib.hid hd
  generalize y.extract 0 34 = yq at *
  clear H1' H1'' H2' HS1' HS2' HAp' HSc' HRp' HRd' HN1' HN2' hd e1 e2 e3 I0 I1 I2 I3 I4 o0 o1 s1 hb1 hb2 hx hy2 hy hyl ht z1 z2 hrp zy zy2 zx HSC
  go_enter Tryz.func25, Tryz.ntmps25
  go_wp2_with (first
    | (go_at_call 9; (with_reducible refine (H1.out).mono ?_); rintro e w1 ⟨rfl, d1, B1⟩)
    | (go_at_call 10; (with_reducible refine (H2.out _).mono ?_); rintro e w2 ⟨rfl, x2, B2⟩; have hda := d1.lt; have B12 := B1.trans (B2.mono (by omega)); have l2 : Lg w1.heap.size d none 0 1000 ⟨dA [] 0, 1, 0⟩ w2 := ⟨d1.kept B2, x2⟩)
    | (go_at_call 11; (with_reducible refine (HS1.out _ _ _ _ B12 hda l2).mono ?_); rintro e w3 ⟨rfl, A3, c3, l3, k3⟩; have B3 := B12.trans k3.below)
    | (go_at_call 11; (with_reducible refine (HS2.out _ _ _ _ B3 hda l3).mono ?_); rintro e w4 ⟨rfl, A4, c4, l4, k4⟩; have B4 := B3.trans k4.below)
    | (go_at_call 39; (with_reducible refine (HAp.out _ _ _ l4.dk).mono ?_); rintro e w5 ⟨rfl, A5, c5, d5, k5⟩; have B5 := B4.trans k5.below; have hd5 := d5.lt)
    | (go_at_call 27; ((with_reducible refine (HSc.out _ _ w5 B5 d5).mono ?_); rintro e w6 ⟨Aa, ca, Ab, cb, rfl, oa, ob, b6⟩; have d6 := d5.kept b6; have hs6 := b6.size; have B6 := B5.trans (b6.mono (Nat.le_of_lt hd5)); have x6 := heap_alloc_new w6 (.cells #[.slice Aa 1 ca, .string ⟨#[108, 111, 103, 46, 49]⟩, .int .i64 34, .slice Ab 0 cb] 58); have oa6 := own_below oa (below_alloc' (.cells #[.slice Aa 1 ca, .string ⟨#[108, 111, 103, 46, 49]⟩, .int .i64 34, .slice Ab 0 cb] 58) (Below.refl _ _)); have ob6 := own_below ob (below_alloc' (.cells #[.slice Aa 1 ca, .string ⟨#[108, 111, 103, 46, 49]⟩, .int .i64 34, .slice Ab 0 cb] 58) (Below.refl _ _)); have d6a := d6.kept (below_alloc' (.cells #[.slice Aa 1 ca, .string ⟨#[108, 111, 103, 46, 49]⟩, .int .i64 34, .slice Ab 0 cb] 58) (Below.refl _ _)); have B6a := B6.trans ((below_alloc' (.cells #[.slice Aa 1 ca, .string ⟨#[108, 111, 103, 46, 49]⟩, .int .i64 34, .slice Ab 0 cb] 58) (Below.refl w6.heap.size w6)).mono (by omega))))
    | (go_at_call 29; ((with_reducible refine (HRp.out _ _ _ _ _ _ _ (by omega) _ d6a ob6).mono ?_); rintro e w7 ⟨rfl, A7, c7, d7, k7⟩; have x7 := dkeep_box k7 x6 (by omega) (by decide); have oa7 := own_dk oa6 k7 (by omega) (by decide); have B7 := B6a.trans k7.below; have hd7 := d7.lt))
    | (go_at_call 14; ((with_reducible refine (HRd.out _ _ _ d7).mono ?_); rintro e w8 ⟨rfl, b8⟩; have x8 := bx_kept x7 b8; have oa8 := own_below oa7 b8; have B8 := B7.trans (b8.mono (Nat.le_of_lt hd7)); have hs8 := b8.size; have p0 := bx_cells x8 0; have p1 := bx_cells x8 1; have p2 := bx_cells x8 2; have p3 := bx_cells x8 3; obtain ⟨ga, rfl⟩ : ∃ ga, Aa = some ⟨ga, 0, none⟩ := (by rcases row_sliceN oa with ⟨_, h0⟩ | ⟨ga, cap, e1, _⟩ <;> first | (exact absurd h0 (by decide)) | (exact ⟨ga, by injection e1⟩)); have f0 := oa8.cells (g := ga) rfl 0 _ rfl; have f1 := oa8.cells (g := ga) rfl 1 _ rfl; rw [add0] at f0 f1))
    | (go_at_call 33; (with_reducible refine (HN1.out _ _ _ _ _ _ oa8).mono ?_); rintro e w9 ⟨rfl, b9⟩)
    | (go_at_call 33; (with_reducible refine (HN2.out _).mono ?_); rintro e w10 ⟨rfl, b10⟩))
  go_ret
  exact ⟨rfl, by rw [← HDD.out]; exact (B8.trans (b9.mono (by omega))).trans (b10.mono (by have := b9.size; omega))⟩
end Go.Proofs.YtcpmicinibfepaaGreatDoor
