/- Layer 34: whatever is written to a disk, and read, the answers and all files are the document's (ManifestPlays) · Layer 34: ManifestPlays, of any input: what is too long answers at once. -/
import Derived.Test.YtabccphcoojbjaaGreatDoorPBf
import Derived.Test.YtabccphcoojbjaaGreatDoorPBm
import Derived.Test.YtabccphcoojbjaaGreatDoorPAm
import Derived.Test.YtabccphcoojbjaaGreatDoorPBi
namespace Go.Proofs.YtabccphcoojbjaaGreatDoor
open Go.ChangeShapes Go.WideShapes Go.ChangeAt Go.RowKit Go.Deep DiskP ManP


def S0 (R : Int) : DS := ⟨[], R, true, true, -1, 0⟩
theorem s0_inv (R : Int) (h : 0 ≤ R ∧ R ≤ 9223372036854775807) : DInv R 0 0 (S0 R) := by
  refine ⟨by simp [S0, Sorted], by simp [S0], by simp [S0], ?_, ⟨rfl, h⟩, rfl, by simp [S0, used], by simp [S0], by simp [S0]⟩
  simp only [S0, used, List.map_nil, List.sum_nil]; omega
theorem rd_boxM {W : World} {b : Nat} {cs : Array Value} {T : TypeId} (h : W.heap[b]? = some (.cells cs T (0, 0))) : Rd W W.heap.size (some ⟨b, 0, none⟩) cs.toList := fun j u hj => by
  refine ⟨_, rfl, bx_lt h, ?_⟩
  rw [fl_add_0, cell_of_row _ _ _ cs T _ h]
  simpa using hj

set_option maxRecDepth 100000 in
set_option maxHeartbeats 20000000 in
theorem law34_ManifestPlays_few (room R : Int) (hR : R = max room 0) (hroom : I64 room) (a : SlT) (f0 f1 : ByteArray) (hf0 : f0.size ≤ 100) (hf1 : f1.size ≤ 100) (w : World) (ha : a.Ok w) (h12 : a.l.length ≤ 12) :
    Calls Tryz.prog 4 #[.int .i64 room, .slice a.A a.l.length a.c, .agg #[.string f0, .string f1]] w fun e w' => e = .returned (.bool true) ∧ Below w.heap.size w w' := by
  obtain ⟨A0, c0, l⟩ := a
  obtain ⟨hl1, hl2, hl3, hli, hrt⟩ := ha
  simp only at *
  unfold maxLen at hl1 hl3
  unfold I64 at hroom
  have hRR : 0 ≤ R ∧ R ≤ 9223372036854775807 := by omega
  have hI0 := s0_inv R hRR
  obtain ⟨hI1, -, -⟩ := appendD_inv hI0 mainB f0 hf0
  obtain ⟨hI2, -, -⟩ := appendD_inv hI1 newB f1 hf1
  have hs0 : Sim (S0 R) (S0 R) := ⟨rfl, rfl, rfl, rfl, rfl, List.Perm.refl _⟩
  obtain ⟨hs1, -⟩ := append_sim hI0.sorted hs0 mainB f0
  obtain ⟨hs2, -⟩ := append_sim hI1.sorted hs1 newB f1
  have HR := Lib.hid hrt
  have HLI := Lib.hid hli
  have H1' : ∀ W : World, Calls Tryz.prog 10 #[.int .i64 room] W fun e w' => e = .returned (.pointer (some ⟨W.heap.size, 0, none⟩)) ∧ Dk W.heap.size none 0 (S0 R) w' ∧ Below W.heap.size W w' := fun W => by have := disk_New room W; rw [← hR] at this; exact this
  have H2' : ∀ W : World, Calls Tryz.prog 11 #[.int .i64 room] W fun e w' => e = .returned (.pointer (some ⟨W.heap.size, 0, none⟩)) ∧ Rk W.heap.size none 0 (S0 R) w' ∧ Below W.heap.size W w' := fun W => by have := ref7_New room W; rw [← hR] at this; exact this
  have HA1' : ∀ d A c W, Dk d A c (S0 R) W → Calls Tryz.prog 12 #[.pointer (some ⟨d, 0, none⟩), .string ⟨#[109, 97, 105, 110]⟩, .string f0] W (DPost d (appendD (S0 R) mainB f0).1 (.int .i64 (appendD (S0 R) mainB f0).2) W) := fun d A c W h => disk_Append d A c (S0 R) (hI0.ok (by omega) (by omega)) mainB f0 (by decide) (by omega) W h
  have HA2' : ∀ d A c W, Dk d A c (appendD (S0 R) mainB f0).1 W → Calls Tryz.prog 12 #[.pointer (some ⟨d, 0, none⟩), .string ⟨#[109, 97, 105, 110, 46, 110, 101, 119]⟩, .string f1] W (DPost d (appendD (appendD (S0 R) mainB f0).1 newB f1).1 (.int .i64 (appendD (appendD (S0 R) mainB f0).1 newB f1).2) W) := fun d A c W h => disk_Append d A c _ (hI1.ok (by omega) (by omega)) newB f1 (by decide) (by omega) W h
  have HX1' : ∀ x A c W, Rk x A c (S0 R) W → Calls Tryz.prog 13 #[.pointer (some ⟨x, 0, none⟩), .string ⟨#[109, 97, 105, 110]⟩, .string f0] W (RPost x (appendX (S0 R) mainB f0).1 (.int .i64 (appendX (S0 R) mainB f0).2) W) := fun x A c W h => ref7_Append x A c (S0 R) (okx_of hs0 hI0 (by omega) (by omega)) mainB f0 (by decide) (by omega) W h
  have HX2' : ∀ x A c W, Rk x A c (appendX (S0 R) mainB f0).1 W → Calls Tryz.prog 13 #[.pointer (some ⟨x, 0, none⟩), .string ⟨#[109, 97, 105, 110, 46, 110, 101, 119]⟩, .string f1] W (RPost x (appendX (appendX (S0 R) mainB f0).1 newB f1).1 (.int .i64 (appendX (appendX (S0 R) mainB f0).1 newB f1).2) W) := fun x A c W h => ref7_Append x A c _ (okx_of hs1 hI1 (by omega) (by omega)) newB f1 (by decide) (by omega) W h
  have H1 := Lib.hid H1'
  have H2 := Lib.hid H2'
  have HA1 := Lib.hid HA1'
  have HA2 := Lib.hid HA2'
  have HX1 := Lib.hid HX1'
  have HX2 := Lib.hid HX2'
  have HST := Lib.hid (show DInv R (2 + 4 * 0) (2 + 2 * 0) (appendD (appendD (S0 R) mainB f0).1 newB f1).1 ∧ Sim (appendD (appendD (S0 R) mainB f0).1 newB f1).1 (appendX (appendX (S0 R) mainB f0).1 newB f1).1 from ⟨hI2, hs2⟩)
  clear H1' H2' HA1' HA2' HX1' HX2' hI0 hI1 hI2 hs0 hs1 hs2 hR hrt hli hl2
  generalize (appendD (appendD (S0 R) mainB f0).1 newB f1).1 = Sb at *
  generalize (appendD (appendD (S0 R) mainB f0).1 newB f1).2 = rb1 at *
  generalize (appendD (S0 R) mainB f0).1 = Sa at *
  generalize (appendD (S0 R) mainB f0).2 = ra1 at *
  generalize (appendX (appendX (S0 R) mainB f0).1 newB f1).1 = Xb at *
  generalize (appendX (appendX (S0 R) mainB f0).1 newB f1).2 = rb2 at *
  generalize (appendX (S0 R) mainB f0).1 = Xa at *
  generalize (appendX (S0 R) mainB f0).2 = ra2 at *
  generalize S0 R = Sz at *
  have HA := Lib.hid (fun (W : World) (hb : Below w.heap.size w W) => (law34_awake W).mono (fun e w' (hp : e = .returned (.bool true) ∧ Below W.heap.size W w') => (⟨hp.1, below_step hp.2 hb⟩ : e = .returned (.bool true) ∧ Below w.heap.size w w')))
  have B0 : Below w.heap.size w (w.alloc (.cells #[.string f0, .string f1] 32)) := (Below.refl _ w).alloc (Nat.le_refl _) _
  have hz0 : (w.alloc (.cells #[.string f0, .string f1] 32)).heap.size = w.heap.size + 1 := World.size_alloc _ _
  have k0 := heap_alloc_new w (.cells #[.string f0, .string f1] 32)
  have HZ := Lib.hid hz0
  clear hz0
  go_enter Tryz.func4, Tryz.ntmps4
  go_wp2_with (first
    | (go_at_call 10; (with_reducible refine (H1.out _).mono ?_); rintro e q1 ⟨rfl, d1, b1⟩; have B1 := B0.trans (b1.mono (by rw [HZ.out]; omega)); have k1 := bx_kept k0 b1)
    | (go_at_call 11; (with_reducible refine (H2.out _).mono ?_); rintro e q2 ⟨rfl, x2, b2⟩; have hdx := d1.lt; have P2 : PlayM _ _ _ _ q2 := ⟨⟨_, _, d1.kept b2⟩, ⟨_, _, x2⟩⟩; have B2 := below_step b2 B1; have k2 := bx_kept k1 b2; have cc2 := bx_cells k2; rw [HZ.out] at hdx; rw [HZ.out] at P2))
  have hxq := (x2.lt : q1.heap.size < q2.heap.size)
  obtain ⟨d, hd⟩ : ∃ d, d = w.heap.size + 1 := ⟨_, rfl⟩
  obtain ⟨x, hx⟩ : ∃ x, x = q1.heap.size := ⟨_, rfl⟩
  rw [← hd, ← hx] at P2
  rw [← hd, ← hx] at hdx
  rw [← hx] at hxq
  have hwd : w.heap.size < d := by omega
  have hn1 : w.heap.size ≠ d := by omega
  have hn2 : w.heap.size ≠ x := by omega
  have HDX := Lib.hid (And.intro hdx (And.intro (Nat.le_of_lt hwd) (And.intro (show w.heap.size ≤ x by omega) (And.intro hn1 hn2))))
  rw [← hd, ← hx]
  clear hd hx k0 k1 d1 x2 b1 b2 B0 B1 hn1 hn2 hdx hwd hxq
  go_wp2_with (first
    | (go_at_call 12; obtain ⟨A3, c3, h3⟩ := P2.dk; (with_reducible refine (HA1.out _ _ _ _ h3).mono ?_); rintro e q3 ⟨rfl, A3', c3', h3', t3⟩; have P3 := P2.dstep t3 ⟨_, _, h3'⟩ HDX.out.1; have B3 := B2.trans (t3.below.mono HDX.out.2.1); have k3 := dkeep_box t3 k2 HDX.out.2.2.2.1 (by decide); have cc3 := bx_cells k3)
    | (go_at_call 13; obtain ⟨A4, c4, h4⟩ := P3.rk; (with_reducible refine (HX1.out _ _ _ _ h4).mono ?_); rintro e q4 ⟨rfl, A4', c4', h4', t4⟩; have P4 := P3.rstep t4 ⟨_, _, h4'⟩ HDX.out.1; have B4 := B3.trans (t4.below.mono HDX.out.2.2.1); have k4 := tkboxM t4 k3 HDX.out.2.2.2.2 (by decide); have cc4 := bx_cells k4)
    | (go_at_call 12; obtain ⟨A5, c5, h5⟩ := P4.dk; (with_reducible refine (HA2.out _ _ _ _ h5).mono ?_); rintro e q5 ⟨rfl, A5', c5', h5', t5⟩; have P5 := P4.dstep t5 ⟨_, _, h5'⟩ HDX.out.1; have B5 := B4.trans (t5.below.mono HDX.out.2.1); have k5 := dkeep_box t5 k4 HDX.out.2.2.2.1 (by decide); have cc5 := bx_cells k5)
    | (go_at_call 13; obtain ⟨A6, c6, h6⟩ := P5.rk; (with_reducible refine (HX2.out _ _ _ _ h6).mono ?_); rintro e q6 ⟨rfl, A6', c6', h6', t6⟩; have P6 := P5.rstep t6 ⟨_, _, h6'⟩ HDX.out.1; have B6 := B5.trans (t6.below.mono HDX.out.2.2.1)))
  clear P2 P3 P4 P5 B2 B3 B4 B5 k2 k3 k4 k5 cc2 cc3 cc4 cc5 h3 h4 h5 h6 h3' h4' h5' h6' t3 t4 t5 t6
  go_loopw [9] (fun vi wr => ∃ (k : Nat) (S X : DS), k ≤ l.length ∧ vi = .int .i64 k ∧ PlayM d x S X wr ∧ Hid (DInv R (2 + 4 * k) (2 + 2 * k) S ∧ Sim S X) ∧ Below w.heap.size w wr) (fun vi _ => l.length - (intOf vi).toNat)
  case atStart => exact ⟨0, _, _, by omega, rfl, P6, HST, B6⟩
  case round =>
    obtain ⟨k, S, X, hk, rfl, hP, HI, B⟩ := hrel
    clear P6 B6 HST
    by_cases hlt : k < l.length
    · obtain ⟨⟨a, b, fu⟩, hk'⟩ : ∃ y, l[k]? = some y := ⟨l[k], List.getElem?_eq_getElem hlt⟩
      have HK := Lib.hid hk'
      obtain ⟨ad, rfl, hadl, z0, z1, z2⟩ := HR.out.below B k _ hk'
      obtain ⟨ia, ib, iu⟩ := HLI.out _ (List.mem_of_getElem? hk')
      have hi1 : (k : Int) < (l.length : Int) := by omega
      simp only at ia ib iu
      have HCE := Lib.hid (fun (W : World) (hW : Below w.heap.size w W) => (by obtain ⟨ad', e', _, q0, q1, q2⟩ := HR.out.below hW k _ HK.out; obtain rfl := Option.some.inj e'; exact ⟨q0, q1, q2⟩ : W.cell? (ad.add (k * 3)) = some (.int .i64 a) ∧ W.cell? ⟨(ad.add (k * 3)).block, (ad.add (k * 3)).off + 1, none⟩ = some (.int .i64 b) ∧ W.cell? ⟨(ad.add (k * 3)).block, (ad.add (k * 3)).off + 2, none⟩ = some (.int .i64 fu)))
      obtain ⟨hI, hSim⟩ := HI.out
      have hk12 : k ≤ 12 := by omega
      have hI1 : DInv R (2 + 4 * k) (2 + 2 * k) { S with fuse := max fu (-1) } := { hI with fuse := by unfold I64 at iu; simp only; omega }
      have hS1 := fuse_both hSim (max fu (-1))
      have hI2 := writeD_inv hI1 (a, b)
      obtain ⟨hS2, he2⟩ := writeX_sim hI1 hS1 (a, b)
      have hI3 := (upD_inv hI2 [a, b]).1
      have hS3 := up_both hI2 hS2 [a, b]
      have hr3 := readMX_sim hI3.sorted hS3
      have hr4 := read_sim hI3.sorted hS3 newB
      have hnm : namesX (writeX { X with fuse := max fu (-1) } (a, b)).1.fs = names (writeD { S with fuse := max fu (-1) } (a, b)).1.fs := names_sim hI2.sorted hS2.perm
      have hon := hS2.on
      have hmany := hI2.many
      have hlen := hS2.perm.length_eq
      have hN64 : (names (writeD { S with fuse := max fu (-1) } (a, b)).1.fs).length ≤ 64 := by rw [names_len]; exact hmany
      have ok2 := hI2.ok (by omega) (by omega)
      have ox2 := okx_of hS2 hI2 (by omega) (by omega)
      have ok3 := hI3.ok (by omega) (by omega)
      have ox3 := okx_of hS3 hI3 (by omega) (by omega)
      have CF := Lib.hid (fun (A : Option Addr) (c : Nat) (W : World) (h : Dk d A c S W) => disk_Fuse d A c S fu W h)
      have HSF := Lib.hid (fun (A : Option Addr) (c : Nat) (W : World) (h : Rk x A c X W) => h.set_fuse (max fu (-1)))
      have CW := Lib.hid (fun (A : Option Addr) (c : Nat) (W : World) (h : Dk d A c { S with fuse := max fu (-1) } W) => man_Write d A c _ R (2 + 4 * k) (2 + 2 * k) hI1 (by omega) (a, b) ia ib W h)
      have CWX' : ∀ (A : Option Addr) (c : Nat) (W : World), Rk x A c { X with fuse := max fu (-1) } W → Calls Tryz.prog 16 #[.pointer (some ⟨x, 0, none⟩), .agg #[.int .i64 a, .int .i64 b]] W (RPost x (writeX { X with fuse := max fu (-1) } (a, b)).1 (.int .i64 (writeD { S with fuse := max fu (-1) } (a, b)).2) W) := fun A c W h => by
        have := ref34_Write x A c _ _ R (2 + 4 * k) (2 + 2 * k) hI1 (by omega) hS1 (a, b) ia ib W h
        rw [he2] at this
        exact this
      have CWX := Lib.hid CWX'
      have CO := Lib.hid (fun (A : Option Addr) (c : Nat) (W : World) (h : Dk d A c (writeD { S with fuse := max fu (-1) } (a, b)).1 W) => disk_On d A c _ W h)
      have CN1' : ∀ (A : Option Addr) (c : Nat) (W : World), Dk d A c (writeD { S with fuse := max fu (-1) } (a, b)).1 W → Calls Tryz.prog 19 #[.pointer (some ⟨d, 0, none⟩)] W fun e w' => ∃ A' c', e = .returned (.slice A' (names (writeD { S with fuse := max fu (-1) } (a, b)).1.fs).length c') ∧ Rd w' w'.heap.size A' ((names (writeD { S with fuse := max fu (-1) } (a, b)).1.fs).map Value.string) ∧ Below W.heap.size W w' := fun A c W h => by
        refine (disk_Names d A c _ (by omega) W h).mono ?_
        rintro e w' ⟨A', c', rfl, ho, hb⟩
        refine ⟨A', c', by rw [names_len], ?_, hb⟩
        have := Rd.own ho
        unfold names
        rw [List.map_map]
        exact this
      have CN1 := Lib.hid CN1'
      have CN2' : ∀ (A : Option Addr) (c : Nat) (W : World), Rk x A c (writeX { X with fuse := max fu (-1) } (a, b)).1 W → Calls Tryz.prog 20 #[.pointer (some ⟨x, 0, none⟩)] W fun e w' => ∃ A' c', e = .returned (.slice A' (names (writeD { S with fuse := max fu (-1) } (a, b)).1.fs).length c') ∧ Rd w' w'.heap.size A' ((names (writeD { S with fuse := max fu (-1) } (a, b)).1.fs).map Value.string) ∧ Below W.heap.size W w' := fun A c W h => by
        refine (ref7_Names x A c _ (by omega) W h).mono ?_
        rintro e w' ⟨A', c', rfl, ho, hb⟩
        refine ⟨A', c', by rw [names_len, hlen], ?_, hb⟩
        rw [← hnm]
        exact Rd.own ho
      have CN2 := Lib.hid CN2'
      have CU' : ∀ (A : Option Addr) (c bs : Nat) (W : World), Dk d A c (writeD { S with fuse := max fu (-1) } (a, b)).1 W → W.heap[bs]? = some (.cells #[.int .i64 a, .int .i64 b] 3 (0, 0)) → bs ≠ d → Calls Tryz.prog 21 #[.pointer (some ⟨d, 0, none⟩), .slice (some ⟨bs, 0, none⟩) 2 2] W (DPost d (upD (writeD { S with fuse := max fu (-1) } (a, b)).1 [a, b]) (.tuple #[]) W) := (fun (A : Option Addr) (c bs : Nat) (W : World) (h : Dk d A c (writeD { S with fuse := max fu (-1) } (a, b)).1 W) (hb : W.heap[bs]? = some (.cells #[.int .i64 a, .int .i64 b] 3 (0, 0))) (hne : bs ≠ d) =>
        disk_Up d A c _ ok2 hI2.made (some ⟨bs, 0, none⟩) 2 [a, b] (by simp) (by simp) W h (fun Z hZ => rd_boxM (dkeep_box hZ hb hne (by decide))))
      have CU := Lib.hid CU'
      have CUX' : ∀ (A : Option Addr) (c bs : Nat) (W : World), Rk x A c (writeX { X with fuse := max fu (-1) } (a, b)).1 W → W.heap[bs]? = some (.cells #[.int .i64 a, .int .i64 b] 3 (0, 0)) → bs ≠ x → Calls Tryz.prog 22 #[.pointer (some ⟨x, 0, none⟩), .slice (some ⟨bs, 0, none⟩) 2 2] W (RPost x (upX (writeX { X with fuse := max fu (-1) } (a, b)).1 [a, b]) (.tuple #[]) W) := (fun (A : Option Addr) (c bs : Nat) (W : World) (h : Rk x A c (writeX { X with fuse := max fu (-1) } (a, b)).1 W) (hb : W.heap[bs]? = some (.cells #[.int .i64 a, .int .i64 b] 3 (0, 0))) (hne : bs ≠ x) =>
        ref7_Up' x A c _ ox2 (some ⟨bs, 0, none⟩) 2 [a, b] (by simp) W h (fun Z hZ => rd_boxM (tkboxM hZ hb hne (by decide))))
      have CUX := Lib.hid CUX'
      have CR := Lib.hid (fun (A : Option Addr) (c : Nat) (W : World) (h : Dk d A c (upD (writeD { S with fuse := max fu (-1) } (a, b)).1 [a, b]) W) => man_Read d A c _ ok3 (by have := hI3.size; omega) W h)
      have CRX' : ∀ (A : Option Addr) (c : Nat) (W : World), Rk x A c (upX (writeX { X with fuse := max fu (-1) } (a, b)).1 [a, b]) W → Calls Tryz.prog 24 #[.pointer (some ⟨x, 0, none⟩)] W fun e w' => e = .returned (mV (readMD (upD (writeD { S with fuse := max fu (-1) } (a, b)).1 [a, b]))) ∧ Below W.heap.size W w' := fun A c W h => by
        have := ref34_Read x A c _ ox3 (by rw [used_perm hS3.perm]; have := hI3.size; omega) W h
        rw [hr3] at this
        exact this
      have CRX := Lib.hid CRX'
      have CS' : ∀ (A : Option Addr) (c : Nat) (W : World), Dk d A c (upD (writeD { S with fuse := max fu (-1) } (a, b)).1 [a, b]) W → Calls Tryz.prog 25 #[.pointer (some ⟨d, 0, none⟩), .string ⟨#[109, 97, 105, 110, 46, 110, 101, 119]⟩] W fun e w' => e = .returned (.tuple #[.string (readD (upD (writeD { S with fuse := max fu (-1) } (a, b)).1 [a, b]) newB).1, .int .i64 (readD (upD (writeD { S with fuse := max fu (-1) } (a, b)).1 [a, b]) newB).2]) ∧ Below W.heap.size W w' := fun A c W h => disk_Read d A c _ newB hI3.sorted (by have := hI3.many; omega) W h
      have CS := Lib.hid CS'
      have CSX' : ∀ (A : Option Addr) (c : Nat) (W : World), Rk x A c (upX (writeX { X with fuse := max fu (-1) } (a, b)).1 [a, b]) W → Calls Tryz.prog 26 #[.pointer (some ⟨x, 0, none⟩), .string ⟨#[109, 97, 105, 110, 46, 110, 101, 119]⟩] W fun e w' => e = .returned (.tuple #[.string (readD (upD (writeD { S with fuse := max fu (-1) } (a, b)).1 [a, b]) newB).1, .int .i64 (readD (upD (writeD { S with fuse := max fu (-1) } (a, b)).1 [a, b]) newB).2]) ∧ W = w' := fun A c W h => by
        have := ref7_Read x A c _ newB (by have := ox3.many; omega) W h
        rw [hr4] at this
        exact this
      have CSX := Lib.hid CSX'
      have HON := Lib.hid (fun (A : Option Addr) (c : Nat) (W : World) (h : Rk x A c (writeX { X with fuse := max fu (-1) } (a, b)).1 W) => (by have := bx_cells h.box 2; rw [hon] at this; exact this : W.cell? ⟨x, 2, none⟩ = some (.bool (writeD { S with fuse := max fu (-1) } (a, b)).1.on)))
      have HI3 := Lib.hid (show DInv R (2 + 4 * (k + 1)) (2 + 2 * (k + 1)) (upD (writeD { S with fuse := max fu (-1) } (a, b)).1 [a, b]) ∧ Sim (upD (writeD { S with fuse := max fu (-1) } (a, b)).1 [a, b]) (upX (writeX { X with fuse := max fu (-1) } (a, b)).1 [a, b]) from ⟨hI3, hS3⟩)
      clear CU' CUX' CWX' CN1' CN2' CRX' CS' CSX' hI hSim hI1 hS1 hI2 hS2 he2 hI3 hS3 hr3 hr4 hnm hon hmany hlen ok2 ox2 ok3 ox3 HI hk'
      generalize readMD (upD (writeD { S with fuse := max fu (-1) } (a, b)).1 [a, b]) = rm at *
      generalize readD (upD (writeD { S with fuse := max fu (-1) } (a, b)).1 [a, b]) newB = rs at *
      generalize upD (writeD { S with fuse := max fu (-1) } (a, b)).1 [a, b] = S3 at *
      generalize upX (writeX { X with fuse := max fu (-1) } (a, b)).1 [a, b] = X3 at *
      generalize names (writeD { S with fuse := max fu (-1) } (a, b)).1.fs = N at *
      generalize (writeD { S with fuse := max fu (-1) } (a, b)).1.on = on at *
      generalize (writeD { S with fuse := max fu (-1) } (a, b)).1 = S2 at *
      generalize (writeD { S with fuse := max fu (-1) } (a, b)).2 = f at *
      generalize (writeX { X with fuse := max fu (-1) } (a, b)).1 = X2 at *
      generalize ({ S with fuse := max fu (-1) } : DS) = S1 at *
      generalize ({ X with fuse := max fu (-1) } : DS) = X1 at *
      obtain ⟨⟨r1, r2⟩, re⟩ := rm
      obtain ⟨sb, se⟩ := rs
      unfold mV at CR CRX
      simp only at CR CRX CS CSX
      clear HA1 HA2 HX1 HX2 H1 H2 HZ
      go_wp2_with fail
      refine wp_region_noPanic ?_
      refine wp_region_held_drew (S := fun W => Below w.heap.size w W) (by kernel_rfl) (Below.drew B) (fun hb0 => ?_)
      have hP0 : PlayM d x S X wr.drew := hP.below ((Below.refl _ wr).drew)
      clear hP B z0 z1 z2
      generalize wr.drew = v0 at hP0 hb0 ⊢
      (refine wpAnyH_seg (by kernel_rfl) (fun _ _ _ _ _ h => h) hb0 2 11 0 _ _ (by decide) (by kernel_rfl) ?_; simp only [List.drop_zero, List.take_succ_cons, List.take_zero]; ((iterate 11 ((refine' wpTake_cons (by rfl) (fun W hW => ?_) ?_); rotate_left; (obtain ⟨z0_, z1_, z2_⟩ := HCE.out W hW; go_simp; (try simp only [ne_eq, not_true_eq_false, decide_false, Bool.not_true, bne_self_eq_false, beq_self_eq_true, go_sem]); with_reducible rfl); simp only [Act.put, List.setIfInBounds_toArray, List.set_cons_zero, List.set_cons_succ])); refine wpTake_nil ?_))
      (refine wpAnyH_one 11 (by kernel_rfl) rfl (fun K hK => ?_); rw [if_pos (by rfl)]; go_simp)
      have hbA := hb0.alloc hb0.size (.cells #[.int .i64 0, .int .i64 0] 23)
      refine hK.out _ _ hbA (fun _ => ?_)
      clear hK K
      ((try simp only [Act.put, List.setIfInBounds_toArray, List.set_cons_zero, List.set_cons_succ]))
      (refine wpAnyH_one 12 (by kernel_rfl) rfl (fun K hK => ?_); rw [if_pos (by rfl)]; go_simp)
      have hb1 := hb0.alloc hb0.size (.cells #[.int .i64 a, .int .i64 b] 23)
      refine hK.out _ _ hb1 (fun _ => ?_)
      clear hK K hbA
      ((try simp only [Act.put, List.setIfInBounds_toArray, List.set_cons_zero, List.set_cons_succ]))
      refine wpAnyH_done (by kernel_rfl) ?_ _
      refine NoPanic.normal ?_
      have hP1 := hP0.below ((Below.refl v0.heap.size v0).alloc (Nat.le_refl _) (.cells #[.int .i64 a, .int .i64 b] 23))
      have km := heap_alloc_new v0 (.cells #[.int .i64 a, .int .i64 b] 23)
      have hlt0 := hP0.lt
      have HMN := Lib.hid (And.intro (Nat.ne_of_gt hlt0.1) (Nat.ne_of_gt hlt0.2))
      clear hP0 hlt0 hb0
      generalize v0.alloc (.cells #[.int .i64 a, .int .i64 b] 23) = v1 at hP1 hb1 km ⊢
      generalize v0.heap.size = mb at *
      obtain ⟨z0, z1, z2⟩ := HCE.out _ hb1
      go_wp2_with (go_at_call 14; obtain ⟨A1, c1, hd1⟩ := hP1.dk; (with_reducible refine (CF.out _ _ _ hd1).mono ?_); rintro e v2 ⟨rfl, A2, c2, hd2, k2⟩; have hb2 := hb1.trans (k2.below.mono HDX.out.2.1); have hP2 := hP1.dstep k2 ⟨A2, c2, hd2⟩ HDX.out.1; have km2 := dkeep_box k2 km HMN.out.1 (by decide); obtain ⟨y0, y1, y2⟩ := HCE.out _ hb2; have hx2 := hP2.rk; obtain ⟨A3, c3, hr2⟩ := hx2; have cx := bx_cells hr2.box; have fx := bx_free hr2.box 3)
      have k3 := TKeep.set (T := 84) (w := v2) (d := x) (j := 3) (.int .i64 (max fu (-1)))
      have hr3 := HSF.out _ _ _ hr2
      have hP3 := hP2.rstep k3 ⟨A3, c3, hr3⟩ HDX.out.1
      have km3 := tkboxM k3 km2 HMN.out.2 (by decide)
      have hb3 := hb2.trans (k3.below.mono HDX.out.2.2.1)
      clear k3 k2 hr3 hr2 cx fx hP1 hP2 hb1 hb2 km km2 z0 z1 z2 y0 y1 y2 hd1 hd2 CF HSF
      generalize v2.setCell ⟨x, 3, none⟩ (.int .i64 (max fu (-1))) = v3 at hP3 km3 hb3 ⊢
      refine wp_region_noPanic ?_
      refine wp_region_held_drew (S := fun W => W.heap[mb]? = some (.cells #[.int .i64 a, .int .i64 b] 23 (0, 0)) ∧ Below w.heap.size w W) (by kernel_rfl) ⟨km3, Below.drew hb3⟩ (fun hA => ?_)
      have hP4 : PlayM d x S1 X1 v3.drew := hP3.below ((Below.refl _ v3).drew)
      clear hP3 km3 hb3
      generalize v3.drew = v4 at hP4 hA ⊢
      (refine wpAnyH_seg (by kernel_rfl) (fun _ _ _ _ _ h => h) hA 22 2 0 _ _ (by decide) (by kernel_rfl) ?_; simp only [List.drop_zero, List.take_succ_cons, List.take_zero]; ((iterate 2 ((refine' wpTake_cons (by rfl) (fun W hW => ?_) ?_); rotate_left; (have m0 := bx_cells hW.1 0; have m1 := bx_cells hW.1 1; go_simp; (try simp only [ne_eq, not_true_eq_false, decide_false, Bool.not_true, bne_self_eq_false, beq_self_eq_true, go_sem]); with_reducible rfl); simp only [Act.put, List.setIfInBounds_toArray, List.set_cons_zero, List.set_cons_succ])); refine wpTake_nil ?_))
      (refine wpAnyH_seg (by kernel_rfl) (fun _ _ _ _ _ h => h) hA 20 2 3 _ _ (by decide) (by kernel_rfl) ?_; simp only [List.drop_succ_cons, List.drop_zero, List.take_succ_cons, List.take_zero]; ((iterate 2 ((refine' wpTake_cons (by rfl) (fun W hW => ?_) ?_); rotate_left; (have m0 := bx_cells hW.1 0; have m1 := bx_cells hW.1 1; go_simp; (try simp only [ne_eq, not_true_eq_false, decide_false, Bool.not_true, bne_self_eq_false, beq_self_eq_true, go_sem]); with_reducible rfl); simp only [Act.put, List.setIfInBounds_toArray, List.set_cons_zero, List.set_cons_succ])); refine wpTake_nil ?_))
      (refine wpAnyH_one 2 (by kernel_rfl) rfl (fun K hK => ?_); rw [if_pos (by rfl)]; go_simp)
      go_at_call 15
      obtain ⟨A4, c4, hd4⟩ := hP4.dk
      (with_reducible refine (CW.out _ _ _ hd4).mono ?_); rintro e v5 ⟨rfl, A5, c5, hd5, k5⟩
      go_wp2_with fail
      have hP5 := hP4.dstep k5 ⟨A5, c5, hd5⟩ HDX.out.1
      have hA5 := And.intro (dkeep_box k5 hA.1 HMN.out.1 (by decide)) (hA.2.trans (k5.below.mono HDX.out.2.1))
      refine hK.out _ _ hA5 (fun _ => ?_)
      clear hK K hd4 hd5 k5 hP4 hA
      ((try simp only [Act.put, List.setIfInBounds_toArray, List.set_cons_zero, List.set_cons_succ]))
      (refine wpAnyH_one 5 (by kernel_rfl) rfl (fun K hK => ?_); rw [if_pos (by rfl)]; go_simp)
      go_at_call 16
      obtain ⟨A6, c6, hr6⟩ := hP5.rk
      (with_reducible refine (CWX.out _ _ _ hr6).mono ?_); rintro e v6 ⟨rfl, A7, c7, hr7, k6⟩
      go_wp2_with fail
      have hP6 := hP5.rstep k6 ⟨A7, c7, hr7⟩ HDX.out.1
      have hA6 := And.intro (tkboxM k6 hA5.1 HMN.out.2 (by decide)) (hA5.2.trans (k6.below.mono HDX.out.2.2.1))
      refine hK.out _ _ hA6 (fun _ => ?_)
      clear hK K hr6 hr7 k6 hP5 hA5
      ((try simp only [Act.put, List.setIfInBounds_toArray, List.set_cons_zero, List.set_cons_succ]))
      refine wpAnyH_more (S' := fun W => PlayM d x S2 X2 W ∧ W.heap[mb]? = some (.cells #[.int .i64 a, .int .i64 b] 23 (0, 0)) ∧ Below w.heap.size w W) (fun W h => h.2) _ _ _ _ ?_
      have hA7 := And.intro hP6 hA6
      clear hP6 hA6 CW CWX
      (refine wpAnyH_seg (by kernel_rfl) (fun _ _ _ _ _ h => h) hA7 15 3 6 _ _ (by decide) (by kernel_rfl) ?_; simp only [List.drop_succ_cons, List.drop_zero, List.take_succ_cons, List.take_zero]; ((iterate 3 ((refine' wpTake_cons (by rfl) (fun W hW => ?_) ?_); rotate_left; (skip; go_simp; (try simp only [ne_eq, not_true_eq_false, decide_false, Bool.not_true, bne_self_eq_false, beq_self_eq_true, go_sem]); with_reducible rfl); simp only [Act.put, List.setIfInBounds_toArray, List.set_cons_zero, List.set_cons_succ])); refine wpTake_nil ?_))
      (refine wpAnyH_seg (by kernel_rfl) (fun _ _ _ _ _ h => h) hA7 11 4 10 _ _ (by decide) (by kernel_rfl) ?_; simp only [List.drop_succ_cons, List.drop_zero, List.take_succ_cons, List.take_zero]; ((iterate 4 ((refine' wpTake_cons (by rfl) (fun W hW => ?_) ?_); rotate_left; (obtain ⟨A9_, c9_, hr9_⟩ := hW.1.rk; have m2 := HON.out _ _ _ hr9_; clear hr9_; go_simp; (try simp only [ne_eq, not_true_eq_false, decide_false, Bool.not_true, bne_self_eq_false, beq_self_eq_true, go_sem]); with_reducible rfl); simp only [Act.put, List.setIfInBounds_toArray, List.set_cons_zero, List.set_cons_succ])); refine wpTake_nil ?_))
      (refine wpAnyH_one 9 (by kernel_rfl) rfl (fun K hK => ?_); rw [if_pos (by rfl)]; go_simp)
      go_at_call 17
      obtain ⟨A9, c9, hd9⟩ := hA7.1.dk
      (with_reducible refine (CO.out _ _ _ hd9).mono ?_); rintro e v7 ⟨rfl, rfl⟩
      go_wp2_with fail
      refine hK.out _ _ hA7 (fun _ => ?_)
      clear hK K hd9
      ((try simp only [Act.put, List.setIfInBounds_toArray, List.set_cons_zero, List.set_cons_succ]))
      (refine wpAnyH_seg (by kernel_rfl) (fun _ _ _ _ _ h => h) hA7 6 4 14 _ _ (by decide) (by kernel_rfl) ?_; simp only [List.drop_succ_cons, List.drop_zero, List.take_succ_cons, List.take_zero]; ((iterate 4 ((refine' wpTake_cons (by rfl) (fun W hW => ?_) ?_); rotate_left; (skip; go_simp; (try simp only [ne_eq, not_true_eq_false, decide_false, Bool.not_true, bne_self_eq_false, beq_self_eq_true, go_sem]); with_reducible rfl); simp only [Act.put, List.setIfInBounds_toArray, List.set_cons_zero, List.set_cons_succ])); refine wpTake_nil ?_))
      (refine wpAnyH_seg (by kernel_rfl) (fun _ _ _ _ _ h => h) hA7 5 1 19 _ _ (by decide) (by kernel_rfl) ?_; simp only [List.drop_succ_cons, List.drop_zero, List.take_succ_cons, List.take_zero]; ((iterate 1 ((refine' wpTake_cons (by rfl) (fun W hW => ?_) ?_); rotate_left; (skip; go_simp; (try simp only [ne_eq, not_true_eq_false, decide_false, Bool.not_true, bne_self_eq_false, beq_self_eq_true, go_sem]); with_reducible rfl); simp only [Act.put, List.setIfInBounds_toArray, List.set_cons_zero, List.set_cons_succ])); refine wpTake_nil ?_))
      (refine wpAnyH_one 18 (by kernel_rfl) rfl (fun K hK => ?_); rw [if_pos (by rfl)]; go_simp)
      go_at_call 19
      obtain ⟨A9, c9, hd9⟩ := hA7.1.dk
      (with_reducible refine (CN1.out _ _ _ hd9).mono ?_); rintro e v8 ⟨An1, cn1, rfl, rd1, g8⟩
      go_wp2_with fail
      have hA8 := And.intro (hA7.1.below g8) (And.intro (bx_kept hA7.2.1 g8) (hA7.2.2.trans (g8.mono hA7.2.2.size)))
      refine hK.out _ _ hA8 (fun _ => ?_)
      clear hK K hd9 hA7 g8
      ((try simp only [Act.put, List.setIfInBounds_toArray, List.set_cons_zero, List.set_cons_succ]))
      (refine wpAnyH_one 20 (by kernel_rfl) rfl (fun K hK => ?_); rw [if_pos (by rfl)]; go_simp)
      go_at_call 20
      obtain ⟨A9, c9, hr9⟩ := hA8.1.rk
      (with_reducible refine (CN2.out _ _ _ hr9).mono ?_); rintro e v9 ⟨An2, cn2, rfl, rd2, g9⟩
      go_wp2_with fail
      have hA9 := And.intro (hA8.1.below g9) (And.intro (bx_kept hA8.2.1 g9) (hA8.2.2.trans (g9.mono hA8.2.2.size)))
      have rd3 := (rd1.below g9).more g9.size
      refine hK.out _ _ hA9 (fun _ => ?_)
      clear hK K hr9 hA8 g9 rd1
      ((try simp only [Act.put, List.setIfInBounds_toArray, List.set_cons_zero, List.set_cons_succ]))
      (refine wpAnyH_one 21 (by kernel_rfl) rfl (fun K hK => ?_); rw [if_pos (by rfl)]; go_simp)
      go_at_call 18
      (with_reducible refine (ref1_SameTx An1 An2 cn1 cn2 N N (by omega) (by omega) rfl _ rd3 rd2).mono ?_); rintro e v10 ⟨rfl, g10⟩
      go_wp2_with fail
      have hA10 := And.intro (hA9.1.below g10) (And.intro (bx_kept hA9.2.1 g10) (hA9.2.2.trans (g10.mono hA9.2.2.size)))
      refine hK.out _ _ hA10 (fun _ => ?_)
      clear hK K hA9 g10 rd2 rd3
      ((try simp only [Act.put, List.setIfInBounds_toArray, List.set_cons_zero, List.set_cons_succ]))
      (refine wpAnyH_seg (by kernel_rfl) (fun _ _ _ _ _ h => h) hA10 0 2 22 _ _ (by decide) (by kernel_rfl) ?_; simp only [List.drop_succ_cons, List.drop_zero, List.take_succ_cons, List.take_zero]; ((iterate 2 ((refine' wpTake_cons (by rfl) (fun W hW => ?_) ?_); rotate_left; (skip; go_simp; (try simp only [ne_eq, not_true_eq_false, decide_false, Bool.not_true, bne_self_eq_false, beq_self_eq_true, go_sem]); with_reducible rfl); simp only [Act.put, List.setIfInBounds_toArray, List.set_cons_zero, List.set_cons_succ])); refine wpTake_nil ?_))
      refine wpAnyH_done (by kernel_rfl) ?_ _
      refine NoPanic.normal ?_
      obtain ⟨hP10, km10, hb10⟩ := hA10
      clear CO CN1 CN2 HON hN64
      go_wp2_with fail
      clear km10 HMN
      refine wp_region_noPanic ?_
      refine wp_region_held_drew (S := fun W => Below w.heap.size w W) (by kernel_rfl) (Below.drew hb10) (fun hA => ?_)
      have hQ := hP10.below ((Below.refl _ v10).drew)
      clear hP10 hb10
      generalize v10.drew = y10 at hQ hA ⊢
      (refine wpAnyH_seg (by kernel_rfl) (fun _ _ _ _ _ h => h) hA 2 11 0 _ _ (by decide) (by kernel_rfl) ?_; simp only [List.drop_zero, List.take_succ_cons, List.take_zero]; ((iterate 11 ((refine' wpTake_cons (by rfl) (fun W hW => ?_) ?_); rotate_left; (obtain ⟨z0_, z1_, z2_⟩ := HCE.out W hW; go_simp; (try simp only [ne_eq, not_true_eq_false, decide_false, Bool.not_true, bne_self_eq_false, beq_self_eq_true, go_sem]); with_reducible rfl); simp only [Act.put, List.setIfInBounds_toArray, List.set_cons_zero, List.set_cons_succ])); refine wpTake_nil ?_))
      (refine wpAnyH_one 11 (by kernel_rfl) rfl (fun K hK => ?_); rw [if_pos (by rfl)]; go_simp)
      have hA1 := hA.alloc hA.size (.cells #[.int .i64 a, .int .i64 b] 3)
      refine hK.out _ _ hA1 (fun _ => ?_)
      clear hK K
      ((try simp only [Act.put, List.setIfInBounds_toArray, List.set_cons_zero, List.set_cons_succ]))
      have hlt10 := hQ.lt
      have hQ1 := hQ.below ((Below.refl y10.heap.size y10).alloc (Nat.le_refl _) (.cells #[.int .i64 a, .int .i64 b] 3))
      have kb := heap_alloc_new y10 (.cells #[.int .i64 a, .int .i64 b] 3)
      (refine wpAnyH_one 12 (by kernel_rfl) rfl (fun K hK => ?_); rw [if_pos (by rfl)]; go_simp)
      go_at_call 21
      obtain ⟨A9, c9, h9⟩ := hQ1.dk
      (with_reducible refine (CU.out _ _ _ _ h9 kb (Nat.ne_of_gt hlt10.1)).mono ?_); rintro e v11 ⟨rfl, A8, c8, h8, k8⟩
      go_wp2_with fail
      have hP11 := hQ1.dstep k8 ⟨A8, c8, h8⟩ HDX.out.1
      have hb11 := hA1.trans (k8.below.mono HDX.out.2.1)
      refine hK.out _ _ hb11 (fun _ => ?_)
      clear hK K h8 h9 k8 hQ hQ1 kb hA hA1 hlt10 CU
      ((try simp only [Act.put, List.setIfInBounds_toArray, List.set_cons_zero, List.set_cons_succ]))
      refine wpAnyH_done (by kernel_rfl) ?_ _
      refine NoPanic.normal ?_
      go_wp2_with fail
      refine wp_region_noPanic ?_
      refine wp_region_held_drew (S := fun W => Below w.heap.size w W) (by kernel_rfl) (Below.drew hb11) (fun hA => ?_)
      have hQ := hP11.below ((Below.refl _ v11).drew)
      clear hP11 hb11
      generalize v11.drew = y11 at hQ hA ⊢
      (refine wpAnyH_seg (by kernel_rfl) (fun _ _ _ _ _ h => h) hA 2 11 0 _ _ (by decide) (by kernel_rfl) ?_; simp only [List.drop_zero, List.take_succ_cons, List.take_zero]; ((iterate 11 ((refine' wpTake_cons (by rfl) (fun W hW => ?_) ?_); rotate_left; (obtain ⟨z0_, z1_, z2_⟩ := HCE.out W hW; go_simp; (try simp only [ne_eq, not_true_eq_false, decide_false, Bool.not_true, bne_self_eq_false, beq_self_eq_true, go_sem]); with_reducible rfl); simp only [Act.put, List.setIfInBounds_toArray, List.set_cons_zero, List.set_cons_succ])); refine wpTake_nil ?_))
      (refine wpAnyH_one 11 (by kernel_rfl) rfl (fun K hK => ?_); rw [if_pos (by rfl)]; go_simp)
      have hA1 := hA.alloc hA.size (.cells #[.int .i64 a, .int .i64 b] 3)
      refine hK.out _ _ hA1 (fun _ => ?_)
      clear hK K
      ((try simp only [Act.put, List.setIfInBounds_toArray, List.set_cons_zero, List.set_cons_succ]))
      have hlt11 := hQ.lt
      have hQ1 := hQ.below ((Below.refl y11.heap.size y11).alloc (Nat.le_refl _) (.cells #[.int .i64 a, .int .i64 b] 3))
      have kb := heap_alloc_new y11 (.cells #[.int .i64 a, .int .i64 b] 3)
      (refine wpAnyH_one 12 (by kernel_rfl) rfl (fun K hK => ?_); rw [if_pos (by rfl)]; go_simp)
      go_at_call 22
      obtain ⟨A9, c9, h9⟩ := hQ1.rk
      (with_reducible refine (CUX.out _ _ _ _ h9 kb (Nat.ne_of_gt hlt11.2)).mono ?_); rintro e v12 ⟨rfl, A8, c8, h8, k8⟩
      go_wp2_with fail
      have hP12 := hQ1.rstep k8 ⟨A8, c8, h8⟩ HDX.out.1
      have hb12 := hA1.trans (k8.below.mono HDX.out.2.2.1)
      refine hK.out _ _ hb12 (fun _ => ?_)
      clear hK K h8 h9 k8 hQ hQ1 kb hA hA1 hlt11 CUX
      ((try simp only [Act.put, List.setIfInBounds_toArray, List.set_cons_zero, List.set_cons_succ]))
      refine wpAnyH_done (by kernel_rfl) ?_ _
      refine NoPanic.normal ?_
      go_wp2_with fail
      go_wp2_with (first
        | (go_at_call 23; obtain ⟨A9, c9, h9⟩ := hP12.dk; (with_reducible refine (CR.out _ _ _ h9).mono ?_); rintro e x1 ⟨rfl, b1⟩; have B1 := below_step b1 hb12; have al1 := (Below.refl x1.heap.size x1).alloc (Nat.le_refl _) (.cells #[.int .i64 r1, .int .i64 r2] 23); have hQ1 := (hP12.below b1).below al1; have B2 := B1.alloc B1.size (.cells #[.int .i64 r1, .int .i64 r2] 23); have k1 := heap_alloc_new x1 (.cells #[.int .i64 r1, .int .i64 r2] 23))
        | (go_at_call 24; obtain ⟨A8, c8, h8⟩ := hQ1.rk; (with_reducible refine (CRX.out _ _ _ h8).mono ?_); rintro e x2 ⟨rfl, b2⟩; have B3 := below_step b2 B2; have al2 := (Below.refl x2.heap.size x2).alloc (Nat.le_refl _) (.cells #[.int .i64 r1, .int .i64 r2] 23); have hQ2 := (hQ1.below b2).below al2; have B4 := B3.alloc B3.size (.cells #[.int .i64 r1, .int .i64 r2] 23); have k2 := bx_kept (bx_kept k1 b2) al2; have m2 := heap_alloc_new x2 (.cells #[.int .i64 r1, .int .i64 r2] 23))
        | (go_at_call 25; obtain ⟨A7, c7, h7⟩ := hQ2.dk; (with_reducible refine (CS.out _ _ _ h7).mono ?_); rintro e x3 ⟨rfl, b3⟩; have B5 := below_step b3 B4; have hQ3 := hQ2.below b3; have k3 := bx_kept k2 b3; have m3 := bx_kept m2 b3; have ck := bx_cells k3; have cm := bx_cells m3)
        | (go_at_call 26; obtain ⟨A6, c6, h6⟩ := hQ3.rk; (with_reducible refine (CSX.out _ _ _ h6).mono ?_); rintro e x4 ⟨rfl, rfl⟩))
      exact ⟨⟨k + 1, S3, X3, by omega, by go_num, hQ3, HI3, B5⟩, by show l.length - ((k : Int) + 1).toNat < l.length - ((k : Int)).toNat; omega⟩
    · have hi1 : ¬ (k : Int) < (l.length : Int) := by omega
      go_wp2_with (go_at_call 5; (with_reducible refine (HA.out _ B).mono ?_); rintro e y1 ⟨rfl, b1⟩)
      go_ret
      exact ⟨rfl, b1⟩
end Go.Proofs.YtabccphcoojbjaaGreatDoor

namespace Go.Proofs.YtabccphcoojbjaaGreatDoor
open Go.ChangeShapes Go.WideShapes Go.ChangeAt Go.RowKit Go.Deep DiskP ManP


set_option maxRecDepth 100000 in
set_option maxHeartbeats 4000000 in
theorem law34_ManifestPlays (room : Int) (hroom : I64 room) (a : SlT) (fs : ByteArray × ByteArray) (w : World) (ha : a.Ok w) :
    Calls Tryz.prog 4 #[.int .i64 room, .slice a.A a.l.length a.c, .agg #[.string fs.1, .string fs.2]] w fun e w' => e = .returned (.bool true) ∧ Below w.heap.size w w' := by
  obtain ⟨f0, f1⟩ := fs
  by_cases h12 : a.l.length ≤ 12
  · by_cases hf0 : f0.size ≤ 100
    · by_cases hf1 : f1.size ≤ 100
      · exact law34_ManifestPlays_few room _ rfl hroom a f0 f1 hf0 hf1 w ha h12
      · have B0 : Below w.heap.size w (w.alloc (.cells #[.string f0, .string f1] 32)) := (Below.refl _ w).alloc (Nat.le_refl _) _
        have k0 := bx_cells (heap_alloc_new w (.cells #[.string f0, .string f1] 32))
        have HA := Lib.hid (law34_awake (w.alloc (.cells #[.string f0, .string f1] 32)))
        have g1 : 100 < f1.size := by omega
        go_enter Tryz.func4, Tryz.ntmps4
        go_wp2_with (go_at_call 5; (with_reducible refine (HA.out).mono ?_); rintro e x1 ⟨rfl, b1⟩)
        go_ret
        exact ⟨rfl, below_step b1 B0⟩
    · have B0 : Below w.heap.size w (w.alloc (.cells #[.string f0, .string f1] 32)) := (Below.refl _ w).alloc (Nat.le_refl _) _
      have k0 := bx_cells (heap_alloc_new w (.cells #[.string f0, .string f1] 32))
      have HA := Lib.hid (law34_awake (w.alloc (.cells #[.string f0, .string f1] 32)))
      have g1 : 100 < f0.size := by omega
      go_enter Tryz.func4, Tryz.ntmps4
      go_wp2_with (go_at_call 5; (with_reducible refine (HA.out).mono ?_); rintro e x1 ⟨rfl, b1⟩)
      go_ret
      exact ⟨rfl, below_step b1 B0⟩
  · have B0 : Below w.heap.size w (w.alloc (.cells #[.string f0, .string f1] 32)) := (Below.refl _ w).alloc (Nat.le_refl _) _
    have k0 := bx_cells (heap_alloc_new w (.cells #[.string f0, .string f1] 32))
    have HA := Lib.hid (law34_awake (w.alloc (.cells #[.string f0, .string f1] 32)))
    have g1 : 12 < a.l.length := by omega
    go_enter Tryz.func4, Tryz.ntmps4
    go_wp2_with (go_at_call 5; (with_reducible refine (HA.out).mono ?_); rintro e x1 ⟨rfl, b1⟩)
    go_ret
    exact ⟨rfl, below_step b1 B0⟩
end Go.Proofs.YtabccphcoojbjaaGreatDoor
