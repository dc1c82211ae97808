/- Layer 32: awake · Layer 32: awake, walked. -/
import Derived.Test.YtcpmicinibfepaaGreatDoorWBg
import Derived.Test.YtcpmicinibfepaaGreatDoorWBh
import Derived.Test.YtcpmicinibfepaaGreatDoorWAj
namespace Go.Proofs.YtcpmicinibfepaaGreatDoor
open Go.ChangeShapes Go.WideShapes Go.ChangeAt Go.RowKit Go.Deep DiskP NameP


def abcB : ByteArray := ⟨#[97, 98, 99]⟩
def defB : ByteArray := ⟨#[100, 101, 102, 103, 104, 105, 106, 107]⟩
def dA (fs : List Fl) (ops : Int) : DS := ⟨fs, 1000, true, true, -1, ops⟩
theorem numsX_1 : numsX 1 [tB 1] = [1] := nums_of (ns := [1]) (F := [⟨tB 1, ⟨#[]⟩, 0⟩]) (F' := [⟨tB 1, ⟨#[]⟩, 0⟩]) (by simp) (by simp) rfl (List.Perm.refl _)
theorem numsX_12 : numsX 1 [tB 1, tB 2] = [1, 2] := nums_of (ns := [1, 2]) (F := [⟨tB 1, ⟨#[]⟩, 0⟩, ⟨tB 2, ⟨#[]⟩, 0⟩]) (F' := [⟨tB 1, ⟨#[]⟩, 0⟩, ⟨tB 2, ⟨#[]⟩, 0⟩]) (by simp) (by simp) rfl (List.Perm.refl _)
theorem cmp_12 : cmpN (tB 1) (tB 2) = -1 := by decide +kernel
theorem dA_fs (F : List Fl) (n : Int) : (dA F n).fs = F := rfl
theorem awk1 (b : ByteArray) (hb : b.size = 19) : putW (placeW 40 ⟨dA [] 0, 1, 0⟩ 19) b = (⟨dA [⟨tB 1, ⟨#[]⟩ ++ b, 0⟩] 1, 2, 0⟩, 1, 0) := by
  have hP : placeW 40 ⟨dA [] 0, 1, 0⟩ 19 = (⟨dA [] 0, 1, 0⟩, tB 1, 0) := by
    unfold placeW
    rw [if_pos (show lastW (⟨dA [] 0, 1, 0⟩ : WL).S.fs = ⟨#[]⟩ from rfl)]
  have hA : appendD (dA [] 0) (tB 1) b = (dA [⟨tB 1, ⟨#[]⟩ ++ b, 0⟩] 1, 0) := by
    unfold appendD
    rw [if_neg (by simp [dA]), if_neg (by rw [namedD_tB (by omega)]; simp), if_neg (by simp [dA, used, hb])]
    rfl
  rw [hP]
  unfold putW
  simp only [hA]
  simp
theorem emp_size (b : ByteArray) : (⟨#[]⟩ ++ b : ByteArray).size = b.size := by rw [ByteArray.size_append]; exact Nat.zero_add _
theorem last_1 (x : ByteArray) (n : Nat) : lastW [(⟨tB 1, x, n⟩ : Fl)] = tB 1 := by unfold lastW; rw [show names [(⟨tB 1, x, n⟩ : Fl)] = [tB 1] from rfl, numsX_1]; rfl
theorem sync_1 (x : ByteArray) (hx : x.size = 19) (n : Nat) (k : Int) : syncD (dA [⟨tB 1, x, n⟩] k) (tB 1) = (dA [⟨tB 1, x, 19⟩] (k + 1), 0) := by
  simp [syncD, dA, has, pos, cmpN_self, opD, blow, modF, hx]
theorem awk2 (x : ByteArray) (hx : x.size = 19) : syncW ⟨dA [⟨tB 1, x, 0⟩] 1, 2, 0⟩ = (⟨dA [⟨tB 1, x, 19⟩] 2, 2, 1⟩, 0) := by
  unfold syncW
  rw [if_neg (by simp)]
  simp only [dA_fs, last_1, sync_1 x hx]
  rfl
theorem awk3 (x b2 : ByteArray) (hx : x.size = 19) (hb2 : b2.size = 24) : putW (placeW 40 ⟨dA [⟨tB 1, x, 19⟩] 2, 2, 1⟩ 24) b2 = (⟨dA [⟨tB 1, x, 19⟩, ⟨tB 2, ⟨#[]⟩ ++ b2, 0⟩] 4, 3, 1⟩, 2, 0) := by
  have hr : readD (dA [⟨tB 1, x, 19⟩] 2) (tB 1) = (x, 0) := by simp [readD, dA, has, pos, cmpN_self]
  have hP : placeW 40 ⟨dA [⟨tB 1, x, 19⟩] 2, 2, 1⟩ 24 = (⟨dA [⟨tB 1, x, 19⟩] 3, 2, 1⟩, tB 2, 0) := by
    unfold placeW
    simp only [dA_fs, last_1, hr, sync_1 x hx]
    rw [if_neg (tB_ne (by omega)), if_neg (fun h => h rfl), if_neg, if_neg (fun h => h rfl)]
    · rfl
    · rintro (h | h)
      · rw [h] at hx; exact absurd hx (by decide)
      · omega
  have hA : appendD (dA [⟨tB 1, x, 19⟩] 3) (tB 2) b2 = (dA [⟨tB 1, x, 19⟩, ⟨tB 2, ⟨#[]⟩ ++ b2, 0⟩] 4, 0) := by
    have hp : putF [(⟨tB 1, x, 19⟩ : Fl)] (tB 2) b2 = [⟨tB 1, x, 19⟩, ⟨tB 2, ⟨#[]⟩ ++ b2, 0⟩] := by
      have : pos [(⟨tB 1, x, 19⟩ : Fl)] (tB 2) = 1 := by simp [pos, cmp_12]
      unfold putF
      rw [this]
      rfl
    unfold appendD
    rw [if_neg (by simp [dA]), if_neg (by rw [namedD_tB (by omega)]; simp), if_neg (by simp [dA, used, hx, hb2])]
    rw [dA_fs, hp]
    rfl
  rw [hP]
  unfold putW
  simp only [hA]
  simp
theorem awk4 (x y : ByteArray) : trimD (dA [⟨tB 1, x, 19⟩, ⟨tB 2, y, 0⟩] 4) [1, 2] 1 = (dA [⟨tB 2, y, 0⟩] 5, 0) := by
  have hr : removeD (dA [⟨tB 1, x, 19⟩, ⟨tB 2, y, 0⟩] 4) (tB 1) = (dA [⟨tB 2, y, 0⟩] 5, 0) := by
    simp [removeD, dA, has, pos, cmpN_self, opD, blow, delF]
  rw [trimD_step (by omega) (by rw [hr]), hr, trimD_end (by simp)]
theorem awk5 (x y : ByteArray) : readD (dA [⟨tB 1, x, 19⟩, ⟨tB 2, y, 0⟩] 4) (tB 1) = (x, 0) := by simp [readD, dA, has, pos, cmpN_self]
theorem tB_1 : tB 1 = ⟨#[108, 111, 103, 46, 49]⟩ := by decide +kernel
theorem tB_2 : tB 2 = ⟨#[108, 111, 103, 46, 50]⟩ := by decide +kernel
end Go.Proofs.YtcpmicinibfepaaGreatDoor

namespace Go.Proofs.YtcpmicinibfepaaGreatDoor
open Go.ChangeShapes Go.WideShapes Go.ChangeAt Go.RowKit Go.Deep DiskP NameP


theorem dA_inv : DInv 1000 0 0 (dA [] 0) := ⟨by simp [dA, Sorted], by simp [dA], by simp [dA], by simp [dA, used], by simp [dA], rfl, by simp [dA, used], by simp [dA], by simp [dA]⟩
set_option maxRecDepth 100000 in
set_option maxHeartbeats 4000000 in
theorem law32_awake (w : World) (ht : TabW w) : Calls Tryz.prog 8 #[] w fun e w' => e = .returned (.bool true) ∧ Below w.heap.size w w' := by
  obtain ⟨b1, hb1⟩ : ∃ b, b = fB 1 abcB := ⟨_, rfl⟩
  obtain ⟨b2, hb2⟩ : ∃ b, b = fB 2 defB := ⟨_, rfl⟩
  have z1 : b1.size = 19 := by rw [hb1, fB_size]; rfl
  have z2 : b2.size = 24 := by rw [hb2, fB_size]; rfl
  have e1 : appendW 40 ⟨dA [] 0, 1, 0⟩ abcB = (⟨dA [⟨tB 1, ⟨#[]⟩ ++ b1, 0⟩] 1, 2, 0⟩, 1, 0) := by
    have := awk1 b1 z1
    unfold appendW
    show putW (placeW 40 ⟨dA [] 0, 1, 0⟩ (fB 1 abcB).size) (fB 1 abcB) = _
    rw [← hb1, z1]
    exact this
  obtain ⟨x, hx⟩ : ∃ x, x = (⟨#[]⟩ ++ b1 : ByteArray) := ⟨_, rfl⟩
  have zx : x.size = 19 := by rw [hx, emp_size, z1]
  rw [← hx] at e1
  have e3 : appendW 40 ⟨dA [⟨tB 1, x, 19⟩] 2, 2, 1⟩ defB = (⟨dA [⟨tB 1, x, 19⟩, ⟨tB 2, ⟨#[]⟩ ++ b2, 0⟩] 4, 3, 1⟩, 2, 0) := by
    have := awk3 x b2 zx z2
    unfold appendW
    show putW (placeW 40 ⟨dA [⟨tB 1, x, 19⟩] 2, 2, 1⟩ (fB 2 defB).size) (fB 2 defB) = _
    rw [← hb2, z2]
    exact this
  obtain ⟨y, hy⟩ : ∃ y, y = (⟨#[]⟩ ++ b2 : ByteArray) := ⟨_, rfl⟩
  rw [← hy] at e3
  have e2 := awk2 x zx
  have I0 := dA_inv
  have I1 : DInv 1000 2 2 (dA [⟨tB 1, x, 0⟩] 1) := by have := appendW_inv (L := ⟨dA [] 0, 1, 0⟩) I0 40 abcB (by decide); rw [e1] at this; exact this
  have I2 : DInv 1000 3 2 (dA [⟨tB 1, x, 19⟩] 2) := by have := syncW_inv (L := ⟨dA [⟨tB 1, x, 0⟩] 1, 2, 0⟩) I1; rw [e2] at this; exact this
  have I3 : DInv 1000 5 4 (dA [⟨tB 1, x, 19⟩, ⟨tB 2, y, 0⟩] 4) := by have := appendW_inv (L := ⟨dA [⟨tB 1, x, 19⟩] 2, 2, 1⟩) I2 40 defB (by decide); rw [e3] at this; exact this
  have s1 := tB_size 1
  have s2 := tB_size 2
  have o0 : OkW ⟨dA [] 0, 1, 0⟩ := ⟨I0.ok (by omega) (by omega), (by intro s hs; cases hs), by simp, by simp⟩
  have o1 : OkW ⟨dA [⟨tB 1, x, 0⟩] 1, 2, 0⟩ := ⟨I1.ok (by omega) (by omega), (by intro s hs; simp [names, dA] at hs; subst hs; omega), by simp, by simp⟩
  have o2 : OkW ⟨dA [⟨tB 1, x, 19⟩] 2, 2, 1⟩ := ⟨I2.ok (by omega) (by omega), (by intro s hs; simp [names, dA] at hs; subst hs; omega), by simp, by simp⟩
  have o3 : OkW ⟨dA [⟨tB 1, x, 19⟩, ⟨tB 2, y, 0⟩] 4, 3, 1⟩ := ⟨I3.ok (by omega) (by omega), (by intro s hs; simp [names, dA] at hs; rcases hs with rfl | rfl <;> omega), by simp, by simp⟩
  have HT := Lib.hid (fun W (hb : Below w.heap.size w W) => TabW.below ht hb)
  have H1 := Lib.hid (disk_New 1000 w)
  have H2' : ∀ W : World, Calls Tryz.prog 10 #[.pointer (some ⟨w.heap.size, 0, none⟩), .int .i64 40, .int .i64 1] W fun e w' => e = .returned (.pointer (some ⟨W.heap.size, 0, none⟩)) ∧ w'.heap[W.heap.size]? = some (.cells #[.pointer (some ⟨w.heap.size, 0, none⟩), .int .i64 40, .int .i64 1, .int .i64 0] 74 (0, 0)) ∧ Below W.heap.size W w' := fun W => wal_New w.heap.size 40 1 W
  have H2 := Lib.hid H2'
  have HS1' : ∀ a A c W, Below w.heap.size w W → w.heap.size < a → Lg a w.heap.size A c 40 ⟨dA [] 0, 1, 0⟩ W → Calls Tryz.prog 11 #[.pointer (some ⟨a, 0, none⟩), .string ⟨#[97, 98, 99]⟩] W (LPost a w.heap.size 40 ⟨dA [⟨tB 1, x, 0⟩] 1, 2, 0⟩ (.tuple #[.int .i64 1, .int .i64 0]) W) := fun a A c W hb hda h => by
    have := wal_Append a w.heap.size A c 40 (by unfold I64; omega) _ o0 1000 0 0 I0 (by omega) abcB (by decide) W (fun W' hb' => HT.out W' (hb.trans hb')) hda h
    rw [e1] at this
    exact this
  have HS2' : ∀ a A c W, Below w.heap.size w W → w.heap.size < a → Lg a w.heap.size A c 40 ⟨dA [⟨tB 1, x, 0⟩] 1, 2, 0⟩ W → Calls Tryz.prog 32 #[.pointer (some ⟨a, 0, none⟩)] W (LPost a w.heap.size 40 ⟨dA [⟨tB 1, x, 19⟩] 2, 2, 1⟩ (.int .i64 0) W) := fun a A c W hb hda h => by
    have := wal_Sync a w.heap.size A c 40 _ o1 W (fun W' hb' => HT.out W' (hb.trans hb')) hda h
    rw [e2] at this
    exact this
  have HS3' : ∀ a A c W, Below w.heap.size w W → w.heap.size < a → Lg a w.heap.size A c 40 ⟨dA [⟨tB 1, x, 19⟩] 2, 2, 1⟩ W → Calls Tryz.prog 11 #[.pointer (some ⟨a, 0, none⟩), .string ⟨#[100, 101, 102, 103, 104, 105, 106, 107]⟩] W (LPost a w.heap.size 40 ⟨dA [⟨tB 1, x, 19⟩, ⟨tB 2, y, 0⟩] 4, 3, 1⟩ (.tuple #[.int .i64 2, .int .i64 0]) W) := fun a A c W hb hda h => by
    have := wal_Append a w.heap.size A c 40 (by unfold I64; omega) _ o2 1000 3 2 I2 (by omega) defB (by decide) W (fun W' hb' => HT.out W' (hb.trans hb')) hda h
    rw [e3] at this
    exact this
  have HS4' : ∀ A c W, Dk w.heap.size A c (dA [⟨tB 1, x, 19⟩, ⟨tB 2, y, 0⟩] 4) W → Calls Tryz.prog 14 #[.pointer (some ⟨w.heap.size, 0, none⟩), .string ⟨#[108, 111, 103, 46, 49]⟩] W fun e w' => e = .returned (.tuple #[.string x, .int .i64 0]) ∧ Below W.heap.size W w' := fun A c W h => by
    have := disk_Read w.heap.size A c _ (tB 1) I3.sorted (by simp [dA]) W h
    rw [awk5, tB_1] at this
    exact this
  have HS5' : ∀ a A c W, Below w.heap.size w W → w.heap.size < a → Lg a w.heap.size A c 40 ⟨dA [⟨tB 1, x, 19⟩, ⟨tB 2, y, 0⟩] 4, 3, 1⟩ W → Calls Tryz.prog 16 #[.pointer (some ⟨a, 0, none⟩), .int .i64 1] W (LPost a w.heap.size 40 ⟨dA [⟨tB 2, y, 0⟩] 5, 3, 1⟩ (.int .i64 0) W) := fun a A c W hb hda h => by
    have := wal_Trim a w.heap.size A c 40 _ o3 1000 5 4 I3 (by omega) 1 W (fun W' hb' => HT.out W' (hb.trans hb')) hda h
    rw [show names (dA [⟨tB 1, x, 19⟩, ⟨tB 2, y, 0⟩] 4).fs = [tB 1, tB 2] from rfl, numsX_12, awk4] at this
    exact this
  have HN' : ∀ A c W, Dk w.heap.size A c (dA [⟨tB 2, y, 0⟩] 5) W → Calls Tryz.prog 13 #[.pointer (some ⟨w.heap.size, 0, none⟩)] W fun e w' => ∃ A' c', e = .returned (.slice A' 1 c') ∧ Rd w' w'.heap.size A' ([(⟨#[108, 111, 103, 46, 50]⟩ : ByteArray)].map Value.string) ∧ Below W.heap.size W w' := fun A c W h => by
    refine (disk_Names w.heap.size A c _ (by simp [dA]) W h).mono ?_
    rintro e w' ⟨A', c', rfl, ho, hb⟩
    have h2 := Rd.own ho
    rw [show (dA [⟨tB 2, y, 0⟩] 5).fs.map (fun f => Value.string f.nm) = [Value.string (tB 2)] from rfl, tB_2] at h2
    exact ⟨A', c', rfl, h2, hb⟩
  have HX' : ∀ A c b W, Rd W W.heap.size A ([(⟨#[108, 111, 103, 46, 50]⟩ : ByteArray)].map Value.string) → W.heap[b]? = some (.cells #[.string ⟨#[108, 111, 103, 46, 50]⟩] 9 (0, 0)) → Calls Tryz.prog 34 #[.slice A 1 c, .slice (some ⟨b, 0, none⟩) 1 1] W fun e w' => e = .returned (.bool true) ∧ Below W.heap.size W w' := fun A c b W h hb =>
    ref1_SameTx A (some ⟨b, 0, none⟩) c 1 [⟨#[108, 111, 103, 46, 50]⟩] [⟨#[108, 111, 103, 46, 50]⟩] (by simp) (by simp) rfl W h (fun j u hj => ⟨_, rfl, bx_lt hb, by rw [fl_add_0, cell_of_row _ _ _ _ _ _ hb]; simpa using hj⟩)
  have HS1 := Lib.hid HS1'
  have HS2 := Lib.hid HS2'
  have HS3 := Lib.hid HS3'
  have HS4 := Lib.hid HS4'
  have HS5 := Lib.hid HS5'
  have HN := Lib.hid HN'
  have HX := Lib.hid HX'
  clear H2' HS1' HS2' HS3' HS4' HS5' HN' HX' e1 e2 e3 I0 I1 I2 I3 o0 o1 o2 o3 s1 s2 hb1 hb2 hx hy ht z1 z2
  go_enter Tryz.func8, Tryz.ntmps8
  go_wp2_with (first
    | (go_at_call 9; (with_reducible refine (H1.out).mono ?_); rintro e w1 ⟨rfl, d1, B1⟩)
    | (go_at_call 10; (with_reducible refine (H2.out _).mono ?_); rintro e w2 ⟨rfl, x2, B2⟩; have hda := d1.lt; have B12 := below_step B2 B1; have l2 : Lg w1.heap.size w.heap.size none 0 40 ⟨dA [] 0, 1, 0⟩ w2 := ⟨d1.kept B2, x2⟩)
    | (go_at_call 11; (with_reducible refine (HS1.out _ _ _ _ B12 hda l2).mono ?_); rintro e w3 ⟨rfl, A3, c3, l3, k3⟩; have B3 := B12.trans k3.below)
    | (go_at_call 32; (with_reducible refine (HS2.out _ _ _ _ B3 hda l3).mono ?_); rintro e w4 ⟨rfl, A4, c4, l4, k4⟩; have B4 := B3.trans k4.below)
    | (go_at_call 11; (with_reducible refine (HS3.out _ _ _ _ B4 hda l4).mono ?_); rintro e w5 ⟨rfl, A5, c5, l5, k5⟩; have B5 := B4.trans k5.below)
    | (go_at_call 14; (with_reducible refine (HS4.out _ _ _ l5.dk).mono ?_); rintro e w6 ⟨rfl, k6⟩; have l6 := l5.kept k6; have B6 := below_step k6 B5)
    | (go_at_call 16; (with_reducible refine (HS5.out _ _ _ _ B6 hda l6).mono ?_); rintro e w7 ⟨rfl, A7, c7, l7, k7⟩; have B7 := B6.trans k7.below)
    | (go_at_call 18; (with_reducible refine (wal_Next _ _ _ _ _ _ _ l7).mono ?_); rintro e w8 ⟨rfl, rfl⟩)
    | (go_at_call 21; (with_reducible refine (wal_Synced _ _ _ _ _ _ _ l7).mono ?_); rintro e w8 ⟨rfl, rfl⟩)
    | (go_at_call 13; (with_reducible refine (HN.out _ _ _ l7.dk).mono ?_); rintro e w9 ⟨A9, c9, rfl, r9, k9⟩; have B9 := below_step k9 B7; have al9 := (Below.refl w9.heap.size w9).alloc (Nat.le_refl _) (.cells #[.string ⟨#[108, 111, 103, 46, 50]⟩] 9); have B10 := below_step al9 B9; have r10 := (r9.below al9).more al9.size; have x10 := heap_alloc_new w9 (.cells #[.string ⟨#[108, 111, 103, 46, 50]⟩] 9))
    | (go_at_call 34; (with_reducible refine (HX.out _ _ _ _ r10 x10).mono ?_); rintro e w11 ⟨rfl, k11⟩))
  go_ret
  exact ⟨rfl, below_step k11 B10⟩
end Go.Proofs.YtcpmicinibfepaaGreatDoor
