/- Layer 34: what must come, whatever the arguments are; the bytes of any, and what any bytes tell (ManifestIs). -/
import Derived.Test.YtabccphcoojbjaaGreatDoorPBd
import Derived.Test.YtabccphcoojbjaaGreatDoorPBe
namespace Go.Proofs.YtabccphcoojbjaaGreatDoor
open Go.ChangeShapes Go.WideShapes Go.ChangeAt Go.RowKit Go.Deep DiskP ManP


def D0 : DS := ⟨[], 100, true, true, -1, 0⟩
def D1 : DS := (writeD D0 (300, 7)).1
theorem d0_inv : DInv 100 0 0 D0 := ⟨by simp [D0, Sorted], by decide, by simp [D0], by decide, by simp [D0], rfl, by decide, by decide, by decide⟩
theorem d1_inv : DInv 100 4 2 D1 := writeD_inv d0_inv (300, 7)
theorem d0_read : readMD D0 = ((0, 0), 7) := by decide +kernel
theorem d1_told : (writeD D0 (300, 7)).2 = 0 := by decide +kernel
theorem d1_read : readMD D1 = ((300, 7), 0) := by decide +kernel
theorem d1_names : names D1.fs = [mainB] := by decide +kernel
theorem p300 : (putM (300, 0)).1.length = 7 ∧ (putM (300, 0)).2 = 0 := by decide +kernel
theorem p0 : putM (0, 0) = ([], 1) := by decide +kernel

set_option maxRecDepth 100000 in
set_option maxHeartbeats 4000000 in
theorem law34_awake (w : World) : Calls Tryz.prog 5 #[] w fun e w' => e = .returned (.bool true) ∧ Below w.heap.size w w' := by
  have HNew' : Calls Tryz.prog 10 #[.int .i64 100] w fun e w' => e = .returned (.pointer (some ⟨w.heap.size, 0, none⟩)) ∧ Dk w.heap.size none 0 D0 w' ∧ Below w.heap.size w w' := disk_New 100 w
  have HNew := Lib.hid HNew'
  have HRd0' : ∀ A c W, Dk w.heap.size A c D0 W → Calls Tryz.prog 23 #[.pointer (some ⟨w.heap.size, 0, none⟩)] W fun e w' => e = .returned (.tuple #[.agg #[.int .i64 0, .int .i64 0], .int .i64 7]) ∧ Below W.heap.size W w' := fun A c W h => by
    have := man_Read w.heap.size A c D0 (d0_inv.ok (by decide) (by decide)) (by decide) W h
    rw [d0_read] at this
    exact this
  have HRd0 := Lib.hid HRd0'
  have HWr' : ∀ A c W, Dk w.heap.size A c D0 W → Calls Tryz.prog 15 #[.pointer (some ⟨w.heap.size, 0, none⟩), .agg #[.int .i64 300, .int .i64 7]] W (DPost w.heap.size D1 (.int .i64 0) W) := fun A c W h => by
    have := man_Write w.heap.size A c D0 100 0 0 d0_inv (by decide) (300, 7) (by unfold I64; decide) (by unfold I64; decide) W h
    rw [d1_told] at this
    exact this
  have HWr := Lib.hid HWr'
  have HRd1' : ∀ A c W, Dk w.heap.size A c D1 W → Calls Tryz.prog 23 #[.pointer (some ⟨w.heap.size, 0, none⟩)] W fun e w' => e = .returned (.tuple #[.agg #[.int .i64 300, .int .i64 7], .int .i64 0]) ∧ Below W.heap.size W w' := fun A c W h => by
    have := man_Read w.heap.size A c D1 (d1_inv.ok (by decide) (by decide)) (by have := d1_inv.size; omega) W h
    rw [d1_read] at this
    exact this
  have HRd1 := Lib.hid HRd1'
  obtain ⟨x7, hx7, hs7⟩ : ∃ x, tx (putM (300, 0)).1 = x ∧ x.size = 7 := ⟨_, rfl, by rw [tx_size]; exact p300.1⟩
  have HP1' : ∀ W, Calls Tryz.prog 6 #[.agg #[.int .i64 300, .int .i64 0]] W fun e w' => e = .returned (.tuple #[.string x7, .int .i64 0]) ∧ Below W.heap.size W w' := fun W => by
    have := man_Put (300, 0) (by unfold I64; decide) (by unfold I64; decide) W
    rw [p300.2, hx7] at this
    exact this
  have HP1 := Lib.hid HP1'
  have HP0' : ∀ W, Calls Tryz.prog 6 #[.agg #[.int .i64 0, .int .i64 0]] W fun e w' => e = .returned (.tuple #[.string (tx []), .int .i64 1]) ∧ Below W.heap.size W w' := fun W => by
    have := man_Put (0, 0) (by unfold I64; decide) (by unfold I64; decide) W
    rw [p0] at this
    exact this
  have HP0 := Lib.hid HP0'
  have HNm' : ∀ A c W, Dk w.heap.size A c D1 W → Calls Tryz.prog 19 #[.pointer (some ⟨w.heap.size, 0, none⟩)] W fun e w' => ∃ A' c', e = .returned (.slice A' 1 c') ∧ Rd w' w'.heap.size A' [.string ⟨#[109, 97, 105, 110]⟩] ∧ Below W.heap.size W w' := fun A c W h => by
    refine (disk_Names w.heap.size A c D1 (by have := d1_inv.many; omega) W h).mono ?_
    have hl : D1.fs.length = 1 := by rw [← names_len, d1_names]; rfl
    have hn : (D1.fs.map fun f => Value.string f.nm) = [.string mainB] := by
      have := congrArg (List.map Value.string) d1_names
      unfold names at this
      rw [List.map_map] at this
      exact this
    rw [hl, hn]
    rintro e w' ⟨A', c', rfl, hr, b⟩
    exact ⟨A', c', rfl, Rd.own hr, b⟩
  have HNm := Lib.hid HNm'
  have HS' : ∀ W A' c', Rd W W.heap.size A' [.string ⟨#[109, 97, 105, 110]⟩] → Calls Tryz.prog 18 #[.slice A' 1 c', .slice (some ⟨W.heap.size, 0, none⟩) 1 1] (W.alloc (.cells #[.string ⟨#[109, 97, 105, 110]⟩] 9)) fun e w' => e = .returned (.bool true) ∧ Below W.heap.size W w' := fun W A' c' hr => by
    have := ref1_SameTx A' (some ⟨W.heap.size, 0, none⟩) c' 1 [mainB] [mainB] (by simp) (by simp) rfl (W.alloc (.cells #[.string mainB] 9)) ((hr.below ((Below.refl _ W).alloc (Nat.le_refl _) _)).more (by rw [World.size_alloc]; omega)) ((Rd.new W 9 _).more (by rw [World.size_alloc]; omega))
    refine this.mono ?_
    rintro e w' ⟨rfl, b⟩
    exact ⟨rfl, below_step b ((Below.refl _ W).alloc (Nat.le_refl _) _)⟩
  have HS := Lib.hid HS'
  clear HNew' HRd0' HWr' HRd1' HP1' HP0' HNm' HS' hx7
  go_enter Tryz.func5, Tryz.ntmps5
  go_wp2_with (first
    | (go_at_call 10; (with_reducible refine (HNew.out).mono ?_); rintro e x0 ⟨rfl, hd0, B0⟩)
    | (go_at_call 23; (with_reducible refine (HRd0.out _ _ _ hd0).mono ?_); rintro e x1 ⟨rfl, b1⟩; have hd1 := (hd0.kept b1).kept ((Below.refl x1.heap.size x1).alloc (Nat.le_refl _) (.cells #[.int .i64 0, .int .i64 0] 23)); have B1 := (below_step b1 B0).alloc (below_step b1 B0).size (.cells #[.int .i64 0, .int .i64 0] 23))
    | (go_at_call 15; (with_reducible refine (HWr.out _ _ _ hd1).mono ?_); rintro e x2 ⟨rfl, A2, c2, hd2, k2⟩; have B2 := B1.trans k2.below)
    | (go_at_call 23; (with_reducible refine (HRd1.out _ _ _ hd2).mono ?_); rintro e x3 ⟨rfl, b3⟩; have hd3 := (hd2.kept b3).kept ((Below.refl x3.heap.size x3).alloc (Nat.le_refl _) (.cells #[.int .i64 300, .int .i64 7] 23)); have B3 := (below_step b3 B2).alloc (below_step b3 B2).size (.cells #[.int .i64 300, .int .i64 7] 23); have k3 := heap_alloc_new x3 (.cells #[.int .i64 300, .int .i64 7] 23))
    | (go_at_call 6; (with_reducible refine (HP1.out _).mono ?_); rintro e x4 ⟨rfl, b4⟩; have k4 := bx_kept k3 b4; have hd4 := hd3.kept b4; have B4 := below_step b4 B3)
    | (go_at_call 6; (with_reducible refine (HP0.out _).mono ?_); rintro e x5 ⟨rfl, b5⟩; have k5 := bx_kept k4 b5; have hd5 := hd4.kept b5; have B5 := below_step b5 B4; have cc := bx_cells k5)
    | (go_at_call 19; (with_reducible refine (HNm.out _ _ _ hd5).mono ?_); rintro e x6 ⟨A6, c6, rfl, hr6, b6⟩; have B6 := below_step b6 B5)
    | (go_at_call 18; (with_reducible refine (HS.out _ _ _ hr6).mono ?_); rintro e x7 ⟨rfl, b7⟩; have B7 := below_step b7 B6))
  go_ret
  exact ⟨rfl, B7⟩
end Go.Proofs.YtabccphcoojbjaaGreatDoor
