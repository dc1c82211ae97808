/- Layer 34: the bytes of any, and what any bytes tell (ManifestIs). -/
import Derived.Test.YtabccphcoojbjaaGreatDoorQBd
import Derived.Test.YtabccphcoojbjaaGreatDoorQAq
namespace Go.Proofs.YtabccphcoojbjaaGreatDoor
open Go.ChangeShapes Go.WideShapes Go.ChangeAt Go.RowKit Go.Deep DiskP ManP



set_option maxRecDepth 100000 in
set_option maxHeartbeats 4000000 in
theorem law34_ManifestIs (m : Int × Int) (i1 : I64 m.1 ∧ I64 m.2) (s : ByteArray) (hs : s.size ≤ maxLen) (w : World) :
    Calls Tryz.prog 3 #[.agg #[.int .i64 m.1, .int .i64 m.2], .string s] w fun e w' => e = .returned (.bool true) ∧ Below w.heap.size w w' := by
  unfold maxLen at hs
  have HA := Lib.hid law34_awake
  have hb0 : Below w.heap.size w (w.alloc (.cells #[.int .i64 m.1, .int .i64 m.2] 23)) := (Below.refl _ w).alloc (Nat.le_refl _) _
  by_cases h100 : s.size ≤ 100
  · have HP1 := Lib.hid (man_Put m i1.1 i1.2)
    have HP2 := Lib.hid (ref34_Put m i1.1 i1.2)
    have HT1 := Lib.hid (man_Take s (by omega))
    have HT2 := Lib.hid (ref34_Take s (by omega))
    generalize putM m = pm at *
    generalize takeM s.data.toList = tm at *
    obtain ⟨pb, pe⟩ := pm
    obtain ⟨⟨ta, tb⟩, te⟩ := tm
    obtain ⟨a, b⟩ := m
    simp only at *
    generalize tx pb = xb at *
    have hxx : (xb.toList == xb.toList) = true := by simp
    have k0 := heap_alloc_new w (.cells #[.int .i64 a, .int .i64 b] 23)
    clear i1 hs
    go_enter Tryz.func3, Tryz.ntmps3
    go_wp2_with (first
      | (go_at_call 6; (with_reducible refine (HP1.out _).mono ?_); rintro e x1 ⟨rfl, b1⟩; have B1 := below_step b1 hb0; have k1 := bx_kept k0 b1; have c1 := bx_cells k1)
      | (go_at_call 7; (with_reducible refine (HP2.out _).mono ?_); rintro e x2 ⟨rfl, b2⟩; have B2 := below_step b2 B1)
      | (go_at_call 8; (with_reducible refine (HT1.out _).mono ?_); rintro e x3 ⟨rfl, b3⟩; have B3 := (below_step b3 B2).alloc (below_step b3 B2).size (.cells #[.int .i64 ta, .int .i64 tb] 23); have k3 := heap_alloc_new x3 (.cells #[.int .i64 ta, .int .i64 tb] 23))
      | (go_at_call 9; (with_reducible refine (HT2.out _).mono ?_); rintro e x4 ⟨rfl, b4⟩; have B4 := (below_step b4 B3).alloc (below_step b4 B3).size (.cells #[.int .i64 ta, .int .i64 tb] 23); have k4 := bx_kept (bx_kept k3 b4) ((Below.refl x4.heap.size x4).alloc (Nat.le_refl _) (.cells #[.int .i64 ta, .int .i64 tb] 23)); have c4 := bx_cells k4)
      | (go_at_call 5; (with_reducible refine (HA.out _).mono ?_); rintro e x5 ⟨rfl, b5⟩; have B5 := below_step b5 B4))
    go_ret
    exact ⟨rfl, B5⟩
  · have h101 : 100 < s.size := by omega
    obtain ⟨a, b⟩ := m
    simp only at *
    go_enter Tryz.func3, Tryz.ntmps3
    go_wp2_with (go_at_call 5; (with_reducible refine (HA.out _).mono ?_); rintro e x1 ⟨rfl, b1⟩)
    go_ret
    exact ⟨rfl, below_step b1 hb0⟩
end Go.Proofs.YtabccphcoojbjaaGreatDoor
