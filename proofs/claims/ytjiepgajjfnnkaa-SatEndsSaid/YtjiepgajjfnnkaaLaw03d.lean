/- The statements of layer 3 (sat): the walk of SatEnds. -/
import Derived.Test.YtjiepgajjfnnkaaLaw03
namespace Go.Proofs.Ytjiepgajjfnnkaa
open Go.ChangeShapes Go.WideShapes Go.ChangeAt Go.RowKit Go.Deep

theorem kept_kept (d : Int) : clampS (clampS d 0 4611686018427387904) 0 4611686018427387904 = clampS d 0 4611686018427387904 := by unfold clampS; omega
theorem ends_lo (st d : Int) (h : -9223372036854775808 ≤ st ∧ st ≤ 9223372036854775807) : st ≤ addS st (clampS d 0 4611686018427387904) := by unfold addS clampS; omega
theorem end_kept (x : Sp) (hx : x.Ok) (w : World) :
    Calls Try.prog 26 #[.agg #[.int .i64 x.tr, .int .i64 x.id, .int .i64 x.pa, .int .i64 x.rv, .string x.sv, .string x.op, .int .i64 x.st, .int .i64 (clampS x.du 0 4611686018427387904), .bool x.gn]] w fun e w' => e = .returned (.int .i64 (endS x)) ∧ Below w.heap.size w w' := by
  have hxk : x.kept.Ok := by
    obtain ⟨k1, k2, k3, k4, k5, k6, k7, k8⟩ := hx
    exact ⟨k1, k2, k3, k4, k5, clamp_I64 _ _ _ k6 zero_I64 maxDur_I64, k7, k8⟩
  have e1 : endS x.kept = endS x := by unfold endS; rw [show x.kept.du = clampS x.du 0 4611686018427387904 from rfl, kept_kept]; rfl
  rw [← e1]
  exact sat_End x.kept hxk w
theorem kept_twice (x : Sp) (w : World) :
    Calls Try.prog 24 #[.agg #[.int .i64 x.tr, .int .i64 x.id, .int .i64 x.pa, .int .i64 x.rv, .string x.sv, .string x.op, .int .i64 x.st, .int .i64 (clampS x.du 0 4611686018427387904), .bool x.gn]] w fun e w' => e = .returned (.agg #[.int .i64 x.tr, .int .i64 x.id, .int .i64 x.pa, .int .i64 x.rv, .string x.sv, .string x.op, .int .i64 x.st, .int .i64 (clampS x.du 0 4611686018427387904), .bool x.gn]) ∧ Below w.heap.size w w' := by
  have h := sat_Kept x.kept w
  rw [show x.kept.du = clampS x.du 0 4611686018427387904 from rfl, kept_kept] at h
  exact h
set_option maxHeartbeats 1000000 in
theorem ends1 (x : Sp) (hx : x.Ok) (e6 : x.du < 0) (w : World) :
    Calls Try.prog 8 #[.agg #[.int .i64 x.tr, .int .i64 x.id, .int .i64 x.pa, .int .i64 x.rv, .string x.sv, .string x.op, .int .i64 x.st, .int .i64 x.du, .bool x.gn]] w fun e w' => e = .returned (.bool true) ∧ Below w.heap.size w w' := by
  have h1 := Lib.hid (sat_End x hx)
  have h2 := Lib.hid (end_kept x hx)
  have h3 := Lib.hid (kept_twice x)
  have e2 : x.st ≤ endS x := ends_lo x.st x.du hx.2.2.2.2.1
  have e4 : 0 ≤ clampS x.du 0 4611686018427387904 := by unfold clampS; omega
  have e5 : clampS x.du 0 4611686018427387904 ≤ 4611686018427387904 := by unfold clampS; omega
  clear hx
  have e7 : x.du ≤ 4611686018427387904 := by omega
  go_enter Try.func8, Try.ntmps8
  go_wp2_with (first
    | (go_at_call 24; refine (sat_Kept x _).mono ?_; rintro e w1 ⟨rfl, hb1⟩))
  rw [World.size_alloc] at hb1
  have hx := fun (u : Later (w1.heap.size + 1) (w1.alloc (.cells x.kept.cells 29))) j => (later_old u (b := w.heap.size) (by have := hb1.size; simp at this; omega) j).trans ((hb1.cell (p := ⟨w.heap.size, j, none⟩) (by simp)).trans (cell_of_row _ _ _ x.cells 29 _ (heap_alloc_new w _)))
  have hy := fun (u : Later (w1.heap.size + 1) (w1.alloc (.cells x.kept.cells 29))) j => later_row u j
  unfold Sp.cells Sp.kept at hx hy
  simp only [List.append_eq, List.cons_append, List.nil_append]
  refine wp_region_later (w1.heap.size + 1) (by kernel_rfl) (by kernel_rfl) ?_
  repeat (go_big_quiet_step ((first
    | (go_at_call 26; with_reducible exact later_of _ (by simp) (h1.out _))
    | (go_at_call 26; with_reducible exact later_of _ (by simp) (h2.out _))
    | (go_at_call 24; with_reducible exact later_of _ (by simp) (h3.out _))
    | (go_at_call 28; exact later_of _ (by simp) (law03_awake _)))))
  refine wpQuiet_nil ?_
  intro _ hw'
  obtain ⟨u, hw''⟩ := hw'
  subst hw''
  go_wp2
  go_ret
  exact ⟨rfl, (((Below.refl _ w).alloc (Nat.le_refl _) _).trans (hb1.mono (by omega))).trans ((((Below.refl _ w1).alloc (Nat.le_refl _) _).trans (u.h.mono (by omega))).mono (by have := hb1.size; simp at this; omega))⟩
set_option maxHeartbeats 1000000 in
theorem ends2 (x : Sp) (hx : x.Ok) (e6 : 4611686018427387904 < x.du) (w : World) :
    Calls Try.prog 8 #[.agg #[.int .i64 x.tr, .int .i64 x.id, .int .i64 x.pa, .int .i64 x.rv, .string x.sv, .string x.op, .int .i64 x.st, .int .i64 x.du, .bool x.gn]] w fun e w' => e = .returned (.bool true) ∧ Below w.heap.size w w' := by
  have h1 := Lib.hid (sat_End x hx)
  have h2 := Lib.hid (end_kept x hx)
  have h3 := Lib.hid (kept_twice x)
  have e2 : x.st ≤ endS x := ends_lo x.st x.du hx.2.2.2.2.1
  have e4 : 0 ≤ clampS x.du 0 4611686018427387904 := by unfold clampS; omega
  have e5 : clampS x.du 0 4611686018427387904 ≤ 4611686018427387904 := by unfold clampS; omega
  clear hx
  have e7 : decide (x.du < 0) = false := by simp; omega
  go_enter Try.func8, Try.ntmps8
  go_wp2_with (first
    | (go_at_call 24; refine (sat_Kept x _).mono ?_; rintro e w1 ⟨rfl, hb1⟩))
  rw [World.size_alloc] at hb1
  have hx := fun (u : Later (w1.heap.size + 1) (w1.alloc (.cells x.kept.cells 29))) j => (later_old u (b := w.heap.size) (by have := hb1.size; simp at this; omega) j).trans ((hb1.cell (p := ⟨w.heap.size, j, none⟩) (by simp)).trans (cell_of_row _ _ _ x.cells 29 _ (heap_alloc_new w _)))
  have hy := fun (u : Later (w1.heap.size + 1) (w1.alloc (.cells x.kept.cells 29))) j => later_row u j
  unfold Sp.cells Sp.kept at hx hy
  simp only [List.append_eq, List.cons_append, List.nil_append]
  refine wp_region_later (w1.heap.size + 1) (by kernel_rfl) (by kernel_rfl) ?_
  repeat (go_big_quiet_step ((first
    | (go_at_call 26; with_reducible exact later_of _ (by simp) (h1.out _))
    | (go_at_call 26; with_reducible exact later_of _ (by simp) (h2.out _))
    | (go_at_call 24; with_reducible exact later_of _ (by simp) (h3.out _))
    | (go_at_call 28; exact later_of _ (by simp) (law03_awake _)))))
  refine wpQuiet_nil ?_
  intro _ hw'
  obtain ⟨u, hw''⟩ := hw'
  subst hw''
  go_wp2
  go_ret
  exact ⟨rfl, (((Below.refl _ w).alloc (Nat.le_refl _) _).trans (hb1.mono (by omega))).trans ((((Below.refl _ w1).alloc (Nat.le_refl _) _).trans (u.h.mono (by omega))).mono (by have := hb1.size; simp at this; omega))⟩
set_option maxHeartbeats 1000000 in
theorem ends3 (x : Sp) (hx : x.Ok) (e6 : 0 ≤ x.du) (e7 : x.du ≤ 4611686018427387904) (w : World) :
    Calls Try.prog 8 #[.agg #[.int .i64 x.tr, .int .i64 x.id, .int .i64 x.pa, .int .i64 x.rv, .string x.sv, .string x.op, .int .i64 x.st, .int .i64 x.du, .bool x.gn]] w fun e w' => e = .returned (.bool true) ∧ Below w.heap.size w w' := by
  have h1 := Lib.hid (sat_End x hx)
  have h2 := Lib.hid (end_kept x hx)
  have h3 := Lib.hid (kept_twice x)
  have e2 : x.st ≤ endS x := ends_lo x.st x.du hx.2.2.2.2.1
  have e4 : 0 ≤ clampS x.du 0 4611686018427387904 := by unfold clampS; omega
  have e5 : clampS x.du 0 4611686018427387904 ≤ 4611686018427387904 := by unfold clampS; omega
  clear hx
  have e8 : (clampS x.du 0 4611686018427387904 == x.du) = true := by rw [beq_iff_eq]; unfold clampS; omega
  have e9 : decide (x.du < 0) = false := by simp; omega
  have e10 : decide (4611686018427387904 < x.du) = false := by simp; omega
  go_enter Try.func8, Try.ntmps8
  go_wp2_with (first
    | (go_at_call 24; refine (sat_Kept x _).mono ?_; rintro e w1 ⟨rfl, hb1⟩))
  rw [World.size_alloc] at hb1
  have hx := fun (u : Later (w1.heap.size + 1) (w1.alloc (.cells x.kept.cells 29))) j => (later_old u (b := w.heap.size) (by have := hb1.size; simp at this; omega) j).trans ((hb1.cell (p := ⟨w.heap.size, j, none⟩) (by simp)).trans (cell_of_row _ _ _ x.cells 29 _ (heap_alloc_new w _)))
  have hy := fun (u : Later (w1.heap.size + 1) (w1.alloc (.cells x.kept.cells 29))) j => later_row u j
  unfold Sp.cells Sp.kept at hx hy
  simp only [List.append_eq, List.cons_append, List.nil_append]
  refine wp_region_later (w1.heap.size + 1) (by kernel_rfl) (by kernel_rfl) ?_
  repeat (go_big_quiet_step ((first
    | (go_at_call 26; with_reducible exact later_of _ (by simp) (h1.out _))
    | (go_at_call 26; with_reducible exact later_of _ (by simp) (h2.out _))
    | (go_at_call 24; with_reducible exact later_of _ (by simp) (h3.out _))
    | (go_at_call 28; exact later_of _ (by simp) (law03_awake _)))))
  refine wpQuiet_nil ?_
  intro _ hw'
  obtain ⟨u, hw''⟩ := hw'
  subst hw''
  go_wp2
  go_ret
  exact ⟨rfl, (((Below.refl _ w).alloc (Nat.le_refl _) _).trans (hb1.mono (by omega))).trans ((((Below.refl _ w1).alloc (Nat.le_refl _) _).trans (u.h.mono (by omega))).mono (by have := hb1.size; simp at this; omega))⟩
theorem law03_SatEnds (x : Sp) (hx : x.Ok) (w : World) :
    Calls Try.prog 8 #[.agg #[.int .i64 x.tr, .int .i64 x.id, .int .i64 x.pa, .int .i64 x.rv, .string x.sv, .string x.op, .int .i64 x.st, .int .i64 x.du, .bool x.gn]] w fun e w' => e = .returned (.bool true) ∧ Below w.heap.size w w' := by
  rcases Int.lt_or_le x.du 0 with h | h
  · exact ends1 x hx h w
  · rcases Int.lt_or_le 4611686018427387904 x.du with h' | h'
    · exact ends2 x hx h' w
    · exact ends3 x hx h h' w
end Go.Proofs.Ytjiepgajjfnnkaa
