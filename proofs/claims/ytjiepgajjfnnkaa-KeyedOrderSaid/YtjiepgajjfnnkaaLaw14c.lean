/- The statements of layer 14 (keyed): the walk of KeyedOrder. -/
import Derived.Test.YtjiepgajjfnnkaaLaw14b
namespace Go.Proofs.Ytjiepgajjfnnkaa
open Go.ChangeShapes Go.WideShapes Go.ChangeAt Go.RowKit Go.Deep BigP

set_option maxHeartbeats 1000000 in
theorem order1 (a b : Sp) (n : Int × Int) (ha : a.Ok) (hb : b.Ok) (h1 : I64 n.1) (h2 : I64 n.2) (hn : n.1 < n.2) (w : World) :
    Calls Try.prog 10 #[.agg #[.int .i64 a.tr, .int .i64 a.id, .int .i64 a.pa, .int .i64 a.rv, .string a.sv, .string a.op, .int .i64 a.st, .int .i64 a.du, .bool a.gn], .agg #[.int .i64 b.tr, .int .i64 b.id, .int .i64 b.pa, .int .i64 b.rv, .string b.sv, .string b.op, .int .i64 b.st, .int .i64 b.du, .bool b.gn], .agg #[.int .i64 n.1, .int .i64 n.2]] w fun e w' => e = .returned (.bool true) ∧ Below w.heap.size w w' := by
  have k1 := Lib.hid (show ∀ w : World, Calls Try.prog 38 #[.agg #[.int .i64 a.tr, .int .i64 a.id, .int .i64 a.pa, .int .i64 a.rv, .string a.sv, .string a.op, .int .i64 a.st, .int .i64 a.du, .bool a.gn]] w fun e w' => e = .returned (.string (kOf a)) ∧ Below w.heap.size w w' from keyed_Span a ha)
  have k2 := Lib.hid (show ∀ w : World, Calls Try.prog 38 #[.agg #[.int .i64 b.tr, .int .i64 b.id, .int .i64 b.pa, .int .i64 b.rv, .string b.sv, .string b.op, .int .i64 b.st, .int .i64 b.du, .bool b.gn]] w fun e w' => e = .returned (.string (kOf b)) ∧ Below w.heap.size w w' from keyed_Span b hb)
  have k3 := Lib.hid (show ∀ w : World, Calls Try.prog 36 #[.int .i64 n.1, .string (kOf a)] w fun e w' => e = .returned (.string (eOf n.1 a)) ∧ Below w.heap.size w w' from keyed_End n.1 (kOf a) h1 (by rw [kOf_size]; omega))
  have k4 := Lib.hid (show ∀ w : World, Calls Try.prog 36 #[.int .i64 n.2, .string (kOf b)] w fun e w' => e = .returned (.string (eOf n.2 b)) ∧ Below w.heap.size w w' from keyed_End n.2 (kOf b) h2 (by rw [kOf_size]; omega))
  have f1 := key_less a b ha hb
  have f2 := key_eq a b ha hb
  have f3 := end_less1 n.1 n.2 a b h1 h2 hn
  have f4 := end_eq1 n.1 n.2 a b h1 h2 hn
  clear ha hb h1 h2
  go_enter Try.func10, Try.ntmps10
  go_wp2
  have hx := fun u : Later (w.heap.size + 3) _ => later_at (alloc3_0 w (.cells a.cells 29) (.cells b.cells 29) (.cells #[.int .i64 n.1, .int .i64 n.2] 45)) (by omega) u
  have hy := fun u : Later (w.heap.size + 3) _ => later_at (alloc3_1 w (.cells a.cells 29) (.cells b.cells 29) (.cells #[.int .i64 n.1, .int .i64 n.2] 45)) (by omega) u
  have hz := fun u : Later (w.heap.size + 3) _ => later_at (alloc3_2 w (.cells a.cells 29) (.cells b.cells 29) (.cells #[.int .i64 n.1, .int .i64 n.2] 45)) (by omega) u
  have hbw : Below w.heap.size w (((w.alloc (.cells a.cells 29)).alloc (.cells b.cells 29)).alloc (.cells #[.int .i64 n.1, .int .i64 n.2] 45)) := by (repeat (first | assumption | exact Below.refl _ _ | refine below_step (by assumption) ?_ | refine below_alloc' _ ?_ | refine below_drewN ?_ _ | refine Below.drew ?_))
  have hB : w.heap.size + 3 ≤ (((w.alloc (.cells a.cells 29)).alloc (.cells b.cells 29)).alloc (.cells #[.int .i64 n.1, .int .i64 n.2] 45)).heap.size := by simp
  unfold Sp.cells at hx hy hz hbw hB
  generalize hW : (((w.alloc (.cells #[.int .i64 a.tr, .int .i64 a.id, .int .i64 a.pa, .int .i64 a.rv, .string a.sv, .string a.op, .int .i64 a.st, .int .i64 a.du, .bool a.gn] 29)).alloc (.cells #[.int .i64 b.tr, .int .i64 b.id, .int .i64 b.pa, .int .i64 b.rv, .string b.sv, .string b.op, .int .i64 b.st, .int .i64 b.du, .bool b.gn] 29)).alloc (.cells #[.int .i64 n.1, .int .i64 n.2] 45)) = W0 at hx hy hz hbw hB ⊢
  clear hW
  obtain ⟨u, hu⟩ : ∃ u : Later (w.heap.size + 3) W0, W0 = u.w := ⟨⟨W0, Below.refl _ _⟩, rfl⟩
  have HB := Lib.hid hB
  clear hB
  rw [hu]
  clear hu
  refine wp_region_at u (by kernel_rfl) (by kernel_rfl) ?_
  repeat (go_big_quiet_step ((first
    | (go_at_call 38; with_reducible exact later_of _ HB.out (k1.out _))
    | (go_at_call 38; with_reducible exact later_of _ HB.out (k2.out _)))))
  refine wpQuiet_nil ?_; intro _ hw'; obtain ⟨u, hw''⟩ := hw'; subst hw''
  go_wp2_with (first
    | (go_at_call 39; with_reducible refine (later_of _ HB.out (ref_Before a b _)).mono ?_; rintro e w1 ⟨rfl, u, rfl⟩)
    | (go_at_call 40; with_reducible refine (later_of _ HB.out (ref_One a b _)).mono ?_; rintro e w1 ⟨rfl, u, rfl⟩))
  refine wp_region_at u (by kernel_rfl) (by kernel_rfl) ?_
  repeat (go_big_quiet_step ((first
    | (go_at_call 36; with_reducible exact later_of _ HB.out (k3.out _))
    | (go_at_call 36; with_reducible exact later_of _ HB.out (k4.out _)))))
  refine wpQuiet_nil ?_; intro _ hw'; obtain ⟨u, hw''⟩ := hw'; subst hw''
  go_wp2_with (go_at_call 29; with_reducible refine (later_of _ HB.out (law14_awake _)).mono ?_; rintro e w1 ⟨rfl, u, rfl⟩)
  go_ret
  exact ⟨rfl, below_of_later hbw (by omega) u⟩

set_option maxHeartbeats 1000000 in
theorem order2 (a b : Sp) (m : Int) (ha : a.Ok) (hb : b.Ok) (h1 : I64 m) (w : World) :
    Calls Try.prog 10 #[.agg #[.int .i64 a.tr, .int .i64 a.id, .int .i64 a.pa, .int .i64 a.rv, .string a.sv, .string a.op, .int .i64 a.st, .int .i64 a.du, .bool a.gn], .agg #[.int .i64 b.tr, .int .i64 b.id, .int .i64 b.pa, .int .i64 b.rv, .string b.sv, .string b.op, .int .i64 b.st, .int .i64 b.du, .bool b.gn], .agg #[.int .i64 m, .int .i64 m]] w fun e w' => e = .returned (.bool true) ∧ Below w.heap.size w w' := by
  have k1 := Lib.hid (show ∀ w : World, Calls Try.prog 38 #[.agg #[.int .i64 a.tr, .int .i64 a.id, .int .i64 a.pa, .int .i64 a.rv, .string a.sv, .string a.op, .int .i64 a.st, .int .i64 a.du, .bool a.gn]] w fun e w' => e = .returned (.string (kOf a)) ∧ Below w.heap.size w w' from keyed_Span a ha)
  have k2 := Lib.hid (show ∀ w : World, Calls Try.prog 38 #[.agg #[.int .i64 b.tr, .int .i64 b.id, .int .i64 b.pa, .int .i64 b.rv, .string b.sv, .string b.op, .int .i64 b.st, .int .i64 b.du, .bool b.gn]] w fun e w' => e = .returned (.string (kOf b)) ∧ Below w.heap.size w w' from keyed_Span b hb)
  have k3 := Lib.hid (show ∀ w : World, Calls Try.prog 36 #[.int .i64 m, .string (kOf a)] w fun e w' => e = .returned (.string (eOf m a)) ∧ Below w.heap.size w w' from keyed_End m (kOf a) h1 (by rw [kOf_size]; omega))
  have k4 := Lib.hid (show ∀ w : World, Calls Try.prog 36 #[.int .i64 m, .string (kOf b)] w fun e w' => e = .returned (.string (eOf m b)) ∧ Below w.heap.size w w' from keyed_End m (kOf b) h1 (by rw [kOf_size]; omega))
  have f1 := key_less a b ha hb
  have f2 := key_eq a b ha hb
  have f3 := end_less2 m m a b h1 h1 rfl
  have f4 := end_eq2 m m a b h1 h1 rfl
  clear ha hb h1
  go_enter Try.func10, Try.ntmps10
  go_wp2
  have hx := fun u : Later (w.heap.size + 3) _ => later_at (alloc3_0 w (.cells a.cells 29) (.cells b.cells 29) (.cells #[.int .i64 m, .int .i64 m] 45)) (by omega) u
  have hy := fun u : Later (w.heap.size + 3) _ => later_at (alloc3_1 w (.cells a.cells 29) (.cells b.cells 29) (.cells #[.int .i64 m, .int .i64 m] 45)) (by omega) u
  have hz := fun u : Later (w.heap.size + 3) _ => later_at (alloc3_2 w (.cells a.cells 29) (.cells b.cells 29) (.cells #[.int .i64 m, .int .i64 m] 45)) (by omega) u
  have hbw : Below w.heap.size w (((w.alloc (.cells a.cells 29)).alloc (.cells b.cells 29)).alloc (.cells #[.int .i64 m, .int .i64 m] 45)) := by (repeat (first | assumption | exact Below.refl _ _ | refine below_step (by assumption) ?_ | refine below_alloc' _ ?_ | refine below_drewN ?_ _ | refine Below.drew ?_))
  have hB : w.heap.size + 3 ≤ (((w.alloc (.cells a.cells 29)).alloc (.cells b.cells 29)).alloc (.cells #[.int .i64 m, .int .i64 m] 45)).heap.size := by simp
  unfold Sp.cells at hx hy hz hbw hB
  generalize hW : (((w.alloc (.cells #[.int .i64 a.tr, .int .i64 a.id, .int .i64 a.pa, .int .i64 a.rv, .string a.sv, .string a.op, .int .i64 a.st, .int .i64 a.du, .bool a.gn] 29)).alloc (.cells #[.int .i64 b.tr, .int .i64 b.id, .int .i64 b.pa, .int .i64 b.rv, .string b.sv, .string b.op, .int .i64 b.st, .int .i64 b.du, .bool b.gn] 29)).alloc (.cells #[.int .i64 m, .int .i64 m] 45)) = W0 at hx hy hz hbw hB ⊢
  clear hW
  obtain ⟨u, hu⟩ : ∃ u : Later (w.heap.size + 3) W0, W0 = u.w := ⟨⟨W0, Below.refl _ _⟩, rfl⟩
  have HB := Lib.hid hB
  clear hB
  rw [hu]
  clear hu
  refine wp_region_at u (by kernel_rfl) (by kernel_rfl) ?_
  repeat (go_big_quiet_step ((first
    | (go_at_call 38; with_reducible exact later_of _ HB.out (k1.out _))
    | (go_at_call 38; with_reducible exact later_of _ HB.out (k2.out _)))))
  refine wpQuiet_nil ?_; intro _ hw'; obtain ⟨u, hw''⟩ := hw'; subst hw''
  go_wp2_with (first
    | (go_at_call 39; with_reducible refine (later_of _ HB.out (ref_Before a b _)).mono ?_; rintro e w1 ⟨rfl, u, rfl⟩)
    | (go_at_call 40; with_reducible refine (later_of _ HB.out (ref_One a b _)).mono ?_; rintro e w1 ⟨rfl, u, rfl⟩))
  refine wp_region_at u (by kernel_rfl) (by kernel_rfl) ?_
  repeat (go_big_quiet_step ((first
    | (go_at_call 36; with_reducible exact later_of _ HB.out (k3.out _))
    | (go_at_call 36; with_reducible exact later_of _ HB.out (k4.out _)))))
  refine wpQuiet_nil ?_; intro _ hw'; obtain ⟨u, hw''⟩ := hw'; subst hw''
  go_wp2_with (go_at_call 29; with_reducible refine (later_of _ HB.out (law14_awake _)).mono ?_; rintro e w1 ⟨rfl, u, rfl⟩)
  go_ret
  exact ⟨rfl, below_of_later hbw (by omega) u⟩

set_option maxHeartbeats 1000000 in
theorem order3 (a b : Sp) (n : Int × Int) (ha : a.Ok) (hb : b.Ok) (h1 : I64 n.1) (h2 : I64 n.2) (hn : n.2 < n.1) (w : World) :
    Calls Try.prog 10 #[.agg #[.int .i64 a.tr, .int .i64 a.id, .int .i64 a.pa, .int .i64 a.rv, .string a.sv, .string a.op, .int .i64 a.st, .int .i64 a.du, .bool a.gn], .agg #[.int .i64 b.tr, .int .i64 b.id, .int .i64 b.pa, .int .i64 b.rv, .string b.sv, .string b.op, .int .i64 b.st, .int .i64 b.du, .bool b.gn], .agg #[.int .i64 n.1, .int .i64 n.2]] w fun e w' => e = .returned (.bool true) ∧ Below w.heap.size w w' := by
  have k1 := Lib.hid (show ∀ w : World, Calls Try.prog 38 #[.agg #[.int .i64 a.tr, .int .i64 a.id, .int .i64 a.pa, .int .i64 a.rv, .string a.sv, .string a.op, .int .i64 a.st, .int .i64 a.du, .bool a.gn]] w fun e w' => e = .returned (.string (kOf a)) ∧ Below w.heap.size w w' from keyed_Span a ha)
  have k2 := Lib.hid (show ∀ w : World, Calls Try.prog 38 #[.agg #[.int .i64 b.tr, .int .i64 b.id, .int .i64 b.pa, .int .i64 b.rv, .string b.sv, .string b.op, .int .i64 b.st, .int .i64 b.du, .bool b.gn]] w fun e w' => e = .returned (.string (kOf b)) ∧ Below w.heap.size w w' from keyed_Span b hb)
  have k3 := Lib.hid (show ∀ w : World, Calls Try.prog 36 #[.int .i64 n.1, .string (kOf a)] w fun e w' => e = .returned (.string (eOf n.1 a)) ∧ Below w.heap.size w w' from keyed_End n.1 (kOf a) h1 (by rw [kOf_size]; omega))
  have k4 := Lib.hid (show ∀ w : World, Calls Try.prog 36 #[.int .i64 n.2, .string (kOf b)] w fun e w' => e = .returned (.string (eOf n.2 b)) ∧ Below w.heap.size w w' from keyed_End n.2 (kOf b) h2 (by rw [kOf_size]; omega))
  have f1 := key_less a b ha hb
  have f2 := key_eq a b ha hb
  have f3 := end_less3 n.1 n.2 a b h1 h2 hn
  have f4 := end_eq3 n.1 n.2 a b h1 h2 hn
  have g1 : decide (n.1 < n.2) = false := by simp; omega
  have g2 : ¬ n.1 < n.2 := by omega
  clear ha hb h1 h2
  go_enter Try.func10, Try.ntmps10
  go_wp2
  have hx := fun u : Later (w.heap.size + 3) _ => later_at (alloc3_0 w (.cells a.cells 29) (.cells b.cells 29) (.cells #[.int .i64 n.1, .int .i64 n.2] 45)) (by omega) u
  have hy := fun u : Later (w.heap.size + 3) _ => later_at (alloc3_1 w (.cells a.cells 29) (.cells b.cells 29) (.cells #[.int .i64 n.1, .int .i64 n.2] 45)) (by omega) u
  have hz := fun u : Later (w.heap.size + 3) _ => later_at (alloc3_2 w (.cells a.cells 29) (.cells b.cells 29) (.cells #[.int .i64 n.1, .int .i64 n.2] 45)) (by omega) u
  have hbw : Below w.heap.size w (((w.alloc (.cells a.cells 29)).alloc (.cells b.cells 29)).alloc (.cells #[.int .i64 n.1, .int .i64 n.2] 45)) := by (repeat (first | assumption | exact Below.refl _ _ | refine below_step (by assumption) ?_ | refine below_alloc' _ ?_ | refine below_drewN ?_ _ | refine Below.drew ?_))
  have hB : w.heap.size + 3 ≤ (((w.alloc (.cells a.cells 29)).alloc (.cells b.cells 29)).alloc (.cells #[.int .i64 n.1, .int .i64 n.2] 45)).heap.size := by simp
  unfold Sp.cells at hx hy hz hbw hB
  generalize hW : (((w.alloc (.cells #[.int .i64 a.tr, .int .i64 a.id, .int .i64 a.pa, .int .i64 a.rv, .string a.sv, .string a.op, .int .i64 a.st, .int .i64 a.du, .bool a.gn] 29)).alloc (.cells #[.int .i64 b.tr, .int .i64 b.id, .int .i64 b.pa, .int .i64 b.rv, .string b.sv, .string b.op, .int .i64 b.st, .int .i64 b.du, .bool b.gn] 29)).alloc (.cells #[.int .i64 n.1, .int .i64 n.2] 45)) = W0 at hx hy hz hbw hB ⊢
  clear hW
  obtain ⟨u, hu⟩ : ∃ u : Later (w.heap.size + 3) W0, W0 = u.w := ⟨⟨W0, Below.refl _ _⟩, rfl⟩
  have HB := Lib.hid hB
  clear hB
  rw [hu]
  clear hu
  refine wp_region_at u (by kernel_rfl) (by kernel_rfl) ?_
  repeat (go_big_quiet_step ((first
    | (go_at_call 38; with_reducible exact later_of _ HB.out (k1.out _))
    | (go_at_call 38; with_reducible exact later_of _ HB.out (k2.out _)))))
  refine wpQuiet_nil ?_; intro _ hw'; obtain ⟨u, hw''⟩ := hw'; subst hw''
  go_wp2_with (first
    | (go_at_call 39; with_reducible refine (later_of _ HB.out (ref_Before a b _)).mono ?_; rintro e w1 ⟨rfl, u, rfl⟩)
    | (go_at_call 40; with_reducible refine (later_of _ HB.out (ref_One a b _)).mono ?_; rintro e w1 ⟨rfl, u, rfl⟩))
  refine wp_region_at u (by kernel_rfl) (by kernel_rfl) ?_
  repeat (go_big_quiet_step ((first
    | (go_at_call 36; with_reducible exact later_of _ HB.out (k3.out _))
    | (go_at_call 36; with_reducible exact later_of _ HB.out (k4.out _)))))
  refine wpQuiet_nil ?_; intro _ hw'; obtain ⟨u, hw''⟩ := hw'; subst hw''
  go_wp2_with (go_at_call 29; with_reducible refine (later_of _ HB.out (law14_awake _)).mono ?_; rintro e w1 ⟨rfl, u, rfl⟩)
  go_ret
  exact ⟨rfl, below_of_later hbw (by omega) u⟩

theorem law14_KeyedOrder (a b : Sp) (n : Int × Int) (ha : a.Ok) (hb : b.Ok) (h1 : I64 n.1) (h2 : I64 n.2) (w : World) :
    Calls Try.prog 10 #[.agg #[.int .i64 a.tr, .int .i64 a.id, .int .i64 a.pa, .int .i64 a.rv, .string a.sv, .string a.op, .int .i64 a.st, .int .i64 a.du, .bool a.gn], .agg #[.int .i64 b.tr, .int .i64 b.id, .int .i64 b.pa, .int .i64 b.rv, .string b.sv, .string b.op, .int .i64 b.st, .int .i64 b.du, .bool b.gn], .agg #[.int .i64 n.1, .int .i64 n.2]] w fun e w' => e = .returned (.bool true) ∧ Below w.heap.size w w' := by
  rcases Int.lt_trichotomy n.1 n.2 with h | h | h
  · exact order1 a b n ha hb h1 h2 h w
  · obtain ⟨m, m'⟩ := n
    obtain rfl : m = m' := h
    exact order2 a b m ha hb h1 w
  · exact order3 a b n ha hb h1 h2 h w
end Go.Proofs.Ytjiepgajjfnnkaa
