/- The statements of layer 10 (rank): RankOrder, whole. -/
import Derived.Test.YtkhnmdmpkedifaaLaw10b
namespace Go.Proofs.Ytkhnmdmpkedifaa
open Go.ChangeShapes Go.WideShapes Go.ChangeAt Go.RowKit Go.Deep

set_option maxRecDepth 100000 in
set_option maxHeartbeats 2000000 in
theorem law10_RankOrder_wide (x y z : Sp) (hx : x.Ok) (hy : y.Ok) (hz : z.Ok) (h : ¬ (x.few ∧ y.few ∧ z.few)) (w : World) :
    Calls Try.prog 4 #[.agg #[.int .i64 x.tr, .int .i64 x.id, .int .i64 x.pa, .int .i64 x.rv, .string x.sv, .string x.op, .int .i64 x.st, .int .i64 x.du, .bool x.gn], .agg #[.int .i64 y.tr, .int .i64 y.id, .int .i64 y.pa, .int .i64 y.rv, .string y.sv, .string y.op, .int .i64 y.st, .int .i64 y.du, .bool y.gn], .agg #[.int .i64 z.tr, .int .i64 z.id, .int .i64 z.pa, .int .i64 z.rv, .string z.sv, .string z.op, .int .i64 z.st, .int .i64 z.du, .bool z.gn]] w fun e w' => e = .returned (.bool true) ∧ Below w.heap.size w w' := by
  have K2 := Lib.hid (alloc3_1 w (.cells #[.int .i64 x.tr, .int .i64 x.id, .int .i64 x.pa, .int .i64 x.rv, .string x.sv, .string x.op, .int .i64 x.st, .int .i64 x.du, .bool x.gn] 23) (.cells #[.int .i64 y.tr, .int .i64 y.id, .int .i64 y.pa, .int .i64 y.rv, .string y.sv, .string y.op, .int .i64 y.st, .int .i64 y.du, .bool y.gn] 23) (.cells #[.int .i64 z.tr, .int .i64 z.id, .int .i64 z.pa, .int .i64 z.rv, .string z.sv, .string z.op, .int .i64 z.st, .int .i64 z.du, .bool z.gn] 23))
  have K3 := Lib.hid (alloc3_2 w (.cells #[.int .i64 x.tr, .int .i64 x.id, .int .i64 x.pa, .int .i64 x.rv, .string x.sv, .string x.op, .int .i64 x.st, .int .i64 x.du, .bool x.gn] 23) (.cells #[.int .i64 y.tr, .int .i64 y.id, .int .i64 y.pa, .int .i64 y.rv, .string y.sv, .string y.op, .int .i64 y.st, .int .i64 y.du, .bool y.gn] 23) (.cells #[.int .i64 z.tr, .int .i64 z.id, .int .i64 z.pa, .int .i64 z.rv, .string z.sv, .string z.op, .int .i64 z.st, .int .i64 z.du, .bool z.gn] 23))
  by_cases h1 : x.few
  · have HS1 := Lib.hid (ref9_Short_yes x h1)
    by_cases h2 : y.few
    · have HS2 := Lib.hid (ref9_Short_yes y h2)
      have HS3 := Lib.hid (ref9_Short_no z hz (fun h3 => h ⟨h1, h2, h3⟩))
      clear h h1 h2 hx hy hz
      go_enter Try.func4, Try.ntmps4
      go_wp2_with (first
        | (go_at_call 15; (with_reducible refine (HS1.out _).mono ?_); rintro e w1 ⟨rfl, b1⟩; have m1 := kept K2.out b1; have n1 := kept K3.out b1; have g1 := box_cells m1)
        | (go_at_call 15; (with_reducible refine (HS2.out _).mono ?_); rintro e w2 ⟨rfl, b2⟩; have n2 := kept n1 b2; have h2 := box_cells n2)
        | (go_at_call 15; (with_reducible refine (HS3.out _).mono ?_); rintro e w3 ⟨rfl, b3⟩)
        | (go_at_call 17; (with_reducible refine (law10_awake _).mono ?_); rintro e w9 ⟨rfl, b9⟩))
      go_ret
      exact ⟨rfl, by (repeat (first | assumption | exact Below.refl _ _ | refine below_step (by assumption) ?_ | refine below_alloc' _ ?_ | refine below_drewN ?_ _ | refine Below.drew ?_))⟩
    · have HS2 := Lib.hid (ref9_Short_no y hy h2)
      clear h h1 h2 hx hy hz
      go_enter Try.func4, Try.ntmps4
      go_wp2_with (first
        | (go_at_call 15; (with_reducible refine (HS1.out _).mono ?_); rintro e w1 ⟨rfl, b1⟩; have m1 := kept K2.out b1; have n1 := kept K3.out b1; have g1 := box_cells m1)
        | (go_at_call 15; (with_reducible refine (HS2.out _).mono ?_); rintro e w2 ⟨rfl, b2⟩)
        | (go_at_call 17; (with_reducible refine (law10_awake _).mono ?_); rintro e w9 ⟨rfl, b9⟩))
      go_ret
      exact ⟨rfl, by (repeat (first | assumption | exact Below.refl _ _ | refine below_step (by assumption) ?_ | refine below_alloc' _ ?_ | refine below_drewN ?_ _ | refine Below.drew ?_))⟩
  · have HS1 := Lib.hid (ref9_Short_no x hx h1)
    clear h h1 hx hy hz
    go_enter Try.func4, Try.ntmps4
    go_wp2_with (first
      | (go_at_call 15; (with_reducible refine (HS1.out _).mono ?_); rintro e w1 ⟨rfl, b1⟩)
      | (go_at_call 17; (with_reducible refine (law10_awake _).mono ?_); rintro e w9 ⟨rfl, b9⟩))
    go_ret
    exact ⟨rfl, by (repeat (first | assumption | exact Below.refl _ _ | refine below_step (by assumption) ?_ | refine below_alloc' _ ?_ | refine below_drewN ?_ _ | refine Below.drew ?_))⟩
theorem law10_RankOrder (x y z : Sp) (hx : x.Ok) (hy : y.Ok) (hz : z.Ok) (w : World) :
    Calls Try.prog 4 #[.agg #[.int .i64 x.tr, .int .i64 x.id, .int .i64 x.pa, .int .i64 x.rv, .string x.sv, .string x.op, .int .i64 x.st, .int .i64 x.du, .bool x.gn], .agg #[.int .i64 y.tr, .int .i64 y.id, .int .i64 y.pa, .int .i64 y.rv, .string y.sv, .string y.op, .int .i64 y.st, .int .i64 y.du, .bool y.gn], .agg #[.int .i64 z.tr, .int .i64 z.id, .int .i64 z.pa, .int .i64 z.rv, .string z.sv, .string z.op, .int .i64 z.st, .int .i64 z.du, .bool z.gn]] w fun e w' => e = .returned (.bool true) ∧ Below w.heap.size w w' := by
  by_cases h : x.few ∧ y.few ∧ z.few
  · exact law10_RankOrder_few x y z hx hy hz h.1 h.2.1 h.2.2 w
  · exact law10_RankOrder_wide x y z hx hy hz h w
