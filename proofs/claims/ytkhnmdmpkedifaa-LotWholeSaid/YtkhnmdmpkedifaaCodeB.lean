/- Walks of layer 9 (code): may a record be? -/
import Derived.Test.YtkhnmdmpkedifaaCode
import Derived.Test.YtkhnmdmpkedifaaOpen
namespace Go.Proofs.Ytkhnmdmpkedifaa
open Go.ChangeShapes Go.WideShapes Go.ChangeAt Go.RowKit Go.Deep

/-- a record, its texts as lists -/
def spP (x : Sp) : CodeP.Sp := ⟨x.tr, x.id, x.pa, x.rv, x.sv.data.toList, x.op.data.toList, x.st, x.du, x.gn⟩
theorem may_no (x : Sp) (h : ¬ (1 ≤ x.tr ∧ 1 ≤ x.id ∧ 0 ≤ x.pa ∧ 0 ≤ x.rv ∧ CodeP.named x.sv.data.toList = true ∧ CodeP.named x.op.data.toList = true ∧ -4611686018427387904 ≤ x.st ∧ x.st ≤ 4611686018427387903)) : CodeP.may (spP x) = 1 := by
  unfold CodeP.may
  rw [if_neg]
  intro hm
  unfold CodeP.mayB spP at hm
  simp only [Bool.and_eq_true, decide_eq_true_eq] at hm
  obtain ⟨⟨⟨⟨⟨⟨⟨h1, h2⟩, h3⟩, h4⟩, h5⟩, h6⟩, h7⟩, h8⟩ := hm
  exact h ⟨h1, h2, h3, h4, h5, h6, h7, h8⟩
theorem may_yes (x : Sp) (h : 1 ≤ x.tr ∧ 1 ≤ x.id ∧ 0 ≤ x.pa ∧ 0 ≤ x.rv ∧ CodeP.named x.sv.data.toList = true ∧ CodeP.named x.op.data.toList = true ∧ -4611686018427387904 ≤ x.st ∧ x.st ≤ 4611686018427387903) : CodeP.may (spP x) = 0 := by
  unfold CodeP.may
  rw [if_pos]
  unfold CodeP.mayB spP
  simp only [Bool.and_eq_true, decide_eq_true_eq]
  obtain ⟨h1, h2, h3, h4, h5, h6, h7, h8⟩ := h
  exact ⟨⟨⟨⟨⟨⟨⟨h1, h2⟩, h3⟩, h4⟩, h5⟩, h6⟩, h7⟩, h8⟩
theorem cell_later9 {w w' : World} {a : Addr} {u : Value} (h : w.cell? a = some u) (hb : Below w.heap.size w w') : w'.cell? a = some u := (hb.cell (World.block_lt_of_cell? w a h)).trans h
theorem later9 {w W : World} {t : TypeId} {cs : Array Value} (hb : Below (w.alloc (.cells cs t)).heap.size (w.alloc (.cells cs t)) W) : ∀ j, W.cell? ⟨w.heap.size, j, none⟩ = cs[j]? := fun j => by
  have hk : W.heap[w.heap.size]? = some (.cells cs t (0, 0)) := (hb.block w.heap.size (by rw [World.size_alloc]; omega)).trans (heap_alloc_new w _)
  rw [cell_of_row _ _ _ _ t _ hk]

set_option maxRecDepth 100000 in
set_option maxHeartbeats 1000000 in
theorem code_May (x : Sp) (hx : x.Ok) (w : World) :
    Calls Try.prog 41 #[.agg #[.int .i64 x.tr, .int .i64 x.id, .int .i64 x.pa, .int .i64 x.rv, .string x.sv, .string x.op, .int .i64 x.st, .int .i64 x.du, .bool x.gn]] w fun e w' => e = .returned (.int .i64 (CodeP.may (spP x))) ∧ Below w.heap.size w w' := by
  have hs := code_named x.sv hx.2.2.2.2.2.2.1
  have ho := code_named x.op hx.2.2.2.2.2.2.2
  have hno := may_no x
  have hyes := may_yes x
  generalize CodeP.may (spP x) = m at hno hyes ⊢
  generalize CodeP.named x.sv.data.toList = b1 at hs hno hyes
  generalize CodeP.named x.op.data.toList = b2 at ho hno hyes
  obtain ⟨tr, id, pa, rv, sv, op, st, du, gn⟩ := x
  simp only at hs ho hno hyes ⊢
  have HS := Lib.hid hs
  have HO := Lib.hid ho
  have HNO := Lib.hid hno
  have HYES := Lib.hid hyes
  clear hs ho hno hyes hx
  by_cases c1 : 1 ≤ tr
  case neg =>
    obtain rfl : m = 1 := HNO.out (fun h => c1 h.1)
    go_enter Try.func41, Try.ntmps41
    go_wp2_with (first
      | (go_at_call 76; with_reducible refine (HS.out _).mono ?_; rintro e w1 ⟨rfl, hb1⟩; have bx := later9 hb1)
      | (go_at_call 76; with_reducible refine (HO.out _).mono ?_; rintro e w2 ⟨rfl, hb2⟩; have b6 := cell_later9 (show w1.cell? ⟨w.heap.size, 6, none⟩ = some (.int .i64 st) by simpa using bx 6) hb2))
    go_ret
    exact ⟨rfl, by (repeat (first | assumption | exact Below.refl _ _ | refine below_step (by assumption) ?_ | refine below_alloc' _ ?_ | refine below_drewN ?_ _ | refine Below.drew ?_))⟩
  by_cases c2 : 1 ≤ id
  case neg =>
    obtain rfl : m = 1 := HNO.out (fun h => c2 h.2.1)
    go_enter Try.func41, Try.ntmps41
    go_wp2_with (first
      | (go_at_call 76; with_reducible refine (HS.out _).mono ?_; rintro e w1 ⟨rfl, hb1⟩; have bx := later9 hb1)
      | (go_at_call 76; with_reducible refine (HO.out _).mono ?_; rintro e w2 ⟨rfl, hb2⟩; have b6 := cell_later9 (show w1.cell? ⟨w.heap.size, 6, none⟩ = some (.int .i64 st) by simpa using bx 6) hb2))
    go_ret
    exact ⟨rfl, by (repeat (first | assumption | exact Below.refl _ _ | refine below_step (by assumption) ?_ | refine below_alloc' _ ?_ | refine below_drewN ?_ _ | refine Below.drew ?_))⟩
  by_cases c3 : 0 ≤ pa
  case neg =>
    obtain rfl : m = 1 := HNO.out (fun h => c3 h.2.2.1)
    go_enter Try.func41, Try.ntmps41
    go_wp2_with (first
      | (go_at_call 76; with_reducible refine (HS.out _).mono ?_; rintro e w1 ⟨rfl, hb1⟩; have bx := later9 hb1)
      | (go_at_call 76; with_reducible refine (HO.out _).mono ?_; rintro e w2 ⟨rfl, hb2⟩; have b6 := cell_later9 (show w1.cell? ⟨w.heap.size, 6, none⟩ = some (.int .i64 st) by simpa using bx 6) hb2))
    go_ret
    exact ⟨rfl, by (repeat (first | assumption | exact Below.refl _ _ | refine below_step (by assumption) ?_ | refine below_alloc' _ ?_ | refine below_drewN ?_ _ | refine Below.drew ?_))⟩
  by_cases c4 : 0 ≤ rv
  case neg =>
    obtain rfl : m = 1 := HNO.out (fun h => c4 h.2.2.2.1)
    go_enter Try.func41, Try.ntmps41
    go_wp2_with (first
      | (go_at_call 76; with_reducible refine (HS.out _).mono ?_; rintro e w1 ⟨rfl, hb1⟩; have bx := later9 hb1)
      | (go_at_call 76; with_reducible refine (HO.out _).mono ?_; rintro e w2 ⟨rfl, hb2⟩; have b6 := cell_later9 (show w1.cell? ⟨w.heap.size, 6, none⟩ = some (.int .i64 st) by simpa using bx 6) hb2))
    go_ret
    exact ⟨rfl, by (repeat (first | assumption | exact Below.refl _ _ | refine below_step (by assumption) ?_ | refine below_alloc' _ ?_ | refine below_drewN ?_ _ | refine Below.drew ?_))⟩
  cases b1 with
  | false =>
    obtain rfl : m = 1 := HNO.out (by simp)
    go_enter Try.func41, Try.ntmps41
    go_wp2_with (first
      | (go_at_call 76; with_reducible refine (HS.out _).mono ?_; rintro e w1 ⟨rfl, hb1⟩; have bx := later9 hb1)
      | (go_at_call 76; with_reducible refine (HO.out _).mono ?_; rintro e w2 ⟨rfl, hb2⟩; have b6 := cell_later9 (show w1.cell? ⟨w.heap.size, 6, none⟩ = some (.int .i64 st) by simpa using bx 6) hb2))
    go_ret
    exact ⟨rfl, by (repeat (first | assumption | exact Below.refl _ _ | refine below_step (by assumption) ?_ | refine below_alloc' _ ?_ | refine below_drewN ?_ _ | refine Below.drew ?_))⟩
  | true =>
  cases b2 with
  | false =>
    obtain rfl : m = 1 := HNO.out (by simp)
    go_enter Try.func41, Try.ntmps41
    go_wp2_with (first
      | (go_at_call 76; with_reducible refine (HS.out _).mono ?_; rintro e w1 ⟨rfl, hb1⟩; have bx := later9 hb1)
      | (go_at_call 76; with_reducible refine (HO.out _).mono ?_; rintro e w2 ⟨rfl, hb2⟩; have b6 := cell_later9 (show w1.cell? ⟨w.heap.size, 6, none⟩ = some (.int .i64 st) by simpa using bx 6) hb2))
    go_ret
    exact ⟨rfl, by (repeat (first | assumption | exact Below.refl _ _ | refine below_step (by assumption) ?_ | refine below_alloc' _ ?_ | refine below_drewN ?_ _ | refine Below.drew ?_))⟩
  | true =>
  by_cases c7 : -4611686018427387904 ≤ st
  case neg =>
    obtain rfl : m = 1 := HNO.out (fun h => c7 h.2.2.2.2.2.2.1)
    go_enter Try.func41, Try.ntmps41
    go_wp2_with (first
      | (go_at_call 76; with_reducible refine (HS.out _).mono ?_; rintro e w1 ⟨rfl, hb1⟩; have bx := later9 hb1)
      | (go_at_call 76; with_reducible refine (HO.out _).mono ?_; rintro e w2 ⟨rfl, hb2⟩; have b6 := cell_later9 (show w1.cell? ⟨w.heap.size, 6, none⟩ = some (.int .i64 st) by simpa using bx 6) hb2))
    go_ret
    exact ⟨rfl, by (repeat (first | assumption | exact Below.refl _ _ | refine below_step (by assumption) ?_ | refine below_alloc' _ ?_ | refine below_drewN ?_ _ | refine Below.drew ?_))⟩
  by_cases c8 : st ≤ 4611686018427387903
  case neg =>
    obtain rfl : m = 1 := HNO.out (fun h => c8 h.2.2.2.2.2.2.2)
    go_enter Try.func41, Try.ntmps41
    go_wp2_with (first
      | (go_at_call 76; with_reducible refine (HS.out _).mono ?_; rintro e w1 ⟨rfl, hb1⟩; have bx := later9 hb1)
      | (go_at_call 76; with_reducible refine (HO.out _).mono ?_; rintro e w2 ⟨rfl, hb2⟩; have b6 := cell_later9 (show w1.cell? ⟨w.heap.size, 6, none⟩ = some (.int .i64 st) by simpa using bx 6) hb2))
    go_ret
    exact ⟨rfl, by (repeat (first | assumption | exact Below.refl _ _ | refine below_step (by assumption) ?_ | refine below_alloc' _ ?_ | refine below_drewN ?_ _ | refine Below.drew ?_))⟩
  obtain rfl : m = 0 := HYES.out ⟨c1, c2, c3, c4, rfl, rfl, c7, c8⟩
  go_enter Try.func41, Try.ntmps41
  go_wp2_with (first
    | (go_at_call 76; with_reducible refine (HS.out _).mono ?_; rintro e w1 ⟨rfl, hb1⟩; have bx := later9 hb1)
    | (go_at_call 76; with_reducible refine (HO.out _).mono ?_; rintro e w2 ⟨rfl, hb2⟩; have b6 := cell_later9 (show w1.cell? ⟨w.heap.size, 6, none⟩ = some (.int .i64 st) by simpa using bx 6) hb2))
  go_ret
  exact ⟨rfl, by (repeat (first | assumption | exact Below.refl _ _ | refine below_step (by assumption) ?_ | refine below_alloc' _ ?_ | refine below_drewN ?_ _ | refine Below.drew ?_))⟩

set_option maxRecDepth 100000 in
set_option maxHeartbeats 1000000 in
theorem ref9_May (x : Sp) (hx : x.Ok) (w : World) :
    Calls Try.prog 23 #[.agg #[.int .i64 x.tr, .int .i64 x.id, .int .i64 x.pa, .int .i64 x.rv, .string x.sv, .string x.op, .int .i64 x.st, .int .i64 x.du, .bool x.gn]] w fun e w' => e = .returned (.int .i64 (CodeP.may (spP x))) ∧ Below w.heap.size w w' := by
  have hs := ref9_name x.sv hx.2.2.2.2.2.2.1
  have ho := ref9_name x.op hx.2.2.2.2.2.2.2
  have hno := may_no x
  have hyes := may_yes x
  generalize CodeP.may (spP x) = m at hno hyes ⊢
  generalize CodeP.named x.sv.data.toList = b1 at hs hno hyes
  generalize CodeP.named x.op.data.toList = b2 at ho hno hyes
  obtain ⟨tr, id, pa, rv, sv, op, st, du, gn⟩ := x
  simp only at hs ho hno hyes ⊢
  have HS := Lib.hid hs
  have HO := Lib.hid ho
  have HNO := Lib.hid hno
  have HYES := Lib.hid hyes
  clear hs ho hno hyes hx
  by_cases c1 : 1 ≤ tr
  case neg =>
    obtain rfl : m = 1 := HNO.out (fun h => c1 h.1)
    go_enter Try.func23, Try.ntmps23
    go_wp2_with (first
      | (go_at_call 62; with_reducible refine (HS.out _).mono ?_; rintro e w1 ⟨rfl, hb1⟩; have bx := later9 hb1)
      | (go_at_call 62; with_reducible refine (HO.out _).mono ?_; rintro e w2 ⟨rfl, hb2⟩; have b6 := cell_later9 (show w1.cell? ⟨w.heap.size, 6, none⟩ = some (.int .i64 st) by simpa using bx 6) hb2))
    go_ret
    exact ⟨rfl, by (repeat (first | assumption | exact Below.refl _ _ | refine below_step (by assumption) ?_ | refine below_alloc' _ ?_ | refine below_drewN ?_ _ | refine Below.drew ?_))⟩
  by_cases c2 : 1 ≤ id
  case neg =>
    obtain rfl : m = 1 := HNO.out (fun h => c2 h.2.1)
    go_enter Try.func23, Try.ntmps23
    go_wp2_with (first
      | (go_at_call 62; with_reducible refine (HS.out _).mono ?_; rintro e w1 ⟨rfl, hb1⟩; have bx := later9 hb1)
      | (go_at_call 62; with_reducible refine (HO.out _).mono ?_; rintro e w2 ⟨rfl, hb2⟩; have b6 := cell_later9 (show w1.cell? ⟨w.heap.size, 6, none⟩ = some (.int .i64 st) by simpa using bx 6) hb2))
    go_ret
    exact ⟨rfl, by (repeat (first | assumption | exact Below.refl _ _ | refine below_step (by assumption) ?_ | refine below_alloc' _ ?_ | refine below_drewN ?_ _ | refine Below.drew ?_))⟩
  by_cases c3 : 0 ≤ pa
  case neg =>
    obtain rfl : m = 1 := HNO.out (fun h => c3 h.2.2.1)
    go_enter Try.func23, Try.ntmps23
    go_wp2_with (first
      | (go_at_call 62; with_reducible refine (HS.out _).mono ?_; rintro e w1 ⟨rfl, hb1⟩; have bx := later9 hb1)
      | (go_at_call 62; with_reducible refine (HO.out _).mono ?_; rintro e w2 ⟨rfl, hb2⟩; have b6 := cell_later9 (show w1.cell? ⟨w.heap.size, 6, none⟩ = some (.int .i64 st) by simpa using bx 6) hb2))
    go_ret
    exact ⟨rfl, by (repeat (first | assumption | exact Below.refl _ _ | refine below_step (by assumption) ?_ | refine below_alloc' _ ?_ | refine below_drewN ?_ _ | refine Below.drew ?_))⟩
  by_cases c4 : 0 ≤ rv
  case neg =>
    obtain rfl : m = 1 := HNO.out (fun h => c4 h.2.2.2.1)
    go_enter Try.func23, Try.ntmps23
    go_wp2_with (first
      | (go_at_call 62; with_reducible refine (HS.out _).mono ?_; rintro e w1 ⟨rfl, hb1⟩; have bx := later9 hb1)
      | (go_at_call 62; with_reducible refine (HO.out _).mono ?_; rintro e w2 ⟨rfl, hb2⟩; have b6 := cell_later9 (show w1.cell? ⟨w.heap.size, 6, none⟩ = some (.int .i64 st) by simpa using bx 6) hb2))
    go_ret
    exact ⟨rfl, by (repeat (first | assumption | exact Below.refl _ _ | refine below_step (by assumption) ?_ | refine below_alloc' _ ?_ | refine below_drewN ?_ _ | refine Below.drew ?_))⟩
  cases b1 with
  | false =>
    obtain rfl : m = 1 := HNO.out (by simp)
    go_enter Try.func23, Try.ntmps23
    go_wp2_with (first
      | (go_at_call 62; with_reducible refine (HS.out _).mono ?_; rintro e w1 ⟨rfl, hb1⟩; have bx := later9 hb1)
      | (go_at_call 62; with_reducible refine (HO.out _).mono ?_; rintro e w2 ⟨rfl, hb2⟩; have b6 := cell_later9 (show w1.cell? ⟨w.heap.size, 6, none⟩ = some (.int .i64 st) by simpa using bx 6) hb2))
    go_ret
    exact ⟨rfl, by (repeat (first | assumption | exact Below.refl _ _ | refine below_step (by assumption) ?_ | refine below_alloc' _ ?_ | refine below_drewN ?_ _ | refine Below.drew ?_))⟩
  | true =>
  cases b2 with
  | false =>
    obtain rfl : m = 1 := HNO.out (by simp)
    go_enter Try.func23, Try.ntmps23
    go_wp2_with (first
      | (go_at_call 62; with_reducible refine (HS.out _).mono ?_; rintro e w1 ⟨rfl, hb1⟩; have bx := later9 hb1)
      | (go_at_call 62; with_reducible refine (HO.out _).mono ?_; rintro e w2 ⟨rfl, hb2⟩; have b6 := cell_later9 (show w1.cell? ⟨w.heap.size, 6, none⟩ = some (.int .i64 st) by simpa using bx 6) hb2))
    go_ret
    exact ⟨rfl, by (repeat (first | assumption | exact Below.refl _ _ | refine below_step (by assumption) ?_ | refine below_alloc' _ ?_ | refine below_drewN ?_ _ | refine Below.drew ?_))⟩
  | true =>
  by_cases c7 : -4611686018427387904 ≤ st
  case neg =>
    obtain rfl : m = 1 := HNO.out (fun h => c7 h.2.2.2.2.2.2.1)
    go_enter Try.func23, Try.ntmps23
    go_wp2_with (first
      | (go_at_call 62; with_reducible refine (HS.out _).mono ?_; rintro e w1 ⟨rfl, hb1⟩; have bx := later9 hb1)
      | (go_at_call 62; with_reducible refine (HO.out _).mono ?_; rintro e w2 ⟨rfl, hb2⟩; have b6 := cell_later9 (show w1.cell? ⟨w.heap.size, 6, none⟩ = some (.int .i64 st) by simpa using bx 6) hb2))
    go_ret
    exact ⟨rfl, by (repeat (first | assumption | exact Below.refl _ _ | refine below_step (by assumption) ?_ | refine below_alloc' _ ?_ | refine below_drewN ?_ _ | refine Below.drew ?_))⟩
  by_cases c8 : st ≤ 4611686018427387903
  case neg =>
    obtain rfl : m = 1 := HNO.out (fun h => c8 h.2.2.2.2.2.2.2)
    go_enter Try.func23, Try.ntmps23
    go_wp2_with (first
      | (go_at_call 62; with_reducible refine (HS.out _).mono ?_; rintro e w1 ⟨rfl, hb1⟩; have bx := later9 hb1)
      | (go_at_call 62; with_reducible refine (HO.out _).mono ?_; rintro e w2 ⟨rfl, hb2⟩; have b6 := cell_later9 (show w1.cell? ⟨w.heap.size, 6, none⟩ = some (.int .i64 st) by simpa using bx 6) hb2))
    go_ret
    exact ⟨rfl, by (repeat (first | assumption | exact Below.refl _ _ | refine below_step (by assumption) ?_ | refine below_alloc' _ ?_ | refine below_drewN ?_ _ | refine Below.drew ?_))⟩
  obtain rfl : m = 0 := HYES.out ⟨c1, c2, c3, c4, rfl, rfl, c7, c8⟩
  go_enter Try.func23, Try.ntmps23
  go_wp2_with (first
    | (go_at_call 62; with_reducible refine (HS.out _).mono ?_; rintro e w1 ⟨rfl, hb1⟩; have bx := later9 hb1)
    | (go_at_call 62; with_reducible refine (HO.out _).mono ?_; rintro e w2 ⟨rfl, hb2⟩; have b6 := cell_later9 (show w1.cell? ⟨w.heap.size, 6, none⟩ = some (.int .i64 st) by simpa using bx 6) hb2))
  go_ret
  exact ⟨rfl, by (repeat (first | assumption | exact Below.refl _ _ | refine below_step (by assumption) ?_ | refine below_alloc' _ ?_ | refine below_drewN ?_ _ | refine Below.drew ?_))⟩
