/- The statements of layer 9 (code): the walk of CodeIs. -/
import Derived.Test.YtkhnmdmpkedifaaLaw09
namespace Go.Proofs.Ytkhnmdmpkedifaa
open Go.ChangeShapes Go.WideShapes Go.ChangeAt Go.RowKit Go.Deep

theorem kept {w w' : World} {b : Nat} {o : Obj} (h : w.heap[b]? = some o) (hb : Below w.heap.size w w') : w'.heap[b]? = some o := (hb.block b (box_lt h)).trans h
theorem kept_alloc {w : World} {b : Nat} {o : Obj} (h : w.heap[b]? = some o) (o' : Obj) : (w.alloc o').heap[b]? = some o := (Below.heap_alloc _ _ _ (by have := box_lt h; omega)).trans h

set_option maxRecDepth 100000 in
theorem law09_CodeIs_wide (x : Sp) (s : ByteArray) (hx : x.Ok) (hs : s.size ≤ maxLen) (h : ¬ (x.sv.size ≤ 100 ∧ x.op.size ≤ 100) ∨ 200 < s.size) (w : World) :
    Calls Try.prog 9 #[.agg #[.int .i64 x.tr, .int .i64 x.id, .int .i64 x.pa, .int .i64 x.rv, .string x.sv, .string x.op, .int .i64 x.st, .int .i64 x.du, .bool x.gn], .string s] w fun e w' => e = .returned (.bool true) ∧ Below w.heap.size w w' := by
  unfold maxLen at hs
  by_cases hsh : x.sv.size ≤ 100 ∧ x.op.size ≤ 100
  · have hlong : 200 < s.size := h.resolve_left (fun k => k hsh)
    have HS := Lib.hid (ref9_Short_yes x hsh)
    clear h hsh hx
    go_enter Try.func9, Try.ntmps9
    go_wp2_with (first
      | (go_at_call 15; (with_reducible refine (HS.out _).mono ?_); rintro e w1 ⟨rfl, b1⟩)
      | (go_at_call 36; (with_reducible refine (law09_awake _).mono ?_); rintro e w2 ⟨rfl, b2⟩))
    go_ret
    exact ⟨rfl, by (repeat (first | assumption | exact Below.refl _ _ | refine below_step (by assumption) ?_ | refine below_alloc' _ ?_ | refine below_drewN ?_ _ | refine Below.drew ?_))⟩
  · have HS := Lib.hid (ref9_Short_no x hx hsh)
    clear h hsh hx
    go_enter Try.func9, Try.ntmps9
    go_wp2_with (first
      | (go_at_call 15; (with_reducible refine (HS.out _).mono ?_); rintro e w1 ⟨rfl, b1⟩)
      | (go_at_call 36; (with_reducible refine (law09_awake _).mono ?_); rintro e w2 ⟨rfl, b2⟩))
    go_ret
    exact ⟨rfl, by (repeat (first | assumption | exact Below.refl _ _ | refine below_step (by assumption) ?_ | refine below_alloc' _ ?_ | refine below_drewN ?_ _ | refine Below.drew ?_))⟩

set_option maxRecDepth 100000 in
set_option maxHeartbeats 2000000 in
theorem law09_CodeIs_few (x : Sp) (s : ByteArray) (hx : x.Ok) (hsh : x.sv.size ≤ 100 ∧ x.op.size ≤ 100) (hs : s.size ≤ 200) (w : World) :
    Calls Try.prog 9 #[.agg #[.int .i64 x.tr, .int .i64 x.id, .int .i64 x.pa, .int .i64 x.rv, .string x.sv, .string x.op, .int .i64 x.st, .int .i64 x.du, .bool x.gn], .string s] w fun e w' => e = .returned (.bool true) ∧ Below w.heap.size w w' := by
  have HS := Lib.hid (ref9_Short_yes x hsh)
  have P1 := code_Put x hx (by omega)
  have P2 := ref9_Put x hx (by omega)
  have T1 := code_Take s (by omega)
  have T2 := ref9_Take s (by omega)
  have M1 := code_May x hx
  have M2 := ref9_May x hx
  generalize CodeP.takeS s.data.toList = tk at T1 T2
  generalize CodeP.putS (spP x) = pt at P1 P2
  generalize CodeP.may (spP x) = my at M1 M2
  obtain ⟨⟨ttr, tid, tpa, trv, tsv, top, tst, tdu, tgn⟩, te⟩ := tk
  obtain ⟨pl, pe⟩ := pt
  obtain ⟨tr, id, pa, rv, sv, op, st, du, gn⟩ := x
  simp only [spV] at HS P1 P2 T1 T2 M1 M2 ⊢
  generalize (⟨pl.toArray⟩ : ByteArray) = PL at P1 P2
  generalize (⟨tsv.toArray⟩ : ByteArray) = TS at T1 T2
  generalize (⟨top.toArray⟩ : ByteArray) = TO at T1 T2
  have HP1 := Lib.hid P1
  have HP2 := Lib.hid P2
  have HT1 := Lib.hid T1
  have HT2 := Lib.hid T2
  have HM1 := Lib.hid M1
  have HM2 := Lib.hid M2
  clear P1 P2 T1 T2 M1 M2 hx hsh
  have KX := Lib.hid (heap_alloc_new w (.cells #[.int .i64 tr, .int .i64 id, .int .i64 pa, .int .i64 rv, .string sv, .string op, .int .i64 st, .int .i64 du, .bool gn] 23))
  go_enter Try.func9, Try.ntmps9
  go_wp2_with (first
    | (go_at_call 15; (with_reducible refine (HS.out _).mono ?_); rintro e w1 ⟨rfl, b1⟩; have k1 := kept KX.out b1; have f1 := box_cells k1)
    | (go_at_call 37; (with_reducible refine (HP1.out _).mono ?_); rintro e w2 ⟨rfl, b2⟩; have k2 := kept k1 b2; have f2 := box_cells k2)
    | (go_at_call 38; (with_reducible refine (HP2.out _).mono ?_); rintro e w3 ⟨rfl, b3⟩; have k3 := kept k2 b3; have f3 := box_cells k3)
    | (go_at_call 39; (with_reducible refine (HT1.out _).mono ?_); rintro e w4 ⟨rfl, b4⟩; have k4 := kept k3 b4; have f4 := box_cells k4)
    | (go_at_call 40; (with_reducible refine (HT2.out _).mono ?_); rintro e w5 ⟨rfl, b5⟩))
  have hz1 := b1.size
  have hz2 := b2.size
  have hz3 := b3.size
  have hz4 := b4.size
  have hz5 := b5.size
  rw [World.size_alloc] at hz1 hz5
  have kX := kept_alloc (kept (kept_alloc k4 (.cells #[.int .i64 ttr, .int .i64 tid, .int .i64 tpa, .int .i64 trv, .string TS, .string TO, .int .i64 tst, .int .i64 tdu, .bool tgn] 23)) b5) (.cells #[.int .i64 ttr, .int .i64 tid, .int .i64 tpa, .int .i64 trv, .string TS, .string TO, .int .i64 tst, .int .i64 tdu, .bool tgn] 23)
  have kC := kept_alloc (kept (heap_alloc_new w4 (.cells #[.int .i64 ttr, .int .i64 tid, .int .i64 tpa, .int .i64 trv, .string TS, .string TO, .int .i64 tst, .int .i64 tdu, .bool tgn] 23)) b5) (.cells #[.int .i64 ttr, .int .i64 tid, .int .i64 tpa, .int .i64 trv, .string TS, .string TO, .int .i64 tst, .int .i64 tdu, .bool tgn] 23)
  have kD := heap_alloc_new w5 (.cells #[.int .i64 ttr, .int .i64 tid, .int .i64 tpa, .int .i64 trv, .string TS, .string TO, .int .i64 tst, .int .i64 tdu, .bool tgn] 23)
  have cX := fun u => later_at kX (B := w5.heap.size + 1) (by omega) u
  have cC := fun u => later_at kC (B := w5.heap.size + 1) (by omega) u
  have cD := fun u => later_at kD (B := w5.heap.size + 1) (by omega) u
  clear k1 k2 k3 k4 f1 f2 f3 f4 kX kC kD
  refine wp_region_later (w5.heap.size + 1) (by kernel_rfl) (by kernel_rfl) ?_
  repeat (go_big_quiet_step ((first
    | (go_at_call 41; exact later_of _ (by simp) (HM1.out _))
    | (go_at_call 23; exact later_of _ (by simp) (HM2.out _))
    | (go_at_call 36; exact later_of _ (by simp) (law09_awake _)))))
  refine wpQuiet_nil ?_; intro _ hw'; obtain ⟨u, hw''⟩ := hw'; subst hw''
  go_wp2_with fail
  go_ret
  refine ⟨rfl, below_later9 ?_ u⟩
  (repeat (first | assumption | exact Below.refl _ _ | refine below_step (by assumption) ?_ | refine below_alloc' _ ?_ | refine below_drewN ?_ _ | refine Below.drew ?_))
theorem law09_CodeIs (x : Sp) (s : ByteArray) (hx : x.Ok) (hs : s.size ≤ maxLen) (w : World) :
    Calls Try.prog 9 #[.agg #[.int .i64 x.tr, .int .i64 x.id, .int .i64 x.pa, .int .i64 x.rv, .string x.sv, .string x.op, .int .i64 x.st, .int .i64 x.du, .bool x.gn], .string s] w fun e w' => e = .returned (.bool true) ∧ Below w.heap.size w w' := by
  by_cases h : ¬ (x.sv.size ≤ 100 ∧ x.op.size ≤ 100) ∨ 200 < s.size
  · exact law09_CodeIs_wide x s hx hs h w
  · exact law09_CodeIs_few x s hx (Decidable.of_not_not fun k => h (.inl k)) (by omega) w
