/- Walks of layer 9 (code): a record is written. -/
import Derived.Test.YtkhnmdmpkedifaaCodeB
import Derived.Test.YtkhnmdmpkedifaaLaw05
namespace Go.Proofs.Ytkhnmdmpkedifaa
open Go.ChangeShapes Go.WideShapes Go.ChangeAt Go.RowKit Go.Deep

theorem others_box {b B : Nat} {T : TypeId} {cs : Array Value} {w w' : World} (h : w.heap[B]? = some (.cells cs T (0, 0))) (ho : Lib.OthersKept 5 (some b) w w') (hT : T ≠ 5) (hne : b ≠ B) : w'.heap[B]? = some (.cells cs T (0, 0)) :=
  ho B _ h (by simpa using fun e => hne e.symm) (fun c fz e => by simp at e; exact hT e.2.1)
theorem box_cells {B : Nat} {T : TypeId} {cs : Array Value} {w : World} (h : w.heap[B]? = some (.cells cs T (0, 0))) : ∀ j, w.cell? ⟨B, j, none⟩ = cs[j]? := fun j => by rw [cell_of_row _ _ _ _ T _ h]

@[local go_sem] theorem idx4_0 (w : World) (a b c d : Value) : (Instr.index 96 (.agg #[a, b, c, d]) (.int .i64 0)).run Try.prog w = .ok a w := by kernel_rfl
@[local go_sem] theorem idx4_1 (w : World) (a b c d : Value) : (Instr.index 96 (.agg #[a, b, c, d]) (.int .i64 1)).run Try.prog w = .ok b w := by kernel_rfl
@[local go_sem] theorem idx4_2 (w : World) (a b c d : Value) : (Instr.index 96 (.agg #[a, b, c, d]) (.int .i64 2)).run Try.prog w = .ok c w := by kernel_rfl
@[local go_sem] theorem idx4_3 (w : World) (a b c d : Value) : (Instr.index 96 (.agg #[a, b, c, d]) (.int .i64 3)).run Try.prog w = .ok d w := by kernel_rfl
set_option maxRecDepth 100000 in
set_option maxHeartbeats 2000000 in
theorem code_Write (b : Nat) (l : List UInt8) (x : Sp) (hx : x.Ok) (hs : x.sv.size ≤ 100000 ∧ x.op.size ≤ 100000) (w : World) (h : Wr b l w) (hlen : l.length ≤ 1000000) :
    Calls Try.prog 43 #[.pointer (some ⟨b, 0, none⟩), .agg #[.int .i64 x.tr, .int .i64 x.id, .int .i64 x.pa, .int .i64 x.rv, .string x.sv, .string x.op, .int .i64 x.st, .int .i64 x.du, .bool x.gn]] w (WrPost b (l ++ CodeP.enc (spP x)) (.tuple #[]) w) := by
  obtain ⟨tr, id, pa, rv, sv, op, st, du, gn⟩ := x
  obtain ⟨i1, i2, i3, i4, i5, i6, _, _⟩ := hx
  simp only at i1 i2 i3 i4 i5 i6 hs ⊢
  have hlt := h.lt
  have hne : b ≠ w.heap.size := Nat.ne_of_lt hlt
  have q := putI_len
  have q1 := q tr
  have q2 := q id
  have q3 := q pa
  have q4 := q rv
  have qs : (PackP.text sv.data.toList).length ≤ 100020 := by unfold PackP.text; have := VariP.put_len sv.data.toList.length; rw [List.length_append]; have : sv.data.toList.length = sv.size := rfl; omega
  have qo : (PackP.text op.data.toList).length ≤ 100020 := by unfold PackP.text; have := VariP.put_len op.data.toList.length; rw [List.length_append]; have : op.data.toList.length = op.size := rfl; omega
  have q5 := VariP.put_len (VariP.zig st)
  have q6 := VariP.put_len (VariP.zig du)
  have H0 := Lib.hid (fun o => h.below ((Below.refl _ w).alloc (Nat.le_refl _) o))
  have H1 := Lib.hid (fun W (k : Wr b l W) => pack_Num b l tr i1 W k (by omega))
  have H2 := Lib.hid (fun W (k : Wr b (l ++ VariP.putI tr) W) => pack_Num b _ id i2 W k (by simp only [List.length_append]; omega))
  have H3 := Lib.hid (fun W (k : Wr b (l ++ VariP.putI tr ++ VariP.putI id) W) => pack_Num b _ pa i3 W k (by simp only [List.length_append]; omega))
  have H4 := Lib.hid (fun W (k : Wr b (l ++ VariP.putI tr ++ VariP.putI id ++ VariP.putI pa) W) => pack_Num b _ rv i4 W k (by simp only [List.length_append]; omega))
  have H5 := Lib.hid (fun W (k : Wr b (l ++ VariP.putI tr ++ VariP.putI id ++ VariP.putI pa ++ VariP.putI rv) W) => pack_Text b _ sv (by omega) W k (by simp only [List.length_append]; omega))
  have H6 := Lib.hid (fun W (k : Wr b (l ++ VariP.putI tr ++ VariP.putI id ++ VariP.putI pa ++ VariP.putI rv ++ PackP.text sv.data.toList) W) => pack_Text b _ op (by omega) W k (by simp only [List.length_append]; omega))
  have H7 := Lib.hid (fun W (k : Wr b (l ++ VariP.putI tr ++ VariP.putI id ++ VariP.putI pa ++ VariP.putI rv ++ PackP.text sv.data.toList ++ PackP.text op.data.toList) W) => pack_Signed b _ st i5 W k (by simp only [List.length_append]; omega))
  have H8 := Lib.hid (fun W (k : Wr b (l ++ VariP.putI tr ++ VariP.putI id ++ VariP.putI pa ++ VariP.putI rv ++ PackP.text sv.data.toList ++ PackP.text op.data.toList ++ VariP.put (VariP.zig st)) W) => pack_Signed b _ du i6 W k (by simp only [List.length_append]; omega))
  have H9 := Lib.hid (fun W (k : Wr b (l ++ VariP.putI tr ++ VariP.putI id ++ VariP.putI pa ++ VariP.putI rv ++ PackP.text sv.data.toList ++ PackP.text op.data.toList ++ VariP.put (VariP.zig st) ++ VariP.put (VariP.zig du)) W) => pack_Flag b _ gn W k (by simp only [List.length_append]; omega))
  clear q q1 q2 q3 q4 qs qo q5 q6 h
  go_enter Try.func43, Try.ntmps43
  go_wp2_with fail
  refine wp_loop_rounds 5 ?_
  rw [rounds_succ]
  go_wp2_with (go_at_call 42; with_reducible refine (H1.out _ (H0.out _)).mono ?_; rintro e w1 ⟨rfl, r1, b1, o1⟩)
  have k1 := others_box (heap_alloc_new w _) o1 (by decide) hne
  rw [rounds_succ]
  go_wp2_with (go_at_call 42; with_reducible refine (H2.out _ r1).mono ?_; rintro e w2 ⟨rfl, r2, b2, o2⟩)
  have k2 := others_box k1 o2 (by decide) hne
  rw [rounds_succ]
  go_wp2_with (go_at_call 42; with_reducible refine (H3.out _ r2).mono ?_; rintro e w3 ⟨rfl, r3, b3, o3⟩)
  have k3 := others_box k2 o3 (by decide) hne
  rw [rounds_succ]
  go_wp2_with (go_at_call 42; with_reducible refine (H4.out _ r3).mono ?_; rintro e w4 ⟨rfl, r4, b4, o4⟩)
  have k4 := others_box k3 o4 (by decide) hne
  have f4 := box_cells k4
  rw [rounds_succ]
  go_wp2_with (first
    | (go_at_call 63; with_reducible refine (H5.out _ r4).mono ?_; rintro e w5 ⟨rfl, r5, b5, o5⟩; have k5 := others_box k4 o5 (by decide) hne; have f5 := box_cells k5)
    | (go_at_call 63; with_reducible refine (H6.out _ r5).mono ?_; rintro e w6 ⟨rfl, r6, b6, o6⟩; have k6 := others_box k5 o6 (by decide) hne; have f6 := box_cells k6)
    | (go_at_call 67; with_reducible refine (H7.out _ r6).mono ?_; rintro e w7 ⟨rfl, r7, b7, o7⟩; have k7 := others_box k6 o7 (by decide) hne; have f7 := box_cells k7)
    | (go_at_call 67; with_reducible refine (H8.out _ r7).mono ?_; rintro e w8 ⟨rfl, r8, b8, o8⟩; have k8 := others_box k7 o8 (by decide) hne; have f8 := box_cells k8)
    | (go_at_call 64; with_reducible refine (H9.out _ r8).mono ?_; rintro e w9 ⟨rfl, r9, b9, o9⟩; have k9 := others_box k8 o9 (by decide) hne; have f9 := box_cells k9))
  go_end0
  have e : CodeP.enc (spP ⟨tr, id, pa, rv, sv, op, st, du, gn⟩) = VariP.putI tr ++ (VariP.putI id ++ (VariP.putI pa ++ (VariP.putI rv ++ (PackP.text sv.data.toList ++ (PackP.text op.data.toList ++ (VariP.put (VariP.zig st) ++ (VariP.put (VariP.zig du) ++ PackP.flag gn))))))) := rfl
  refine ⟨rfl, ?_, ?_, ?_⟩
  · rw [e]; simpa only [List.append_assoc] using r9
  · exact ((((((((((Below.refl b w).alloc (Nat.le_of_lt hlt) _).trans b1).trans b2).trans b3).trans b4).trans b5).trans b6).trans b7).trans b8).trans b9
  · exact (((((((((Lib.OthersKept.refl _ _ w).alloc _).trans o1).trans o2).trans o3).trans o4).trans o5).trans o6).trans o7).trans o8 |>.trans o9

set_option maxRecDepth 100000 in
theorem code_Put (x : Sp) (hx : x.Ok) (hs : x.sv.size ≤ 100000 ∧ x.op.size ≤ 100000) (w : World) :
    Calls Try.prog 37 #[.agg #[.int .i64 x.tr, .int .i64 x.id, .int .i64 x.pa, .int .i64 x.rv, .string x.sv, .string x.op, .int .i64 x.st, .int .i64 x.du, .bool x.gn]] w fun e w' => e = .returned (.tuple #[.string ⟨(CodeP.putS (spP x)).1.toArray⟩, .int .i64 (CodeP.putS (spP x)).2]) ∧ Below w.heap.size w w' := by
  have HM := Lib.hid (code_May x hx)
  have HW := Lib.hid (fun b W (h : Wr b [] W) => code_Write b [] x hx hs W h (by simp))
  have HB := Lib.hid (fun b W (h : Wr b ([] ++ CodeP.enc (spP x)) W) => pack_Bytes b _ W h)
  rw [List.nil_append] at HB
  simp only [List.nil_append] at HW
  unfold CodeP.putS
  unfold CodeP.may at HM
  by_cases hm : CodeP.mayB (spP x) = true
  · rw [if_pos hm] at HM ⊢
    clear hm
    generalize CodeP.enc (spP x) = E at HW HB ⊢
    go_enter Try.func37, Try.ntmps37
    go_wp2_with (first
      | (go_at_call 41; (with_reducible refine (HM.out _).mono ?_); rintro e w1 ⟨rfl, b1⟩; have f1 := later9 b1; have r1 := Wr.new w1; have hl1 : w.heap.size < w1.heap.size := (by have := b1.size; rw [World.size_alloc] at this; omega); have f2 := fun j => (((Below.refl w1.heap.size w1).alloc (Nat.le_refl _) (.cells #[.pointer none, .slice none 0 0] 44)).cell (p := ⟨w.heap.size, j, none⟩) hl1).trans (f1 j))
      | (go_at_call 43; with_reducible refine (HW.out _ _ r1).mono ?_; rintro e w2 ⟨rfl, r2, b2, _⟩)
      | (go_at_call 28; with_reducible refine (HB.out _ _ r2).mono ?_; rintro e w3 ⟨rfl, r3, b3, _⟩))
    go_ret2
    have B1 : Below w.heap.size w w1 := below_step b1 (below_alloc' _ (Below.refl _ _))
    exact ⟨rfl, ((below_alloc' _ B1).trans (b2.mono B1.size)).trans (b3.mono B1.size)⟩
  · rw [if_neg hm] at HM ⊢
    clear hm
    go_enter Try.func37, Try.ntmps37
    go_wp2_with (go_at_call 41; with_reducible refine (HM.out _).mono ?_; rintro e w1 ⟨rfl, b1⟩)
    go_ret2
    exact ⟨rfl, by (repeat (first | assumption | exact Below.refl _ _ | refine below_step (by assumption) ?_ | refine below_alloc' _ ?_ | refine below_drewN ?_ _ | refine Below.drew ?_))⟩
