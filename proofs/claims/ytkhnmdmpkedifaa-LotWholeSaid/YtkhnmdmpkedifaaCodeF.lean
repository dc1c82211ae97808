/- Walks of layer 9 (code): a record is read. -/
import Derived.Test.YtkhnmdmpkedifaaCodeC
import Derived.Test.YtkhnmdmpkedifaaLaw05b
namespace Go.Proofs.Ytkhnmdmpkedifaa
open Go.ChangeShapes Go.WideShapes Go.ChangeAt Go.RowKit Go.Deep

/-- a record as a value -/
def spV (x : CodeP.Sp) : Value := .agg #[.int .i64 x.tr, .int .i64 x.id, .int .i64 x.pa, .int .i64 x.rv, .string ⟨x.sv.toArray⟩, .string ⟨x.op.toArray⟩, .int .i64 x.st, .int .i64 x.du, .bool x.gn]
def spB (x : CodeP.Sp) : Sp := ⟨x.tr, x.id, x.pa, x.rv, ⟨x.sv.toArray⟩, ⟨x.op.toArray⟩, x.st, x.du, x.gn⟩
theorem spP_spB (x : CodeP.Sp) : spP (spB x) = x := rfl
/-- a block known whole: what is stored in it, and what a call that turns another block leaves -/
theorem box_set {w : World} {B : Nat} {T : TypeId} {cs : Array Value} {fr : Nat × Nat} (h : w.heap[B]? = some (.cells cs T fr)) (j : Nat) (v : Value) : (w.setCell ⟨B, j, none⟩ v).heap[B]? = some (.cells (cs.setIfInBounds j v) T fr) := by
  simp [World.setCell, Array.getElem?_modify, h]
theorem box_lt {w : World} {B : Nat} {o : Obj} (h : w.heap[B]? = some o) : B < w.heap.size := (Array.getElem?_eq_some_iff.1 h).1
theorem box_free {w : World} {B : Nat} {T : TypeId} {cs : Array Value} (h : w.heap[B]? = some (.cells cs T (0, 0))) : ∀ j, w.frozen? ⟨B, j, none⟩ = false := fun j => Lib.frozen_of_heap h j
theorem box_next {w W : World} {B b : Nat} {T : TypeId} {cs : Array Value} {j : Nat} {v : Value} (h : w.heap[B]? = some (.cells cs T (0, 0))) (hg : (w.setCell ⟨B, j, none⟩ v).grownBy W (some b)) (hne : b ≠ B) : W.heap[B]? = some (.cells (cs.setIfInBounds j v) T (0, 0)) :=
  (hg.block B (box_lt (box_set h j v)) (by simpa using fun e => hne e.symm)).trans (box_set h j v)
theorem box_far {w W : World} {A B b : Nat} {o : Obj} {j : Nat} {v : Value} (h : w.heap[A]? = some o) (hg : (w.setCell ⟨B, j, none⟩ v).grownBy W (some b)) (hne : b ≠ A) (hAB : A ≠ B) : W.heap[A]? = some o :=
  (hg.block A (box_lt ((Below.heap_setCell w ⟨B, j, none⟩ v A hAB).trans h)) (by simpa using fun e => hne e.symm)).trans ((Below.heap_setCell w ⟨B, j, none⟩ v A hAB).trans h)
theorem grown_new {w W : World} {row : Option Nat} (hg : w.grownBy W row) {B : Nat} (hB : w.heap.size ≤ B) (j : Nat) (v : Value) : w.grownBy (W.setCell ⟨B, j, none⟩ v) row :=
  ⟨hg.os, hg.tape, hg.output, by simp [World.setCell]; exact hg.size, fun k hk hr => (Below.heap_setCell _ _ _ k (by show k ≠ B; omega)).trans (hg.block k hk hr)⟩
theorem rSp_steps (r ra rb rc rd re rf rg rh ri : PackP.St) (a b c d : Int) (e f : List UInt8) (g h : Int) (i : Bool) (ea : PackP.rNum r = (a, ra)) (eb : PackP.rNum ra = (b, rb)) (ec : PackP.rNum rb = (c, rc)) (ed : PackP.rNum rc = (d, rd))
    (ee : PackP.rText 24 rd = (e, re)) (ef : PackP.rText 24 re = (f, rf)) (eg : PackP.rSigned rf = (g, rg)) (eh : PackP.rSigned rg = (h, rh)) (ei : PackP.rFlag rh = (i, ri)) :
    CodeP.rSp r = (if ri.2 ≠ 0 then CodeP.Sp.zero else ⟨a, b, c, d, e, f, g, h, i⟩, ri) := by
  unfold CodeP.rSp
  simp only [ea, eb, ec, ed, ee, ef, eg, eh, ei]

@[local go_sem] theorem pidx4_0 (w : World) (a b c d : Value) : (Instr.index 102 (.agg #[a, b, c, d]) (.int .i64 0)).run Try.prog w = .ok a w := by kernel_rfl
@[local go_sem] theorem pidx4_1 (w : World) (a b c d : Value) : (Instr.index 102 (.agg #[a, b, c, d]) (.int .i64 1)).run Try.prog w = .ok b w := by kernel_rfl
@[local go_sem] theorem pidx4_2 (w : World) (a b c d : Value) : (Instr.index 102 (.agg #[a, b, c, d]) (.int .i64 2)).run Try.prog w = .ok c w := by kernel_rfl
@[local go_sem] theorem pidx4_3 (w : World) (a b c d : Value) : (Instr.index 102 (.agg #[a, b, c, d]) (.int .i64 3)).run Try.prog w = .ok d w := by kernel_rfl
set_option maxRecDepth 100000 in
set_option maxHeartbeats 4000000 in
theorem code_Read (b : Nat) (r : PackP.St) (hl : r.1.length ≤ 100000) (w : World) (h : Rdr 59 b r w) :
    Calls Try.prog 46 #[.pointer (some ⟨b, 0, none⟩)] w (RdPost 59 b (CodeP.rSp r).2 (spV (CodeP.rSp r).1) w) := by
  have hlt := h.lt
  have hne : ¬ (b = w.heap.size + 1) := by omega
  have hneA : ¬ (b = w.heap.size) := by omega
  have hAB : w.heap.size ≠ w.heap.size + 1 := by omega
  have l1 := rNum_len r
  rcases ea : PackP.rNum r with ⟨va, ra⟩
  rw [ea] at l1; simp only at l1
  have l2 := rNum_len ra
  rcases eb : PackP.rNum ra with ⟨vb, rb⟩
  rw [eb] at l2; simp only at l2
  have l3 := rNum_len rb
  rcases ec : PackP.rNum rb with ⟨vc, rc⟩
  rw [ec] at l3; simp only at l3
  have l4 := rNum_len rc
  rcases ed : PackP.rNum rc with ⟨vd, rd⟩
  rw [ed] at l4; simp only at l4
  have l5 := rText_len 24 rd
  rcases ee : PackP.rText 24 rd with ⟨ve, re⟩
  rw [ee] at l5; simp only at l5
  have l6 := rText_len 24 re
  rcases ef : PackP.rText 24 re with ⟨vf, rf⟩
  rw [ef] at l6; simp only at l6
  have l7 := rSigned_len rf
  rcases eg : PackP.rSigned rf with ⟨vg, rg⟩
  rw [eg] at l7; simp only at l7
  have l8 := rSigned_len rg
  rcases eh : PackP.rSigned rg with ⟨vh, rh⟩
  rw [eh] at l8; simp only at l8
  rcases ei : PackP.rFlag rh with ⟨vi, ri⟩
  rw [rSp_steps r ra rb rc rd re rf rg rh ri va vb vc vd ve vf vg vh vi ea eb ec ed ee ef eg eh ei]
  have H0 := Lib.hid (fun o o2 => (h.kept (World.grownBy_alloc w o none) (by simp)).kept (World.grownBy_alloc (w.alloc o) o2 none) (by simp))
  have H1 := Lib.hid (fun W (k : Rdr 59 b r W) => ea ▸ pack_Num_at b r (by omega) W k)
  have H2 := Lib.hid (fun W (k : Rdr 59 b ra W) => eb ▸ pack_Num_at b ra (by omega) W k)
  have H3 := Lib.hid (fun W (k : Rdr 59 b rb W) => ec ▸ pack_Num_at b rb (by omega) W k)
  have H4 := Lib.hid (fun W (k : Rdr 59 b rc W) => ed ▸ pack_Num_at b rc (by omega) W k)
  have H5 := Lib.hid (fun W (k : Rdr 59 b rd W) => ee ▸ pack_Text_at b 24 rd (by omega) W k)
  have H6 := Lib.hid (fun W (k : Rdr 59 b re W) => ef ▸ pack_Text_at b 24 re (by omega) W k)
  have H7 := Lib.hid (fun W (k : Rdr 59 b rf W) => eg ▸ pack_Signed_at b rf (by omega) W k)
  have H8 := Lib.hid (fun W (k : Rdr 59 b rg W) => eh ▸ pack_Signed_at b rg (by omega) W k)
  have H9 := Lib.hid (fun W (k : Rdr 59 b rh W) => ei ▸ pack_Flag_at b rh (by omega) W k)
  have HE := Lib.hid (fun W (k : Rdr 59 b ri W) => pack_Err b ri W k)
  clear ea eb ec ed ee ef eg eh ei l1 l2 l3 l4 l5 l6 l7 l8 h hl
  obtain ⟨li, er⟩ := ri
  simp only at HE ⊢
  obtain ⟨xx, hxx⟩ : ∃ xx, (if er ≠ 0 then CodeP.Sp.zero else ⟨va, vb, vc, vd, ve, vf, vg, vh, vi⟩) = xx := ⟨_, rfl⟩
  rw [hxx]
  have HX := Lib.hid hxx
  clear hxx
  have KA := Lib.hid (fun (W : World) (g : ((w.alloc (.cells #[.int .i64 0, .int .i64 0, .int .i64 0, .int .i64 0, .string ⟨#[]⟩, .string ⟨#[]⟩, .int .i64 0, .int .i64 0, .bool false] 23)).alloc (.cells #[.int .i64 0, .int .i64 0, .int .i64 0, .int .i64 0, .string ⟨#[]⟩, .string ⟨#[]⟩, .int .i64 0, .int .i64 0, .bool false] 23)).grownBy W (some b)) => (g.block w.heap.size (by rw [World.size_alloc, World.size_alloc]; omega) (fun e => hneA (Option.some.inj e).symm)).trans (alloc2_0 w (.cells #[.int .i64 0, .int .i64 0, .int .i64 0, .int .i64 0, .string ⟨#[]⟩, .string ⟨#[]⟩, .int .i64 0, .int .i64 0, .bool false] 23) (.cells #[.int .i64 0, .int .i64 0, .int .i64 0, .int .i64 0, .string ⟨#[]⟩, .string ⟨#[]⟩, .int .i64 0, .int .i64 0, .bool false] 23)))
  have KB := Lib.hid (fun (W : World) (g : ((w.alloc (.cells #[.int .i64 0, .int .i64 0, .int .i64 0, .int .i64 0, .string ⟨#[]⟩, .string ⟨#[]⟩, .int .i64 0, .int .i64 0, .bool false] 23)).alloc (.cells #[.int .i64 0, .int .i64 0, .int .i64 0, .int .i64 0, .string ⟨#[]⟩, .string ⟨#[]⟩, .int .i64 0, .int .i64 0, .bool false] 23)).grownBy W (some b)) => (g.block (w.heap.size + 1) (by rw [World.size_alloc, World.size_alloc]; omega) (fun e => hne (Option.some.inj e).symm)).trans (alloc2_1 w (.cells #[.int .i64 0, .int .i64 0, .int .i64 0, .int .i64 0, .string ⟨#[]⟩, .string ⟨#[]⟩, .int .i64 0, .int .i64 0, .bool false] 23) (.cells #[.int .i64 0, .int .i64 0, .int .i64 0, .int .i64 0, .string ⟨#[]⟩, .string ⟨#[]⟩, .int .i64 0, .int .i64 0, .bool false] 23)))
  go_enter Try.func46, Try.ntmps46
  go_wp2_with fail
  refine wp_loop_rounds 5 ?_
  rw [rounds_succ]
  go_wp2_with (go_at_call 44; (with_reducible refine (H1.out _ (H0.out _ _)).mono ?_); rintro e w1 ⟨rfl, r1, g1⟩; have kA1 := KA.out _ g1; have kB1 := KB.out _ g1; have c1 := box_cells kB1; have f1 := box_free kB1)
  rw [rounds_succ]
  go_wp2_with (go_at_call 44; (with_reducible refine (H2.out _ (r1.other _ _ _ hne)).mono ?_); rintro e w2 ⟨rfl, r2, g2⟩; have kA2 := box_far kA1 g2 hneA hAB; have kB2 := box_next kB1 g2 hne; simp only [List.setIfInBounds_toArray, List.set_cons_zero] at kB2; have c2 := box_cells kB2; have f2 := box_free kB2)
  rw [rounds_succ]
  go_wp2_with (go_at_call 44; (with_reducible refine (H3.out _ (r2.other _ _ _ hne)).mono ?_); rintro e w3 ⟨rfl, r3, g3⟩; have kA3 := box_far kA2 g3 hneA hAB; have kB3 := box_next kB2 g3 hne; simp only [List.setIfInBounds_toArray, List.set_cons_zero, List.set_cons_succ] at kB3; have c3 := box_cells kB3; have f3 := box_free kB3)
  rw [rounds_succ]
  go_wp2_with (go_at_call 44; (with_reducible refine (H4.out _ (r3.other _ _ _ hne)).mono ?_); rintro e w4 ⟨rfl, r4, g4⟩; have kA4 := box_far kA3 g4 hneA hAB; have kB4 := box_next kB3 g4 hne; simp only [List.setIfInBounds_toArray, List.set_cons_zero, List.set_cons_succ] at kB4; have c4 := box_cells kB4; have f4 := box_free kB4)
  rw [rounds_succ]
  go_wp2_with (first
    | (go_at_call 65; (with_reducible refine (H5.out _ (r4.other _ _ _ hne)).mono ?_); rintro e w5 ⟨rfl, r5, g5⟩; have kA5 := box_far kA4 g5 hneA hAB; have kB5 := box_next kB4 g5 hne; simp only [List.setIfInBounds_toArray, List.set_cons_zero, List.set_cons_succ] at kB5; have c5 := box_cells kB5; have f5 := box_free kB5)
    | (go_at_call 65; (with_reducible refine (H6.out _ (r5.other _ _ _ hne)).mono ?_); rintro e w6 ⟨rfl, r6, g6⟩; have kA6 := box_far kA5 g6 hneA hAB; have kB6 := box_next kB5 g6 hne; simp only [List.setIfInBounds_toArray, List.set_cons_zero, List.set_cons_succ] at kB6; have c6 := box_cells kB6; have f6 := box_free kB6)
    | (go_at_call 71; (with_reducible refine (H7.out _ (r6.other _ _ _ hne)).mono ?_); rintro e w7 ⟨rfl, r7, g7⟩; have kA7 := box_far kA6 g7 hneA hAB; have kB7 := box_next kB6 g7 hne; simp only [List.setIfInBounds_toArray, List.set_cons_zero, List.set_cons_succ] at kB7; have c7 := box_cells kB7; have f7 := box_free kB7)
    | (go_at_call 71; (with_reducible refine (H8.out _ (r7.other _ _ _ hne)).mono ?_); rintro e w8 ⟨rfl, r8, g8⟩; have kA8 := box_far kA7 g8 hneA hAB; have kB8 := box_next kB7 g8 hne; simp only [List.setIfInBounds_toArray, List.set_cons_zero, List.set_cons_succ] at kB8; have c8 := box_cells kB8; have f8 := box_free kB8)
    | (go_at_call 66; (with_reducible refine (H9.out _ (r8.other _ _ _ hne)).mono ?_); rintro e w9 ⟨rfl, r9, g9⟩; have kA9 := box_far kA8 g9 hneA hAB; have kB9 := box_next kB8 g9 hne; simp only [List.setIfInBounds_toArray, List.set_cons_zero, List.set_cons_succ] at kB9; have c9 := box_cells kB9; have f9 := box_free kB9; have d9 := box_cells kA9; have e9 := box_free kA9)
    | (go_at_call 32; (with_reducible refine (HE.out _ (r9.other _ _ _ hne)).mono ?_); rintro e w10 ⟨rfl, rfl⟩))
  all_goals
    have G1 := grown_trans (grown_trans (World.grownBy_alloc _ _ _) (World.grownBy_alloc _ _ _)) g1
    have G2 := grown_trans (grown_new G1 (Nat.le_succ _) _ _) g2
    have G3 := grown_trans (grown_new G2 (Nat.le_succ _) _ _) g3
    have G4 := grown_trans (grown_new G3 (Nat.le_succ _) _ _) g4
    have G5 := grown_trans (grown_new G4 (Nat.le_succ _) _ _) g5
    have G6 := grown_trans (grown_new G5 (Nat.le_succ _) _ _) g6
    have G7 := grown_trans (grown_new G6 (Nat.le_succ _) _ _) g7
    have G8 := grown_trans (grown_new G7 (Nat.le_succ _) _ _) g8
    have G9 := grown_trans (grown_new G8 (Nat.le_succ _) _ _) g9
  · have hz : er ≠ 0 := by have h := ‹(er != 0) = true›; simpa using h
    obtain rfl : CodeP.Sp.zero = xx := by rw [← HX.out, if_pos hz]
    refine bodyPost_ret (v := spV CodeP.Sp.zero) (by simp [results, Try.results46, go_sem, spV, CodeP.Sp.zero, d9]) rfl ⟨rfl, ?_, ?_⟩
    · repeat (refine Rdr.other ?_ _ _ _ (by first | exact hne | exact hneA))
      exact r9
    · repeat (refine grown_own ?_ _ _)
      exact grown_new G9 (Nat.le_succ _) _ _
  · have hz : er = 0 := by first | assumption | (have h := ‹(er != 0) = false›; simpa using h)
    obtain rfl : (⟨va, vb, vc, vd, ve, vf, vg, vh, vi⟩ : CodeP.Sp) = xx := by rw [← HX.out, if_neg (by simpa using hz)]
    refine bodyPost_ret (v := spV ⟨va, vb, vc, vd, ve, vf, vg, vh, vi⟩) (by simp [results, Try.results46, go_sem, spV, d9]) rfl ⟨rfl, ?_, ?_⟩
    · repeat (refine Rdr.other ?_ _ _ _ (by first | exact hne | exact hneA))
      exact r9
    · repeat (refine grown_own ?_ _ _)
      exact grown_new G9 (Nat.le_succ _) _ _
