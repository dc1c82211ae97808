/- Walks of layer 9 (code): a record is taken out of bytes. -/
import Derived.Test.YtkhnmdmpkedifaaCodeG
namespace Go.Proofs.Ytkhnmdmpkedifaa
open Go.ChangeShapes Go.WideShapes Go.ChangeAt Go.RowKit Go.Deep

theorem zero_Ok : (spB CodeP.Sp.zero).Ok := by
  refine ⟨?_, ?_, ?_, ?_, ?_, ?_, ?_, ?_⟩
  all_goals first | (show I64 0; unfold I64; omega) | (show 0 ≤ maxLen; exact Nat.zero_le _)
theorem rSp_Ok (r : PackP.St) : (spB (CodeP.rSp r).1).Ok ∧ (CodeP.rSp r).1.sv.length ≤ 24 ∧ (CodeP.rSp r).1.op.length ≤ 24 := by
  obtain ⟨l, er⟩ := r
  by_cases he : er = 0
  · subst he
    rcases hr : CodeP.rSp (l, 0) with ⟨x, l', e⟩
    by_cases h0 : e = 0
    · subst h0
      obtain ⟨_, _, _, _, _, h5, h6, k1, k2, k3, k4, k5, k6⟩ := CodeP.rSp_back _ _ _ hr
      simp only
      refine ⟨⟨k1, k2, k3, k4, k5, k6, ?_, ?_⟩, h5, h6⟩
      · show x.sv.length ≤ maxLen; unfold maxLen; omega
      · show x.op.length ≤ maxLen; unfold maxLen; omega
    · have hx : x = CodeP.Sp.zero := by
        have h1 : (CodeP.rSp (l, 0)).1 = if (CodeP.rSp (l, 0)).2.2 ≠ 0 then CodeP.Sp.zero else ⟨_, _, _, _, _, _, _, _, _⟩ := rfl
        rw [hr] at h1
        simp only at h1
        rw [h1, if_pos h0]
      subst hx
      exact ⟨zero_Ok, by show 0 ≤ 24; omega, by show 0 ≤ 24; omega⟩
  · rw [CodeP.rSp_err _ he]
    exact ⟨zero_Ok, by show 0 ≤ 24; omega, by show 0 ≤ 24; omega⟩
theorem below_own {w W : World} (h : Below w.heap.size w W) (j : Nat) (v : Value) : Below w.heap.size w (W.setCell ⟨w.heap.size, j, none⟩ v) := h.setCell (Nat.le_refl _) v
/-- a block made ahead of a reader, behind all that turns the reader alone -/
theorem box_two {w w1 w2 : World} {o : Obj} {b : Nat} (g1 : (w.alloc o).grownBy w1 none) (g2 : w1.grownBy w2 (some b)) (hb : w.heap.size < b) : w2.heap[w.heap.size]? = some o := by
  have h1 := (g1.block w.heap.size (by rw [World.size_alloc]; omega) (by simp)).trans (heap_alloc_new w o)
  exact (g2.block w.heap.size (box_lt h1) (fun e => by have := Option.some.inj e; omega)).trans h1
theorem below_two {w w1 w2 : World} {o : Obj} {b : Nat} (g1 : (w.alloc o).grownBy w1 none) (g2 : w1.grownBy w2 (some b)) (hb : w.heap.size < b) : Below w.heap.size w w2 := by
  have h0 : Below w.heap.size w (w.alloc o) := (Below.refl _ _).alloc (Nat.le_refl _) _
  have h1 := h0.trans ((below_grown g1).mono h0.size)
  exact h1.grown g2 h1.size (fun k e => by have := Option.some.inj e; omega)

set_option maxRecDepth 100000 in
set_option maxHeartbeats 2000000 in
theorem code_Take (s : ByteArray) (hs : s.size ≤ 100000) (w : World) :
    Calls Try.prog 39 #[.string s] w fun e w' => e = .returned (.tuple #[spV (CodeP.takeS s.data.toList).1, .int .i64 (CodeP.takeS s.data.toList).2]) ∧ Below w.heap.size w w' := by
  have hsl : s.data.toList.length ≤ 100000 := hs
  have HN := Lib.hid (pack_New s)
  obtain ⟨hok, h24a, h24b⟩ := rSp_Ok (s.data.toList, 0)
  have hR := fun b W (h : Rdr 59 b (s.data.toList, 0) W) => code_Read b (s.data.toList, 0) hsl W h
  have hT : CodeP.takeS s.data.toList = if PackP.rEnd (CodeP.rSp (s.data.toList, 0)).2 ≠ 0 then (CodeP.Sp.zero, PackP.rEnd (CodeP.rSp (s.data.toList, 0)).2) else if CodeP.mayB (CodeP.rSp (s.data.toList, 0)).1 then ((CodeP.rSp (s.data.toList, 0)).1, 0) else (CodeP.Sp.zero, 1) := rfl
  rw [hT]
  clear hT
  generalize CodeP.rSp (s.data.toList, 0) = rr at hok hR h24a h24b ⊢
  obtain ⟨x, rst⟩ := rr
  simp only at hok hR h24a h24b ⊢
  have hM := code_May (spB x) hok
  have hE := fun b W (h : Rdr 59 b rst W) => pack_End b rst W h
  rw [spP_spB] at hM
  unfold CodeP.may at hM
  generalize PackP.rEnd rst = en at hE ⊢
  obtain ⟨tr, id, pa, rv, sv, op, st, du, gn⟩ := x
  unfold spV at hR
  simp only [spB] at hM
  simp only at hR
  have HR := Lib.hid hR
  have HE := Lib.hid hE
  clear hR hE hok hsl hs h24a h24b
  by_cases he : en = 0
  · subst he
    rw [if_neg (by simp)]
    by_cases hm : CodeP.mayB ⟨tr, id, pa, rv, sv, op, st, du, gn⟩ = true
    · rw [if_pos hm] at hM ⊢
      have HM := Lib.hid hM
      clear hM hm
      go_enter Try.func39, Try.ntmps39
      go_wp2_with (first
        | (go_at_call 29; (with_reducible refine (HN.out _).mono ?_); rintro e w1 ⟨rfl, q1, g1⟩; rw [World.size_alloc] at q1)
        | (go_at_call 46; (with_reducible refine (HR.out _ _ q1).mono ?_); rintro e w2 ⟨rfl, q2, g2⟩; have kA := box_two g1 g2 (Nat.lt_succ_self _); have cA := box_cells kA; have fA := box_free kA)
        | (go_at_call 34; (with_reducible refine (HE.out _ _ (q2.kept (World.grownBy_alloc _ _ none) (by simp))).mono ?_); rintro e w3 ⟨rfl, rfl⟩)
        | (go_at_call 41; (with_reducible refine (HM.out _).mono ?_); rintro e w4 ⟨rfl, b4⟩; have f4 := later9 b4; have kA4 := (b4.block w.heap.size (box_lt ((World.grownBy_alloc w2 _ none).block _ (box_lt kA) (by simp) |>.trans kA))).trans (((World.grownBy_alloc w2 _ none).block _ (box_lt kA) (by simp)).trans kA); have cA4 := box_cells kA4; have fA4 := box_free kA4))
      have b0 := below_two g1 g2 (Nat.lt_succ_self _)
      have bb := below_step b4 (below_alloc' _ b0)
      refine bodyPost_ret (v := .tuple #[spV ⟨tr, id, pa, rv, sv, op, st, du, gn⟩, .int .i64 0]) (by simp [results, Try.results39, go_sem, spV, cA4]) rfl ⟨rfl, ?_⟩
      repeat (with_reducible refine below_own ?_ _ _)
      exact bb
    · rw [if_neg hm] at hM ⊢
      have HM := Lib.hid hM
      clear hM hm
      go_enter Try.func39, Try.ntmps39
      go_wp2_with (first
        | (go_at_call 29; (with_reducible refine (HN.out _).mono ?_); rintro e w1 ⟨rfl, q1, g1⟩; rw [World.size_alloc] at q1)
        | (go_at_call 46; (with_reducible refine (HR.out _ _ q1).mono ?_); rintro e w2 ⟨rfl, q2, g2⟩; have kA := box_two g1 g2 (Nat.lt_succ_self _); have cA := box_cells kA; have fA := box_free kA)
        | (go_at_call 34; (with_reducible refine (HE.out _ _ (q2.kept (World.grownBy_alloc _ _ none) (by simp))).mono ?_); rintro e w3 ⟨rfl, rfl⟩)
        | (go_at_call 41; (with_reducible refine (HM.out _).mono ?_); rintro e w4 ⟨rfl, b4⟩; have f4 := later9 b4; have kA4 := (b4.block w.heap.size (box_lt ((World.grownBy_alloc w2 _ none).block _ (box_lt kA) (by simp) |>.trans kA))).trans (((World.grownBy_alloc w2 _ none).block _ (box_lt kA) (by simp)).trans kA); have cA4 := box_cells kA4; have fA4 := box_free kA4))
      have b0 := below_two g1 g2 (Nat.lt_succ_self _)
      have bb := below_step b4 (below_alloc' _ b0)
      refine bodyPost_ret (v := .tuple #[spV CodeP.Sp.zero, .int .i64 1]) (by simp [results, Try.results39, go_sem, spV, CodeP.Sp.zero, cA4]) rfl ⟨rfl, ?_⟩
      repeat (with_reducible refine below_own ?_ _ _)
      exact bb
  · rw [if_pos he]
    have hee : (en != 0) = true := by rw [bne_iff_ne]; exact he
    clear hM he
    go_enter Try.func39, Try.ntmps39
    go_wp2_with (first
      | (go_at_call 29; (with_reducible refine (HN.out _).mono ?_); rintro e w1 ⟨rfl, q1, g1⟩; rw [World.size_alloc] at q1)
      | (go_at_call 46; (with_reducible refine (HR.out _ _ q1).mono ?_); rintro e w2 ⟨rfl, q2, g2⟩; have kA := box_two g1 g2 (Nat.lt_succ_self _); have cA := box_cells kA; have fA := box_free kA)
      | (go_at_call 34; (with_reducible refine (HE.out _ _ (q2.kept (World.grownBy_alloc _ _ none) (by simp))).mono ?_); rintro e w3 ⟨rfl, rfl⟩; have kA3 := ((World.grownBy_alloc w2 (.cells #[.int .i64 tr, .int .i64 id, .int .i64 pa, .int .i64 rv, .string ⟨sv.toArray⟩, .string ⟨op.toArray⟩, .int .i64 st, .int .i64 du, .bool gn] 23) none).block _ (box_lt kA) (by simp)).trans kA; have cA3 := box_cells kA3; have fA3 := box_free kA3))
    have b0 := below_two g1 g2 (Nat.lt_succ_self _)
    refine bodyPost_ret (v := .tuple #[spV CodeP.Sp.zero, .int .i64 en]) (by simp [results, Try.results39, go_sem, spV, CodeP.Sp.zero, cA3]) rfl ⟨rfl, ?_⟩
    repeat (with_reducible refine below_own ?_ _ _)
    exact below_alloc' _ b0

set_option maxRecDepth 100000 in
set_option maxHeartbeats 2000000 in
theorem ref9_Take (s : ByteArray) (hs : s.size ≤ 100000) (w : World) :
    Calls Try.prog 40 #[.string s] w fun e w' => e = .returned (.tuple #[spV (CodeP.takeS s.data.toList).1, .int .i64 (CodeP.takeS s.data.toList).2]) ∧ Below w.heap.size w w' := by
  have hsl : s.data.toList.length ≤ 100000 := hs
  obtain ⟨hok, h24a, h24b⟩ := rSp_Ok (s.data.toList, 0)
  have hR := fun b W (h : Rdr 55 b (s.data.toList, 0) W) => ref9_Read b (s.data.toList, 0) hsl W h
  have hT : CodeP.takeS s.data.toList = if PackP.rEnd (CodeP.rSp (s.data.toList, 0)).2 ≠ 0 then (CodeP.Sp.zero, PackP.rEnd (CodeP.rSp (s.data.toList, 0)).2) else if CodeP.mayB (CodeP.rSp (s.data.toList, 0)).1 then ((CodeP.rSp (s.data.toList, 0)).1, 0) else (CodeP.Sp.zero, 1) := rfl
  rw [hT]
  clear hT
  generalize CodeP.rSp (s.data.toList, 0) = rr at hok hR h24a h24b ⊢
  obtain ⟨x, rst⟩ := rr
  simp only at hok hR h24a h24b ⊢
  have hM := ref9_May (spB x) hok
  have hE := fun b W (h : Rdr 55 b rst W) => ref5_End b rst W h
  rw [spP_spB] at hM
  unfold CodeP.may at hM
  generalize PackP.rEnd rst = en at hE ⊢
  obtain ⟨tr, id, pa, rv, sv, op, st, du, gn⟩ := x
  unfold spV at hR
  simp only [spB] at hM
  simp only at hR
  have HR := Lib.hid hR
  have HE := Lib.hid hE
  have HQ := Lib.hid (fun o => (show Rdr 55 (w.heap.size + 1) (s.data.toList, 0) ((w.alloc o).alloc (.cells #[.string s, .int .i64 0] 55)) from alloc2_1 w o _))
  have HK := Lib.hid (fun (o : Obj) (W : World) (g : ((w.alloc o).alloc (.cells #[.string s, .int .i64 0] 55)).grownBy W (some (w.heap.size + 1))) => box_two (World.grownBy_alloc _ _ _) g (Nat.lt_succ_self _))
  have HB2 := Lib.hid (fun (o : Obj) (W : World) (g : ((w.alloc o).alloc (.cells #[.string s, .int .i64 0] 55)).grownBy W (some (w.heap.size + 1))) => below_two (World.grownBy_alloc _ _ _) g (Nat.lt_succ_self _))
  clear hR hE hok hsl hs h24a h24b
  by_cases he : en = 0
  · subst he
    rw [if_neg (by simp)]
    by_cases hm : CodeP.mayB ⟨tr, id, pa, rv, sv, op, st, du, gn⟩ = true
    · rw [if_pos hm] at hM ⊢
      have HM := Lib.hid hM
      clear hM hm
      go_enter Try.func40, Try.ntmps40
      go_wp2_with (first
        | (go_at_call 47; (with_reducible refine (HR.out _ _ (HQ.out _)).mono ?_); rintro e w2 ⟨rfl, q2, g2⟩; have kA := HK.out _ _ g2; have cA := box_cells kA; have fA := box_free kA)
        | (go_at_call 35; (with_reducible refine (HE.out _ _ (q2.kept (World.grownBy_alloc _ _ none) (by simp))).mono ?_); rintro e w3 ⟨rfl, rfl⟩)
        | (go_at_call 23; (with_reducible refine (HM.out _).mono ?_); rintro e w4 ⟨rfl, b4⟩; have f4 := later9 b4; have kA4 := (b4.block w.heap.size (box_lt ((World.grownBy_alloc w2 _ none).block _ (box_lt kA) (by simp) |>.trans kA))).trans (((World.grownBy_alloc w2 _ none).block _ (box_lt kA) (by simp)).trans kA); have cA4 := box_cells kA4; have fA4 := box_free kA4))
      have b0 := HB2.out _ _ g2
      have bb := below_step b4 (below_alloc' _ b0)
      refine bodyPost_ret (v := .tuple #[spV ⟨tr, id, pa, rv, sv, op, st, du, gn⟩, .int .i64 0]) (by simp [results, Try.results40, go_sem, spV, cA4]) rfl ⟨rfl, ?_⟩
      repeat (with_reducible refine below_own ?_ _ _)
      exact bb
    · rw [if_neg hm] at hM ⊢
      have HM := Lib.hid hM
      clear hM hm
      go_enter Try.func40, Try.ntmps40
      go_wp2_with (first
        | (go_at_call 47; (with_reducible refine (HR.out _ _ (HQ.out _)).mono ?_); rintro e w2 ⟨rfl, q2, g2⟩; have kA := HK.out _ _ g2; have cA := box_cells kA; have fA := box_free kA)
        | (go_at_call 35; (with_reducible refine (HE.out _ _ (q2.kept (World.grownBy_alloc _ _ none) (by simp))).mono ?_); rintro e w3 ⟨rfl, rfl⟩)
        | (go_at_call 23; (with_reducible refine (HM.out _).mono ?_); rintro e w4 ⟨rfl, b4⟩; have f4 := later9 b4; have kA4 := (b4.block w.heap.size (box_lt ((World.grownBy_alloc w2 _ none).block _ (box_lt kA) (by simp) |>.trans kA))).trans (((World.grownBy_alloc w2 _ none).block _ (box_lt kA) (by simp)).trans kA); have cA4 := box_cells kA4; have fA4 := box_free kA4))
      have b0 := HB2.out _ _ g2
      have bb := below_step b4 (below_alloc' _ b0)
      refine bodyPost_ret (v := .tuple #[spV CodeP.Sp.zero, .int .i64 1]) (by simp [results, Try.results40, go_sem, spV, CodeP.Sp.zero, cA4]) rfl ⟨rfl, ?_⟩
      repeat (with_reducible refine below_own ?_ _ _)
      exact bb
  · rw [if_pos he]
    have hee : (en != 0) = true := by rw [bne_iff_ne]; exact he
    clear hM he
    go_enter Try.func40, Try.ntmps40
    go_wp2_with (first
      | (go_at_call 47; (with_reducible refine (HR.out _ _ (HQ.out _)).mono ?_); rintro e w2 ⟨rfl, q2, g2⟩; have kA := HK.out _ _ g2; have cA := box_cells kA; have fA := box_free kA)
      | (go_at_call 35; (with_reducible refine (HE.out _ _ (q2.kept (World.grownBy_alloc _ _ none) (by simp))).mono ?_); rintro e w3 ⟨rfl, rfl⟩; have kA3 := ((World.grownBy_alloc w2 (.cells #[.int .i64 tr, .int .i64 id, .int .i64 pa, .int .i64 rv, .string ⟨sv.toArray⟩, .string ⟨op.toArray⟩, .int .i64 st, .int .i64 du, .bool gn] 23) none).block _ (box_lt kA) (by simp)).trans kA; have cA3 := box_cells kA3; have fA3 := box_free kA3))
    have b0 := HB2.out _ _ g2
    refine bodyPost_ret (v := .tuple #[spV CodeP.Sp.zero, .int .i64 en]) (by simp [results, Try.results40, go_sem, spV, CodeP.Sp.zero, cA3]) rfl ⟨rfl, ?_⟩
    repeat (with_reducible refine below_own ?_ _ _)
    exact below_alloc' _ b0
