/- Layer 11 (lot): slices.Clone of records. -/
import Derived.Test.YtkhnmdmpkedifaaLotD
import Derived.Test.YtkhnmdmpkedifaaRankE
namespace Go.Proofs.Ytkhnmdmpkedifaa
open Go.ChangeShapes Go.WideShapes Go.ChangeAt Go.RowKit Go.Deep

attribute [local go_sem] Oper.semAt_some
theorem run_equalIn_slice_nil {P : Program} (w : World) (d : Nat) (t e : TypeId) (a : Addr) (n c : Nat) (h : P.underlying t = some (.slice e)) : (Op.equalIn (d + 1) t (.slice (some a) n c) (.slice none 0 0)).run P w = .ok false w := by
  simp [Op.equalIn, run_underlying h]
theorem run_equal_slice_nil {P : Program} (w : World) (t e : TypeId) (a : Addr) (n c : Nat) (h : P.underlying t = some (.slice e)) : (Op.equal t (.slice (some a) n c) (.slice none 0 0)).run P w = .ok false w := run_equalIn_slice_nil w _ t e a n c h
theorem run_eql_slice_nil {P : Program} (w : World) (t e : TypeId) (a : Addr) (n c : Nat) (h : P.underlying t = some (.slice e)) : (binOp .eql t (.slice (some a) n c) (.slice none 0 0)).run P w = .ok (.bool false) w := by
  simp only [binOp]
  simp [run_equal_slice_nil w t e a n c h]
@[local go_sem] theorem run_spans_nil (w : World) (a : Addr) (n c : Nat) : (binOp .eql 24 (.slice (some a) n c) (.slice none 0 0)).run Try.prog w = .ok (.bool false) w := run_eql_slice_nil w _ _ a n c Try.underlying24
theorem own_empty (w : World) (e : TypeId) (sz : Nat) : (w.alloc (.cells #[] e)).ownsRow w.heap.size e sz (.slice (some ⟨w.heap.size, 0, none⟩) 0 0) 0 [] :=
  ⟨by simp, .inr ⟨w.heap.size, 0, #[], rfl, Nat.le_refl _, heap_alloc_new _ _, Nat.le_refl _, Nat.zero_le _, by simp, by simp⟩⟩
set_option maxRecDepth 100000 in
theorem clone_some (ad : Addr) (c : Nat) (l : List Sp) (hn : 1 ≤ l.length) (hn2 : l.length ≤ 1000) (w : World) (hr : ∀ j u, (l.flatMap spCells)[j]? = some u → w.cell? (ad.add j) = some u) :
    Calls Try.prog 88 #[.slice (some ad) l.length c] w fun e w' => ∃ v, e = .returned v ∧ w'.ownsRow w.heap.size 23 9 v l.length (l.flatMap spCells) ∧ Below w.heap.size w w' := by
  obtain ⟨i0, hi, hz0, hz1, hz2⟩ := info_parts' info_span
  have HI := Lib.hid (And.intro hi (And.intro hz0 (And.intro hz1 hz2)))
  have HR := Lib.hid (fun j u (hj : (l.flatMap spCells)[j]? = some u) => (Lib.cell?_alloc_some (.cells #[] 23) (hr j u hj)))
  have hlen := spCells_len l
  clear hi hz0 hz1 hz2 hr
  go_enter Try.func88, Try.ntmps88
  go_wp2_with (at_builtin; go_loud (refine wpList_append_lies _ rfl _ _ _ (by rfl) w.heap.size 23 i0 _ 9 88 Try.underlying24 HI.out.1 HI.out.2.1 HI.out.2.2.1 HI.out.2.2.2 rfl (by decide) _ 0 [] (by rfl) (own_empty w 23 9) ad l.length c (l.flatMap spCells) (by rfl) hlen HR.out (spCells_one _) (by omega) (by unfold maxLen; omega) (by omega) (by simp) _ rfl ?_); intro g cap w' h2 h3 h4 h5)
  go_ret
  exact ⟨_, rfl, by simpa using h2, (below_alloc' _ (Below.refl _ w)).grown h3 (by simp) (by intro k h; cases h; exact Nat.le_refl _)⟩
/-- what Chunk hands back, and what it leaves -/
theorem slices_Chunk (A : Option Addr) (n c : Nat) (m : Int) (hm : 1 ≤ m) (w : World) :
    Calls Try.prog 87 #[.slice A n c, .int .i64 m] w fun e w' => e = .returned (.func (.func 107) #[] #[.pointer (some ⟨w.heap.size, 0, none⟩), .pointer (some ⟨w.heap.size + 1, 0, none⟩)])
      ∧ w' = (w.alloc (.cells #[.slice A n c] 24)).alloc (.cells #[.int .i64 m] 3) := by
  have hd : decide (m < 1) = false := decide_eq_false (by omega)
  have hO := heap_alloc_new (w.alloc (.cells #[.slice A n c] 24)) (.cells #[.int .i64 m] 3)
  have y0 := box_cells hO 0
  rw [World.size_alloc] at y0
  clear hO hm
  go_enter Try.func87, Try.ntmps87
  go_wp2_with fail
  go_ret
  exact ⟨rfl, rfl⟩

def smallS (n : Int) : CodeP.Sp := ⟨1, n, 0, 0, [115], [111], 0, 0, false⟩
theorem law11_small (n : Int) (w : World) :
    Calls Try.prog 85 #[.int .i64 n] w fun e w' => e = .returned (spV (smallS n)) ∧ Below w.heap.size w w' := by
  go_enter Try.func85, Try.ntmps85
  go_wp2_with fail
  refine bodyPost_ret (v := spV (smallS n)) (by simp [results, Try.results85, go_sem, spV, smallS]) rfl ⟨rfl, by (repeat (first | assumption | exact Below.refl _ _ | refine below_step (by assumption) ?_ | refine below_alloc' _ ?_ | refine below_drewN ?_ _ | refine Below.drew ?_))⟩
end Go.Proofs.Ytkhnmdmpkedifaa
