/- Walks of layer 8 (name): Kind. -/
import Derived.Test.YtmkaijjakcjflaaDoorNameB
import Derived.Test.YtmkaijjakcjflaaDoorRegion
namespace Go.Proofs.YtmkaijjakcjflaaDoor
open Go.ChangeShapes Go.WideShapes Go.ChangeAt Go.RowKit Go.Deep NameP Go.Sort

theorem S8_eq {a b : List UInt8} : ((S8 a).toList == (S8 b).toList) = decide (a = b) := by
  rw [Lib.toList_data, Lib.toList_data, S8_toList, S8_toList]
  rw [Bool.eq_iff_iff]
  simp
theorem S8_eqL (a l : List UInt8) : ((S8 a).toList == l) = decide (a = l) := by
  rw [Lib.toList_data, S8_toList, Bool.eq_iff_iff]
  simp
theorem numV_of {first s : List UInt8} {n : Nat} (h : numS first s = some n) : numV first s = ((n : Int), true) := by unfold numV; rw [h]
theorem numV_no {first s : List UInt8} (h : numS first s = none) : numV first s = (0, false) := by unfold numV; rw [h]

set_option maxRecDepth 100000 in
theorem name_Kind (s : List UInt8) (hs : s.length ≤ 1000000) (w : World) : Calls Tryd.prog 7 #[.string (S8 s)] w fun e w' => e = .returned (.tuple #[.int .i64 (kindS s).1, .int .i64 (kindS s).2]) ∧ Below w.heap.size w w' := by
  have H1' : ∀ W : World, Calls Tryd.prog 14 #[.string (S8 s), .string ⟨#[108, 111, 103, 46]⟩] W fun e w' => e = .returned (.tuple #[.int .i64 (numV logS s).1, .bool (numV logS s).2]) ∧ Below W.heap.size W w' := fun W => name_number logS s hs W
  have H1 := Lib.hid H1'
  clear H1'
  have H2' : ∀ W : World, Calls Tryd.prog 14 #[.string (S8 s), .string ⟨#[105, 109, 97, 103, 101, 46]⟩] W fun e w' => e = .returned (.tuple #[.int .i64 (numV imgS s).1, .bool (numV imgS s).2]) ∧ Below W.heap.size W w' := fun W => name_number imgS s hs W
  have H2 := Lib.hid H2'
  clear H2'
  by_cases h1 : s = mainS
  · subst h1
    rw [show kindS mainS = (3, 0) by decide +kernel]
    have e1 : ((S8 mainS).toList == [109, 97, 105, 110]) = true := by rw [S8_eqL]; decide
    go_enter Tryd.func7, Tryd.ntmps7
    go_wp2_with fail
    go_ret2
    exact ⟨rfl, Below.refl _ _⟩
  have e1 : ((S8 s).toList == [109, 97, 105, 110]) = false := by rw [S8_eqL]; exact decide_eq_false h1
  by_cases h2 : s = freshS
  · subst h2
    rw [show kindS freshS = (4, 0) by decide +kernel]
    have e2 : ((S8 freshS).toList == [109, 97, 105, 110, 46, 110, 101, 119]) = true := by rw [S8_eqL]; decide
    go_enter Tryd.func7, Tryd.ntmps7
    go_wp2_with fail
    go_ret2
    exact ⟨rfl, Below.refl _ _⟩
  have e2 : ((S8 s).toList == [109, 97, 105, 110, 46, 110, 101, 119]) = false := by rw [S8_eqL]; exact decide_eq_false h2
  have hk : kindS s = match numS logS s with
    | some n => (1, (n : Int))
    | none => match numS imgS s with
      | some n => (2, (n : Int))
      | none => (0, 0) := by unfold kindS; rw [if_neg h1, if_neg h2]; rfl
  cases hl : numS logS s with
  | some n =>
    rw [hl] at hk
    rw [hk]
    rw [numV_of hl] at H1
    clear hk h1 h2 hl
    go_enter Tryd.func7, Tryd.ntmps7
    go_wp2_with (go_at_call 14; (with_reducible refine (H1.out _).mono ?_); rintro e w1 ⟨rfl, b1⟩)
    go_ret2
    exact ⟨rfl, b1⟩
  | none =>
    rw [hl] at hk
    simp only at hk
    rw [numV_no hl] at H1
    cases hi : numS imgS s with
    | some n =>
      rw [hi] at hk
      rw [hk]
      rw [numV_of hi] at H2
      clear hk h1 h2 hl hi
      go_enter Tryd.func7, Tryd.ntmps7
      go_wp2_with (first
        | (go_at_call 14; (with_reducible refine (H1.out _).mono ?_); rintro e w1 ⟨rfl, b1⟩)
        | (go_at_call 14; (with_reducible refine (H2.out _).mono ?_); rintro e w2 ⟨rfl, b2⟩))
      go_ret2
      exact ⟨rfl, below_step b2 b1⟩
    | none =>
      rw [hi] at hk
      rw [hk]
      rw [numV_no hi] at H2
      clear hk h1 h2 hl hi
      go_enter Tryd.func7, Tryd.ntmps7
      go_wp2_with (first
        | (go_at_call 14; (with_reducible refine (H1.out _).mono ?_); rintro e w1 ⟨rfl, b1⟩)
        | (go_at_call 14; (with_reducible refine (H2.out _).mono ?_); rintro e w2 ⟨rfl, b2⟩))
      go_ret2
      exact ⟨rfl, below_step b2 b1⟩
end Go.Proofs.YtmkaijjakcjflaaDoor
