/- The document's names (layer 8): Kind, Few, Numbers. -/
import Derived.Test.YtmkaijjakcjflaaDoorNameR
namespace Go.Proofs.YtmkaijjakcjflaaDoor
open Go.ChangeShapes Go.WideShapes Go.ChangeAt Go.RowKit Go.Deep NameP Go.Sort

theorem numS_rnum {first s : List UInt8} (hp : first.isPrefixOf s = true) : numS first s = if 0 < rnum (s.drop first.length) then some (rnum (s.drop first.length)) else none := by
  unfold numS rnum
  by_cases ho : okN (s.drop first.length) = true
  · have := okN_val ho
    rw [if_pos ⟨hp, ho⟩, if_pos ho, if_pos (by omega)]
  · rw [if_neg (fun h => ho h.2), if_neg ho, if_neg (by omega)]
theorem numS_rnum_no {first s : List UInt8} (hp : ¬ first.isPrefixOf s = true) : numS first s = none := by
  unfold numS
  rw [if_neg (fun h => hp h.1)]
theorem S8_ext (s : List UInt8) (n : Nat) : (S8 s).extract n (S8 s).size = S8 (s.drop n) := by
  apply ByteArray.ext
  apply Array.ext'
  rw [ByteArray.data_extract, Array.toList_extract, S8_toList, S8_toList, S8_size, List.extract_eq_take_drop]
  rw [List.take_of_length_le (by rw [List.length_drop]; omega)]
theorem S8_pre (s p : List UInt8) : (((S8 s).extract 0 p.length).toList == p) = p.isPrefixOf s := by
  rw [Lib.toList_data, ByteArray.data_extract, Array.toList_extract, S8_toList, List.extract_eq_take_drop, Bool.eq_iff_iff, List.isPrefixOf_iff_prefix, List.prefix_iff_eq_take]
  simp
  exact ⟨fun h => h.symm, fun h => h.symm⟩
theorem rnum_nil : rnum [] = 0 := rfl

set_option maxRecDepth 100000 in
theorem ref8_Kind (s : List UInt8) (hs : s.length ≤ 1000000) (w : World) : Calls Tryd.prog 8 #[.string (S8 s)] w fun e w' => e = .returned (.tuple #[.int .i64 (kindS s).1, .int .i64 (kindS s).2]) ∧ Below w.heap.size w w' := by
  have H1' : ∀ (l : List UInt8), l.length ≤ 1000000 → ∀ W : World, Calls Tryd.prog 15 #[.string (S8 l)] W fun e w' => e = .returned (.int .i64 (rnum l : Nat)) ∧ Below W.heap.size W w' := fun l hl W => ref8_number l hl W
  have H1 := Lib.hid H1'
  clear H1'
  by_cases h1 : s = mainS
  · subst h1
    rw [show kindS mainS = (3, 0) by decide +kernel]
    have e1 : ((S8 mainS).toList == [109, 97, 105, 110]) = true := by rw [S8_eqL]; decide
    go_enter Tryd.func8, Tryd.ntmps8
    go_wp2_with fail
    go_ret2
    exact ⟨rfl, Below.refl _ _⟩
  have e1 : ((S8 s).toList == [109, 97, 105, 110]) = false := by rw [S8_eqL]; exact decide_eq_false h1
  by_cases h2 : s = freshS
  · subst h2
    rw [show kindS freshS = (4, 0) by decide +kernel]
    have e2 : ((S8 freshS).toList == [109, 97, 105, 110, 46, 110, 101, 119]) = true := by rw [S8_eqL]; decide
    go_enter Tryd.func8, Tryd.ntmps8
    go_wp2_with fail
    go_ret2
    exact ⟨rfl, Below.refl _ _⟩
  have e2 : ((S8 s).toList == [109, 97, 105, 110, 46, 110, 101, 119]) = false := by rw [S8_eqL]; exact decide_eq_false h2
  have hk : kindS s = match numS logS s with
    | some n => (1, (n : Int))
    | none => match numS imgS s with
      | some n => (2, (n : Int))
      | none => (0, 0) := by unfold kindS; rw [if_neg h1, if_neg h2]; rfl
  have hsz := S8_size s
  have hb : (S8 s).size ≤ 1000000 := by omega
  have H4' : ∀ W : World, Calls Tryd.prog 15 #[.string ((S8 s).extract 4 (S8 s).size)] W fun e w' => e = .returned (.int .i64 (rnum (s.drop 4) : Nat)) ∧ Below W.heap.size W w' := fun W => by
    rw [S8_ext]; exact ref8_number _ (by rw [List.length_drop]; omega) W
  have H4 := Lib.hid H4'
  clear H4'
  have H6' : ∀ W : World, Calls Tryd.prog 15 #[.string ((S8 s).extract 6 (S8 s).size)] W fun e w' => e = .returned (.int .i64 (rnum (s.drop 6) : Nat)) ∧ Below W.heap.size W w' := fun W => by
    rw [S8_ext]; exact ref8_number _ (by rw [List.length_drop]; omega) W
  have H6 := Lib.hid H6'
  clear H6' H1
  have p4 : (((S8 s).extract 0 4).toList == [108, 111, 103, 46]) = logS.isPrefixOf s := S8_pre s logS
  have p6 : (((S8 s).extract 0 6).toList == [105, 109, 97, 103, 101, 46]) = imgS.isPrefixOf s := S8_pre s imgS
  have z4 : 0 < rnum (s.drop 4) → 4 < (S8 s).size := fun h => by
    rw [hsz]
    apply Decidable.byContradiction
    intro h'
    rw [List.drop_eq_nil_of_le (by omega)] at h
    exact absurd h (by rw [rnum_nil]; omega)
  have z6 : 0 < rnum (s.drop 6) → 6 < (S8 s).size := fun h => by
    rw [hsz]
    apply Decidable.byContradiction
    intro h'
    rw [List.drop_eq_nil_of_le (by omega)] at h
    exact absurd h (by rw [rnum_nil]; omega)
  clear h1 h2 hs hsz
  by_cases q4 : logS.isPrefixOf s = true
  · have q6 : imgS.isPrefixOf s = false := by
      obtain ⟨t, rfl⟩ := List.isPrefixOf_iff_prefix.1 q4
      simp [logS, imgS, List.isPrefixOf]
    rw [q6] at p6
    rw [q4] at p4
    rw [numS_rnum q4, numS_rnum_no (by rw [q6]; decide)] at hk
    have e4 : logS.length = 4 := rfl
    rw [e4] at hk
    generalize hn : rnum (s.drop 4) = n at H4 hk z4
    by_cases h0 : 0 < n
    · rw [if_pos h0] at hk
      rw [hk]
      have hz := z4 h0
      clear hk z4 z6 hn q4 q6 H6 p6
      go_enter Tryd.func8, Tryd.ntmps8
      go_wp2_with (first | (go_at_call 15; (with_reducible refine (H4.out w).mono ?_); rintro e w1 ⟨rfl, b1⟩) | (go_at_call 15; (with_reducible refine (H4.out _).mono ?_); rintro e w2 ⟨rfl, b2⟩))
      go_ret2
      exact ⟨rfl, below_step b2 b1⟩
    · obtain rfl : n = 0 := by omega
      rw [if_neg h0] at hk
      rw [hk]
      clear hk z4 z6 hn q4 q6 H6 h0
      by_cases hz : 4 < (S8 s).size
      · by_cases hy : 6 < (S8 s).size
        · go_enter Tryd.func8, Tryd.ntmps8
          go_wp2_with (go_at_call 15; (with_reducible refine (H4.out _).mono ?_); rintro e w1 ⟨rfl, b1⟩)
          go_ret2
          exact ⟨rfl, b1⟩
        · go_enter Tryd.func8, Tryd.ntmps8
          go_wp2_with (go_at_call 15; (with_reducible refine (H4.out _).mono ?_); rintro e w1 ⟨rfl, b1⟩)
          go_ret2
          exact ⟨rfl, b1⟩
      · have hy : ¬ 6 < (S8 s).size := by omega
        go_enter Tryd.func8, Tryd.ntmps8
        go_wp2_with fail
        go_ret2
        exact ⟨rfl, Below.refl _ _⟩
  · rw [Bool.not_eq_true] at q4
    rw [q4] at p4
    rw [numS_rnum_no (by rw [q4]; decide)] at hk
    simp only at hk
    by_cases q6 : imgS.isPrefixOf s = true
    · rw [q6] at p6
      rw [numS_rnum q6] at hk
      have e6 : imgS.length = 6 := rfl
      rw [e6] at hk
      generalize hn : rnum (s.drop 6) = n at H6 hk z6
      by_cases h0 : 0 < n
      · rw [if_pos h0] at hk
        rw [hk]
        have hz := z6 h0
        have hy : 4 < (S8 s).size := by omega
        clear hk z4 z6 hn q4 q6 H4
        go_enter Tryd.func8, Tryd.ntmps8
        go_wp2_with (first | (go_at_call 15; (with_reducible refine (H6.out w).mono ?_); rintro e w1 ⟨rfl, b1⟩) | (go_at_call 15; (with_reducible refine (H6.out _).mono ?_); rintro e w2 ⟨rfl, b2⟩))
        go_ret2
        exact ⟨rfl, below_step b2 b1⟩
      · obtain rfl : n = 0 := by omega
        rw [if_neg h0] at hk
        rw [hk]
        clear hk z4 z6 hn q4 q6 H4 h0
        by_cases hy : 6 < (S8 s).size
        · have hz : 4 < (S8 s).size := by omega
          go_enter Tryd.func8, Tryd.ntmps8
          go_wp2_with (go_at_call 15; (with_reducible refine (H6.out _).mono ?_); rintro e w1 ⟨rfl, b1⟩)
          go_ret2
          exact ⟨rfl, b1⟩
        · by_cases hz : 4 < (S8 s).size
          · go_enter Tryd.func8, Tryd.ntmps8
            go_wp2_with fail
            go_ret2
            exact ⟨rfl, Below.refl _ _⟩
          · go_enter Tryd.func8, Tryd.ntmps8
            go_wp2_with fail
            go_ret2
            exact ⟨rfl, Below.refl _ _⟩
    · rw [Bool.not_eq_true] at q6
      rw [q6] at p6
      rw [numS_rnum_no (by rw [q6]; decide)] at hk
      rw [hk]
      clear hk z4 z6 q4 q6 H4 H6
      by_cases hy : 6 < (S8 s).size
      · have hz : 4 < (S8 s).size := by omega
        go_enter Tryd.func8, Tryd.ntmps8
        go_wp2_with fail
        go_ret2
        exact ⟨rfl, Below.refl _ _⟩
      · by_cases hz : 4 < (S8 s).size
        · go_enter Tryd.func8, Tryd.ntmps8
          go_wp2_with fail
          go_ret2
          exact ⟨rfl, Below.refl _ _⟩
        · go_enter Tryd.func8, Tryd.ntmps8
          go_wp2_with fail
          go_ret2
          exact ⟨rfl, Below.refl _ _⟩
end Go.Proofs.YtmkaijjakcjflaaDoor
