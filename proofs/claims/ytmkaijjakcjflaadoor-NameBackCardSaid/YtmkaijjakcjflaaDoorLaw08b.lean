/- Layer 8: a name is of its kind and number, and no two have one name (NameBack). -/
import Derived.Test.YtmkaijjakcjflaaDoorLaw08
namespace Go.Proofs.YtmkaijjakcjflaaDoor
open Go.ChangeShapes Go.WideShapes Go.ChangeAt Go.RowKit Go.Deep NameP

theorem kind_I64 (s : List UInt8) : I64 (kindS s).2 := by
  have hv : ∀ first n, numS first s = some n → n ≤ 999999999999999999 := fun first n h => by
    unfold numS at h
    split at h
    · rename_i hc
      have := okN_val hc.2
      obtain rfl := Option.some.inj h
      omega
    · cases h
  unfold kindS I64
  split
  · decide
  · split
    · decide
    · split
      · rename_i n h
        have := hv _ _ h
        simp only
        omega
      · split
        · rename_i n h
          have := hv _ _ h
          simp only
          omega
        · decide
theorem two_boxes {w W : World} {t : TypeId} {c1 c2 : Array Value} (hb : Below (w.heap.size + 2) ((w.alloc (.cells c1 t)).alloc (.cells c2 t)) W) (j : Nat) : W.cell? ⟨w.heap.size, j, none⟩ = c1[j]? ∧ W.cell? ⟨w.heap.size + 1, j, none⟩ = c2[j]? := by
  refine ⟨?_, ?_⟩
  · rw [hb.cell (p := ⟨w.heap.size, j, none⟩) (by show w.heap.size < _; omega)]
    rw [World.cell?_alloc_lt _ _ _ (by rw [World.size_alloc]; show w.heap.size < _; omega)]
    exact cell_of_row _ _ _ c1 t _ (heap_alloc_new w _)
  · rw [hb.cell (p := ⟨w.heap.size + 1, j, none⟩) (by show w.heap.size + 1 < _; omega)]
    have := heap_alloc_new (w.alloc (.cells c1 t)) (.cells c2 t)
    rw [World.size_alloc] at this
    exact cell_of_row _ _ _ c2 t _ this
/-- what two names tell of each other -/
theorem two_names {a0 a1 b0 b1 : Int} (hx : ofS a0 a1 ≠ []) : (a0 ≤ 2 ∧ (kindS (ofS a0 a1)) = (a0, a1) ∧ a1 ≠ 0 ∧ (ofS a0 a1 = ofS b0 b1 → a0 = b0 ∧ a1 = b1)) ∨ (2 < a0 ∧ kindS (ofS a0 a1) = (a0, 0) ∧ (ofS a0 a1 = ofS b0 b1 → a0 = b0)) := by
  have k1 := kind_of a0 a1 hx
  have k2 : ofS a0 a1 = ofS b0 b1 → kindS (ofS b0 b1) = (b0, if b0 = 1 ∨ b0 = 2 then b1 else 0) := fun e => kind_of b0 b1 (by rw [← e]; exact hx)
  by_cases h : a0 = 1 ∨ a0 = 2
  · rw [if_pos h] at k1
    refine .inl ⟨by omega, k1, ?_, fun e => ?_⟩
    · intro h0
      subst h0
      apply hx
      have : digS 0 = [] := by decide +kernel
      rcases h with rfl | rfl <;> simp [ofS, withS, this]
    · have := k2 e
      rw [← e, k1] at this
      simp only [Prod.mk.injEq] at this
      obtain ⟨e1, e2⟩ := this
      subst e1
      rw [if_pos h] at e2
      exact ⟨rfl, e2⟩
  · rw [if_neg h] at k1
    have hk : a0 = 3 ∨ a0 = 4 := by
      unfold ofS at hx
      apply Decidable.byContradiction
      intro h34
      apply hx
      rw [if_neg (by omega), if_neg (by omega), if_neg (by omega), if_neg (by omega)]
    refine .inr ⟨by omega, k1, fun e => ?_⟩
    have := k2 e
    rw [← e, k1] at this
    simp only [Prod.mk.injEq] at this
    exact this.1
theorem of_len (a0 a1 : Int) : (ofS a0 a1).length ≤ 1000000 := by
  have := digS_len a1
  unfold ofS withS
  repeat' split
  all_goals simp [logS, imgS, mainS, freshS]
  all_goals omega

set_option maxRecDepth 100000 in
set_option maxHeartbeats 4000000 in
theorem law08_NameBack (a b : Int × Int) (ha : I64 a.1 ∧ I64 a.2) (hbb : I64 b.1 ∧ I64 b.2) (s : ByteArray) (hs : s.size ≤ maxLen) (w : World) (ht : TabW w) :
    Calls Tryd.prog 4 #[.agg #[.int .i64 a.1, .int .i64 a.2], .agg #[.int .i64 b.1, .int .i64 b.2], .string s] w fun e w' => e = .returned (.bool true) ∧ Below w.heap.size w w' := by
  obtain ⟨a0, a1⟩ := a
  obtain ⟨b0, b1⟩ := b
  simp only at ha hbb ⊢
  unfold maxLen at hs
  obtain ⟨W2, hW2⟩ : ∃ W2, W2 = (w.alloc (.cells #[.int .i64 a0, .int .i64 a1] 33)).alloc (.cells #[.int .i64 b0, .int .i64 b1] 33) := ⟨_, rfl⟩
  have hW2s : W2.heap.size = w.heap.size + 2 := by rw [hW2, World.size_alloc, World.size_alloc]
  have hb0 : Below w.heap.size w W2 := by rw [hW2]; exact ((Below.refl _ w).alloc (Nat.le_refl _) _).alloc (by rw [World.size_alloc]; omega) _
  have ext : ∀ {W W' : World}, Below (w.heap.size + 2) W2 W → Below W.heap.size W W' → Below (w.heap.size + 2) W2 W' := fun h b => h.trans (b.mono (by have := h.size; omega))
  have bw : ∀ {W : World}, Below (w.heap.size + 2) W2 W → Below w.heap.size w W := fun h => hb0.trans (h.mono (by omega))
  have HBW := Lib.hid (fun W (h : Below (w.heap.size + 2) W2 W) => bw h)
  have HA' : ∀ W, Below (w.heap.size + 2) W2 W → Calls Tryd.prog 6 #[] W fun e w' => e = .returned (.bool true) ∧ Below (w.heap.size + 2) W2 w' := fun W hb => (law08_awake W (ht.below (bw hb))).mono (by rintro e w' ⟨rfl, b⟩; exact ⟨rfl, ext hb b⟩)
  have HA := Lib.hid HA'
  clear HA'
  have hbs := Below.refl (w.heap.size + 2) W2
  by_cases h100 : s.size ≤ 100
  · have HX' : ∀ W, Below (w.heap.size + 2) W2 W → Calls Tryd.prog 9 #[.int .i64 a0, .int .i64 a1] W fun e w' => e = .returned (.string (S8 (ofS a0 a1))) ∧ Below W.heap.size W w' := fun W hb => name_Of a0 a1 ha.2 W (ht.below (bw hb))
    have HX := Lib.hid HX'
    have HY' : ∀ W, Below (w.heap.size + 2) W2 W → Calls Tryd.prog 9 #[.int .i64 b0, .int .i64 b1] W fun e w' => e = .returned (.string (S8 (ofS b0 b1))) ∧ Below W.heap.size W w' := fun W hb => name_Of b0 b1 hbb.2 W (ht.below (bw hb))
    have HY := Lib.hid HY'
    have HK' : ∀ W, Below (w.heap.size + 2) W2 W → Calls Tryd.prog 7 #[.string s] W fun e w' => e = .returned (.tuple #[.int .i64 (kB s).1, .int .i64 (kB s).2]) ∧ Below (w.heap.size + 2) W2 w' := fun W hb => (name_KindB s (by omega) W).mono (by rintro e w' ⟨rfl, b⟩; exact ⟨rfl, ext hb b⟩)
    have HK := Lib.hid HK'
    have HB' : (kB s).1 ≠ 0 → ∀ W, Below (w.heap.size + 2) W2 W → Calls Tryd.prog 9 #[.int .i64 (kB s).1, .int .i64 (kB s).2] W fun e w' => e = .returned (.string s) ∧ Below (w.heap.size + 2) W2 w' := fun hk W hb => by
      have := name_Of (kB s).1 (kB s).2 (kind_I64 _) W (ht.below (bw hb))
      have e : ofS (kB s).1 (kB s).2 = s.data.toList := of_kind _ hk
      rw [e, S8_back] at this
      exact this.mono (by rintro e w' ⟨rfl, b⟩; exact ⟨rfl, ext hb b⟩)
    have HB := Lib.hid HB'
    have r1 : 0 ≤ (kB s).1 := (kind_range s.data.toList).1
    have r2 : (kB s).1 ≤ 4 := (kind_range s.data.toList).2
    have HKX' : ∀ p : Int × Int, kindS (ofS a0 a1) = p → ∀ W, Below (w.heap.size + 2) W2 W → Calls Tryd.prog 7 #[.string (S8 (ofS a0 a1))] W fun e w' => e = .returned (.tuple #[.int .i64 p.1, .int .i64 p.2]) ∧ Below (w.heap.size + 2) W2 w' := fun p hp W hb => by
      subst hp
      exact (name_Kind _ (of_len a0 a1) W).mono (by rintro e w' ⟨rfl, b⟩; exact ⟨rfl, ext hb b⟩)
    have HCE := Lib.hid (fun (W : World) (hb : Below (w.heap.size + 2) W2 W) => (by rw [hW2] at hb; have h0 := two_boxes hb 0; have h1 := two_boxes hb 1; exact ⟨h0.1, h1.1, h0.2, h1.2⟩ : W.cell? ⟨w.heap.size, 0, none⟩ = some (.int .i64 a0) ∧ W.cell? ⟨w.heap.size, 1, none⟩ = some (.int .i64 a1) ∧ W.cell? ⟨w.heap.size + 1, 0, none⟩ = some (.int .i64 b0) ∧ W.cell? ⟨w.heap.size + 1, 1, none⟩ = some (.int .i64 b1)))
    have hss : (s.toList == s.toList) = true := by simp
    have HTB : ∀ W, Below (w.heap.size + 2) W2 W → ∀ j, W.cell? ⟨w.heap.size, j, none⟩ = #[Value.int .i64 a0, .int .i64 a1][j]? ∧ W.cell? ⟨w.heap.size + 1, j, none⟩ = #[Value.int .i64 b0, .int .i64 b1][j]? := fun W hb j => by
      rw [hW2] at hb
      exact two_boxes hb j
    have hcell1 := fun (u : Later (w.heap.size + 2) W2) j => (HTB _ u.h j).1
    have hcell2 := fun (u : Later (w.heap.size + 2) W2) j => (HTB _ u.h j).2
    have hle : w.heap.size + 2 ≤ W2.heap.size := by omega
    clear HX' HY' HK' HB' ha hbb ht ext bw hW2s hs HTB
    generalize (kB s).1 = k at *
    generalize (kB s).2 = n at *
    by_cases hx : ofS a0 a1 = []
    · have hxe : (S8 (ofS a0 a1)).toList.isEmpty = true := (S8_nil_iff _).2 hx
      clear hx HKX'
      generalize S8 (ofS a0 a1) = x at *
      generalize S8 (ofS b0 b1) = y at *
      go_enter Tryd.func4, Tryd.ntmps4
      go_wp2_with fail
      rw [← hW2]; (refine wp_region_later (w.heap.size + 2) (by kernel_rfl) (by kernel_rfl) ?_); (repeat (go_big_quiet_step ((first | (go_at_call 9; with_reducible exact later_of _ hle (HX.out _ (Later.h _))) | (go_at_call 9; with_reducible exact later_of _ hle (HY.out _ (Later.h _))))))); (refine wpQuiet_nil ?_); intro _ hw'; (obtain ⟨u, hw''⟩ := hw'); subst hw''; clear hcell1 hcell2; have hb := u.h; obtain ⟨z1, z2, z3, z4⟩ := HCE.out _ hb
      by_cases hk : k = 0
      · have hk0 : (k == 0) = true := by simp [hk]
        clear hk; (go_wp2_with (first | (go_at_call 7; (with_reducible refine (HKX.out _ hb).mono ?_); rintro e w3 ⟨rfl, hb⟩; obtain ⟨z1, z2, z3, z4⟩ := HCE.out _ hb) | (go_at_call 7; (with_reducible refine (HK.out _ hb).mono ?_); rintro e w3 ⟨rfl, hb⟩) | (go_at_call 9; (with_reducible refine (HBK.out _ hb).mono ?_); rintro e w3 ⟨rfl, hb⟩) | (go_at_call 6; (with_reducible refine (HA.out _ hb).mono ?_); rintro e w3 ⟨rfl, hb⟩))); go_ret; exact ⟨rfl, HBW.out _ (by assumption)⟩
      · have hk0 : (k == 0) = false := by simp [hk]
        have HBK := Lib.hid (HB.out hk)
        clear hk; (go_wp2_with (first | (go_at_call 7; (with_reducible refine (HKX.out _ hb).mono ?_); rintro e w3 ⟨rfl, hb⟩; obtain ⟨z1, z2, z3, z4⟩ := HCE.out _ hb) | (go_at_call 7; (with_reducible refine (HK.out _ hb).mono ?_); rintro e w3 ⟨rfl, hb⟩) | (go_at_call 9; (with_reducible refine (HBK.out _ hb).mono ?_); rintro e w3 ⟨rfl, hb⟩) | (go_at_call 6; (with_reducible refine (HA.out _ hb).mono ?_); rintro e w3 ⟨rfl, hb⟩))); go_ret; exact ⟨rfl, HBW.out _ (by assumption)⟩
    · have hxe : (S8 (ofS a0 a1)).toList.isEmpty = false := by rw [S8_emp]; simpa using hx
      have hD := two_names (b0 := b0) (b1 := b1) hx
      have hyx : ((S8 (ofS a0 a1)).toList == (S8 (ofS b0 b1)).toList) = decide (ofS a0 a1 = ofS b0 b1) := S8_eq
      clear hx
      rcases hD with ⟨d1, d2, d3, d4⟩ | ⟨d1, d2, d4⟩
      · have HKX := Lib.hid (HKX' _ d2)
        clear HKX' d2
        have d5 : ¬ 2 < a0 := by omega
        have d6 : a0 < 3 := by omega
        have d7 : (a1 != 0) = true := by simp [d3]
        by_cases he : ofS a0 a1 = ofS b0 b1
        · obtain ⟨rfl, rfl⟩ := d4 he
          rw [decide_eq_true he] at hyx
          clear he d1 d3 d4
          generalize S8 (ofS a0 a1) = x at *
          go_enter Tryd.func4, Tryd.ntmps4; go_wp2_with fail; rw [← hW2]; (refine wp_region_later (w.heap.size + 2) (by kernel_rfl) (by kernel_rfl) ?_); (repeat (go_big_quiet_step ((first | (go_at_call 9; with_reducible exact later_of _ hle (HX.out _ (Later.h _))) | (go_at_call 9; with_reducible exact later_of _ hle (HY.out _ (Later.h _))))))); (refine wpQuiet_nil ?_); intro _ hw'; (obtain ⟨u, hw''⟩ := hw'); subst hw''; clear hcell1 hcell2; have hb := u.h; obtain ⟨z1, z2, z3, z4⟩ := HCE.out _ hb; by_cases hk : k = 0; (have hk0 : (k == 0) = true := (by simp [hk]); clear hk; (go_wp2_with (first | (go_at_call 7; (with_reducible refine (HKX.out _ hb).mono ?_); rintro e w3 ⟨rfl, hb⟩; obtain ⟨z1, z2, z3, z4⟩ := HCE.out _ hb) | (go_at_call 7; (with_reducible refine (HK.out _ hb).mono ?_); rintro e w3 ⟨rfl, hb⟩) | (go_at_call 9; (with_reducible refine (HBK.out _ hb).mono ?_); rintro e w3 ⟨rfl, hb⟩) | (go_at_call 6; (with_reducible refine (HA.out _ hb).mono ?_); rintro e w3 ⟨rfl, hb⟩))); go_ret; exact ⟨rfl, HBW.out _ (by assumption)⟩); have hk0 : (k == 0) = false := (by simp [hk]); have HBK := Lib.hid (HB.out hk); clear hk; (go_wp2_with (first | (go_at_call 7; (with_reducible refine (HKX.out _ hb).mono ?_); rintro e w3 ⟨rfl, hb⟩; obtain ⟨z1, z2, z3, z4⟩ := HCE.out _ hb) | (go_at_call 7; (with_reducible refine (HK.out _ hb).mono ?_); rintro e w3 ⟨rfl, hb⟩) | (go_at_call 9; (with_reducible refine (HBK.out _ hb).mono ?_); rintro e w3 ⟨rfl, hb⟩) | (go_at_call 6; (with_reducible refine (HA.out _ hb).mono ?_); rintro e w3 ⟨rfl, hb⟩))); go_ret; exact ⟨rfl, HBW.out _ (by assumption)⟩
        · rw [decide_eq_false he] at hyx
          clear he d1 d3 d4
          generalize S8 (ofS a0 a1) = x at *
          generalize S8 (ofS b0 b1) = y at *
          go_enter Tryd.func4, Tryd.ntmps4; go_wp2_with fail; rw [← hW2]; (refine wp_region_later (w.heap.size + 2) (by kernel_rfl) (by kernel_rfl) ?_); (repeat (go_big_quiet_step ((first | (go_at_call 9; with_reducible exact later_of _ hle (HX.out _ (Later.h _))) | (go_at_call 9; with_reducible exact later_of _ hle (HY.out _ (Later.h _))))))); (refine wpQuiet_nil ?_); intro _ hw'; (obtain ⟨u, hw''⟩ := hw'); subst hw''; clear hcell1 hcell2; have hb := u.h; obtain ⟨z1, z2, z3, z4⟩ := HCE.out _ hb; by_cases hk : k = 0; (have hk0 : (k == 0) = true := (by simp [hk]); clear hk; (go_wp2_with (first | (go_at_call 7; (with_reducible refine (HKX.out _ hb).mono ?_); rintro e w3 ⟨rfl, hb⟩; obtain ⟨z1, z2, z3, z4⟩ := HCE.out _ hb) | (go_at_call 7; (with_reducible refine (HK.out _ hb).mono ?_); rintro e w3 ⟨rfl, hb⟩) | (go_at_call 9; (with_reducible refine (HBK.out _ hb).mono ?_); rintro e w3 ⟨rfl, hb⟩) | (go_at_call 6; (with_reducible refine (HA.out _ hb).mono ?_); rintro e w3 ⟨rfl, hb⟩))); go_ret; exact ⟨rfl, HBW.out _ (by assumption)⟩); have hk0 : (k == 0) = false := (by simp [hk]); have HBK := Lib.hid (HB.out hk); clear hk; (go_wp2_with (first | (go_at_call 7; (with_reducible refine (HKX.out _ hb).mono ?_); rintro e w3 ⟨rfl, hb⟩; obtain ⟨z1, z2, z3, z4⟩ := HCE.out _ hb) | (go_at_call 7; (with_reducible refine (HK.out _ hb).mono ?_); rintro e w3 ⟨rfl, hb⟩) | (go_at_call 9; (with_reducible refine (HBK.out _ hb).mono ?_); rintro e w3 ⟨rfl, hb⟩) | (go_at_call 6; (with_reducible refine (HA.out _ hb).mono ?_); rintro e w3 ⟨rfl, hb⟩))); go_ret; exact ⟨rfl, HBW.out _ (by assumption)⟩
      · have HKX := Lib.hid (HKX' _ d2)
        clear HKX' d2
        have d6 : ¬ a0 < 3 := by omega
        have d7 : (a0 == 1) = false := by simp; omega
        have d8 : (a0 == 2) = false := by simp; omega
        by_cases he : ofS a0 a1 = ofS b0 b1
        · obtain rfl := d4 he
          rw [decide_eq_true he] at hyx
          clear he d4
          generalize S8 (ofS a0 a1) = x at *
          generalize S8 (ofS a0 b1) = y at *
          by_cases h0 : a1 = 0
          · have h00 : ((0 : Int) != a1) = false := by simp [h0]
            clear h0
            go_enter Tryd.func4, Tryd.ntmps4; go_wp2_with fail; rw [← hW2]; (refine wp_region_later (w.heap.size + 2) (by kernel_rfl) (by kernel_rfl) ?_); (repeat (go_big_quiet_step ((first | (go_at_call 9; with_reducible exact later_of _ hle (HX.out _ (Later.h _))) | (go_at_call 9; with_reducible exact later_of _ hle (HY.out _ (Later.h _))))))); (refine wpQuiet_nil ?_); intro _ hw'; (obtain ⟨u, hw''⟩ := hw'); subst hw''; clear hcell1 hcell2; have hb := u.h; obtain ⟨z1, z2, z3, z4⟩ := HCE.out _ hb; by_cases hk : k = 0; (have hk0 : (k == 0) = true := (by simp [hk]); clear hk; (go_wp2_with (first | (go_at_call 7; (with_reducible refine (HKX.out _ hb).mono ?_); rintro e w3 ⟨rfl, hb⟩; obtain ⟨z1, z2, z3, z4⟩ := HCE.out _ hb) | (go_at_call 7; (with_reducible refine (HK.out _ hb).mono ?_); rintro e w3 ⟨rfl, hb⟩) | (go_at_call 9; (with_reducible refine (HBK.out _ hb).mono ?_); rintro e w3 ⟨rfl, hb⟩) | (go_at_call 6; (with_reducible refine (HA.out _ hb).mono ?_); rintro e w3 ⟨rfl, hb⟩))); go_ret; exact ⟨rfl, HBW.out _ (by assumption)⟩); have hk0 : (k == 0) = false := (by simp [hk]); have HBK := Lib.hid (HB.out hk); clear hk; (go_wp2_with (first | (go_at_call 7; (with_reducible refine (HKX.out _ hb).mono ?_); rintro e w3 ⟨rfl, hb⟩; obtain ⟨z1, z2, z3, z4⟩ := HCE.out _ hb) | (go_at_call 7; (with_reducible refine (HK.out _ hb).mono ?_); rintro e w3 ⟨rfl, hb⟩) | (go_at_call 9; (with_reducible refine (HBK.out _ hb).mono ?_); rintro e w3 ⟨rfl, hb⟩) | (go_at_call 6; (with_reducible refine (HA.out _ hb).mono ?_); rintro e w3 ⟨rfl, hb⟩))); go_ret; exact ⟨rfl, HBW.out _ (by assumption)⟩
          · have h00 : ((0 : Int) != a1) = true := by simp; omega
            clear h0
            go_enter Tryd.func4, Tryd.ntmps4; go_wp2_with fail; rw [← hW2]; (refine wp_region_later (w.heap.size + 2) (by kernel_rfl) (by kernel_rfl) ?_); (repeat (go_big_quiet_step ((first | (go_at_call 9; with_reducible exact later_of _ hle (HX.out _ (Later.h _))) | (go_at_call 9; with_reducible exact later_of _ hle (HY.out _ (Later.h _))))))); (refine wpQuiet_nil ?_); intro _ hw'; (obtain ⟨u, hw''⟩ := hw'); subst hw''; clear hcell1 hcell2; have hb := u.h; obtain ⟨z1, z2, z3, z4⟩ := HCE.out _ hb; by_cases hk : k = 0; (have hk0 : (k == 0) = true := (by simp [hk]); clear hk; (go_wp2_with (first | (go_at_call 7; (with_reducible refine (HKX.out _ hb).mono ?_); rintro e w3 ⟨rfl, hb⟩; obtain ⟨z1, z2, z3, z4⟩ := HCE.out _ hb) | (go_at_call 7; (with_reducible refine (HK.out _ hb).mono ?_); rintro e w3 ⟨rfl, hb⟩) | (go_at_call 9; (with_reducible refine (HBK.out _ hb).mono ?_); rintro e w3 ⟨rfl, hb⟩) | (go_at_call 6; (with_reducible refine (HA.out _ hb).mono ?_); rintro e w3 ⟨rfl, hb⟩))); go_ret; exact ⟨rfl, HBW.out _ (by assumption)⟩); have hk0 : (k == 0) = false := (by simp [hk]); have HBK := Lib.hid (HB.out hk); clear hk; (go_wp2_with (first | (go_at_call 7; (with_reducible refine (HKX.out _ hb).mono ?_); rintro e w3 ⟨rfl, hb⟩; obtain ⟨z1, z2, z3, z4⟩ := HCE.out _ hb) | (go_at_call 7; (with_reducible refine (HK.out _ hb).mono ?_); rintro e w3 ⟨rfl, hb⟩) | (go_at_call 9; (with_reducible refine (HBK.out _ hb).mono ?_); rintro e w3 ⟨rfl, hb⟩) | (go_at_call 6; (with_reducible refine (HA.out _ hb).mono ?_); rintro e w3 ⟨rfl, hb⟩))); go_ret; exact ⟨rfl, HBW.out _ (by assumption)⟩
        · rw [decide_eq_false he] at hyx
          clear he d4
          generalize S8 (ofS a0 a1) = x at *
          generalize S8 (ofS b0 b1) = y at *
          by_cases h0 : a1 = 0
          · have h00 : ((0 : Int) != a1) = false := by simp [h0]
            clear h0
            go_enter Tryd.func4, Tryd.ntmps4; go_wp2_with fail; rw [← hW2]; (refine wp_region_later (w.heap.size + 2) (by kernel_rfl) (by kernel_rfl) ?_); (repeat (go_big_quiet_step ((first | (go_at_call 9; with_reducible exact later_of _ hle (HX.out _ (Later.h _))) | (go_at_call 9; with_reducible exact later_of _ hle (HY.out _ (Later.h _))))))); (refine wpQuiet_nil ?_); intro _ hw'; (obtain ⟨u, hw''⟩ := hw'); subst hw''; clear hcell1 hcell2; have hb := u.h; obtain ⟨z1, z2, z3, z4⟩ := HCE.out _ hb; by_cases hk : k = 0; (have hk0 : (k == 0) = true := (by simp [hk]); clear hk; (go_wp2_with (first | (go_at_call 7; (with_reducible refine (HKX.out _ hb).mono ?_); rintro e w3 ⟨rfl, hb⟩; obtain ⟨z1, z2, z3, z4⟩ := HCE.out _ hb) | (go_at_call 7; (with_reducible refine (HK.out _ hb).mono ?_); rintro e w3 ⟨rfl, hb⟩) | (go_at_call 9; (with_reducible refine (HBK.out _ hb).mono ?_); rintro e w3 ⟨rfl, hb⟩) | (go_at_call 6; (with_reducible refine (HA.out _ hb).mono ?_); rintro e w3 ⟨rfl, hb⟩))); go_ret; exact ⟨rfl, HBW.out _ (by assumption)⟩); have hk0 : (k == 0) = false := (by simp [hk]); have HBK := Lib.hid (HB.out hk); clear hk; (go_wp2_with (first | (go_at_call 7; (with_reducible refine (HKX.out _ hb).mono ?_); rintro e w3 ⟨rfl, hb⟩; obtain ⟨z1, z2, z3, z4⟩ := HCE.out _ hb) | (go_at_call 7; (with_reducible refine (HK.out _ hb).mono ?_); rintro e w3 ⟨rfl, hb⟩) | (go_at_call 9; (with_reducible refine (HBK.out _ hb).mono ?_); rintro e w3 ⟨rfl, hb⟩) | (go_at_call 6; (with_reducible refine (HA.out _ hb).mono ?_); rintro e w3 ⟨rfl, hb⟩))); go_ret; exact ⟨rfl, HBW.out _ (by assumption)⟩
          · have h00 : ((0 : Int) != a1) = true := by simp; omega
            clear h0
            go_enter Tryd.func4, Tryd.ntmps4; go_wp2_with fail; rw [← hW2]; (refine wp_region_later (w.heap.size + 2) (by kernel_rfl) (by kernel_rfl) ?_); (repeat (go_big_quiet_step ((first | (go_at_call 9; with_reducible exact later_of _ hle (HX.out _ (Later.h _))) | (go_at_call 9; with_reducible exact later_of _ hle (HY.out _ (Later.h _))))))); (refine wpQuiet_nil ?_); intro _ hw'; (obtain ⟨u, hw''⟩ := hw'); subst hw''; clear hcell1 hcell2; have hb := u.h; obtain ⟨z1, z2, z3, z4⟩ := HCE.out _ hb; by_cases hk : k = 0; (have hk0 : (k == 0) = true := (by simp [hk]); clear hk; (go_wp2_with (first | (go_at_call 7; (with_reducible refine (HKX.out _ hb).mono ?_); rintro e w3 ⟨rfl, hb⟩; obtain ⟨z1, z2, z3, z4⟩ := HCE.out _ hb) | (go_at_call 7; (with_reducible refine (HK.out _ hb).mono ?_); rintro e w3 ⟨rfl, hb⟩) | (go_at_call 9; (with_reducible refine (HBK.out _ hb).mono ?_); rintro e w3 ⟨rfl, hb⟩) | (go_at_call 6; (with_reducible refine (HA.out _ hb).mono ?_); rintro e w3 ⟨rfl, hb⟩))); go_ret; exact ⟨rfl, HBW.out _ (by assumption)⟩); have hk0 : (k == 0) = false := (by simp [hk]); have HBK := Lib.hid (HB.out hk); clear hk; (go_wp2_with (first | (go_at_call 7; (with_reducible refine (HKX.out _ hb).mono ?_); rintro e w3 ⟨rfl, hb⟩; obtain ⟨z1, z2, z3, z4⟩ := HCE.out _ hb) | (go_at_call 7; (with_reducible refine (HK.out _ hb).mono ?_); rintro e w3 ⟨rfl, hb⟩) | (go_at_call 9; (with_reducible refine (HBK.out _ hb).mono ?_); rintro e w3 ⟨rfl, hb⟩) | (go_at_call 6; (with_reducible refine (HA.out _ hb).mono ?_); rintro e w3 ⟨rfl, hb⟩))); go_ret; exact ⟨rfl, HBW.out _ (by assumption)⟩
  · have h101 : 100 < s.size := by omega
    go_enter Tryd.func4, Tryd.ntmps4
    go_wp2_with (first | (rw [← hW2]; go_at_call 6; (with_reducible refine (HA.out _ hbs).mono ?_); rintro e w1 ⟨rfl, b1⟩) | (go_at_call 6; rw [← hW2]; (with_reducible refine (HA.out _ hbs).mono ?_); rintro e w1 ⟨rfl, b1⟩))
    go_ret
    exact ⟨rfl, HBW.out _ b1⟩
end Go.Proofs.YtmkaijjakcjflaaDoor
