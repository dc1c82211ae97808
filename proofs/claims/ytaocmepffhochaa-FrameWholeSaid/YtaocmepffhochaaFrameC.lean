/- Walks of layer 6's reference: a frame taken. -/
import Derived.Test.YtaocmepffhochaaFrameB
namespace Go.Proofs.Ytaocmepffhochaa
open Go.ChangeShapes Go.WideShapes Go.ChangeAt Go.RowKit Go.Deep BigP

theorem ref_num4 (s : ByteArray) (n : Nat) (h1 : 16 ≤ s.size) (h2 : num 0 (s.data.toList.take 4) = n) (w : World) :
    Calls Try.prog 54 #[.string (s.extract 0 4)] w fun e w' => e = .returned (.int .i64 (n : Int)) ∧ w = w' := by
  have hn := ref_back6 (s.extract 0 4) (by rw [ByteArray.size_extract]; omega) w
  have hlt := sgn4 _ _ h2
  rw [ex_list] at hn
  simpa only [List.drop_zero, Nat.sub_zero, h2, FrameP.sgn_of n (by omega)] using hn
set_option maxRecDepth 100000 in
theorem ref_Take6_a (s : ByteArray) (h1 : s.size < 16) (w : World) :
    Calls Try.prog 35 #[.string s] w fun e w' => e = .returned (tfV ((0, []), 0, 3)) ∧ Below w.heap.size w w' := by
  go_enter Try.func35, Try.ntmps35
  go_wp2_with fail
  refine bodyPost_ret (v := tfV ((0, []), 0, 3)) (by simp [results, Try.results35, go_sem, tfV]) rfl ⟨rfl, by (repeat (first | assumption | exact Below.refl _ _ | refine below_step (by assumption) ?_ | refine below_alloc' _ ?_ | refine below_drewN ?_ _ | refine Below.drew ?_))⟩
set_option maxRecDepth 100000 in
theorem ref_Take6_b (s : ByteArray) (n : Nat) (hs : s.size ≤ maxLen) (h1 : 16 ≤ s.size) (h2 : num 0 (s.data.toList.take 4) = n) (h3 : 65536 < n) (w : World) :
    Calls Try.prog 35 #[.string s] w fun e w' => e = .returned (tfV ((0, []), 0, 12)) ∧ Below w.heap.size w w' := by
  have hn := Lib.hid (ref_num4 s n h1 h2)
  unfold maxLen at hs
  clear h2
  go_enter Try.func35, Try.ntmps35
  go_wp2_with fail
  refine (hn.out _).mono ?_
  rintro e w1 ⟨rfl, rfl⟩
  go_wp2_with fail
  refine bodyPost_ret (v := tfV ((0, []), 0, 12)) (by simp [results, Try.results35, go_sem, tfV]) rfl ⟨rfl, by (repeat (first | assumption | exact Below.refl _ _ | refine below_step (by assumption) ?_ | refine below_alloc' _ ?_ | refine below_drewN ?_ _ | refine Below.drew ?_))⟩
set_option maxRecDepth 100000 in
theorem ref_Take6_c (s : ByteArray) (n : Nat) (hs : s.size ≤ maxLen) (h1 : 16 ≤ s.size) (h2 : num 0 (s.data.toList.take 4) = n) (h3 : n ≤ 65536) (h4 : s.size < 16 + n) (w : World) :
    Calls Try.prog 35 #[.string s] w fun e w' => e = .returned (tfV ((0, []), 0, 3)) ∧ Below w.heap.size w w' := by
  have hn := Lib.hid (ref_num4 s n h1 h2)
  unfold maxLen at hs
  clear h2
  go_enter Try.func35, Try.ntmps35
  go_wp2_with fail
  refine (hn.out _).mono ?_
  rintro e w1 ⟨rfl, rfl⟩
  go_wp2_with fail
  refine bodyPost_ret (v := tfV ((0, []), 0, 3)) (by simp [results, Try.results35, go_sem, tfV]) rfl ⟨rfl, by (repeat (first | assumption | exact Below.refl _ _ | refine below_step (by assumption) ?_ | refine below_alloc' _ ?_ | refine below_drewN ?_ _ | refine Below.drew ?_))⟩

theorem ex48 (s : ByteArray) (n : Nat) : (s.extract 0 4 ++ s.extract 8 (16 + n)).data.toList = s.data.toList.take 4 ++ (s.data.toList.drop 8).take (8 + n) := by
  rw [ba_tl, ex_list, ex_list, List.drop_zero, Nat.sub_zero, show 16 + n - 8 = 8 + n by omega]
set_option maxRecDepth 100000 in
set_option maxHeartbeats 4000000 in
theorem ref_Take6_d (s : ByteArray) (n : Nat) (hs : s.size ≤ maxLen) (h1 : 16 ≤ s.size) (h2 : num 0 (s.data.toList.take 4) = n) (h3 : n ≤ 65536) (h4 : 16 + n ≤ s.size)
    (h5 : FrameP.crc (s.data.toList.take 4 ++ (s.data.toList.drop 8).take (8 + n)) ≠ num 0 ((s.data.toList.drop 4).take 4)) (w : World) :
    Calls Try.prog 35 #[.string s] w fun e w' => e = .returned (tfV ((0, []), 0, 4)) ∧ Below w.heap.size w w' := by
  have hn := Lib.hid (ref_num4 s n h1 h2)
  have hn2 := ref_back6 (s.extract 8 16) (by rw [ByteArray.size_extract]; omega)
  rw [ex_list] at hn2
  have hI := sgn8 s.data.toList
  have hn3 := ref_back6 (s.extract 4 8) (by rw [ByteArray.size_extract]; omega)
  have h48 : num 0 ((s.data.toList.drop 4).take 4) < 4294967296 := by
    have := num_lt ((s.data.toList.drop 4).take 4)
    have h5 : (256 : Nat) ^ ((s.data.toList.drop 4).take 4).length ≤ 256 ^ 4 := Nat.pow_le_pow_right (by omega) (by rw [List.length_take]; omega)
    omega
  rw [ex_list, show 8 - 4 = 4 from rfl, FrameP.sgn_of _ (by omega)] at hn3
  have hsum := gossamerref02_Sum (s.extract 0 4 ++ s.extract 8 (16 + n)) (by rw [ByteArray.size_append, ByteArray.size_extract, ByteArray.size_extract]; unfold maxLen; omega)
  rw [ex48 s n, crcN_crc] at hsum
  have zz : (s.extract 0 4).size ≤ 4 := by rw [ByteArray.size_extract]; omega
  have zz2 : (s.extract 8 (16 + n)).size ≤ 65544 := by rw [ByteArray.size_extract]; omega
  unfold maxLen at hs
  generalize FrameP.sgn (num 0 ((s.data.toList.drop 8).take (16 - 8))) = q at hn2 hI
  generalize FrameP.crc (s.data.toList.take 4 ++ (s.data.toList.drop 8).take (8 + n)) = cc at h5 hsum
  generalize num 0 ((s.data.toList.drop 4).take 4) = c2 at h5 hn3
  have hne : ((c2 : Int) != (cc : Int)) = true := by rw [bne_iff_ne]; omega
  have HN2 := Lib.hid hn2
  have HN3 := Lib.hid hn3
  have HSUM := Lib.hid hsum
  clear h2 h5 h48 hn2 hn3 hsum
  have g1 : (4 : Int) ≤ (s.size : Int) := by omega
  have g2 : (8 : Int) ≤ (s.size : Int) := by omega
  have g3 : (0 : Int) ≤ 16 + (n : Int) := by omega
  have g4 : (8 : Int) ≤ 16 + (n : Int) := by omega
  have g5 : 16 + (n : Int) ≤ (s.size : Int) := by omega
  have g6 : (16 : Int) ≤ 16 + (n : Int) := by omega
  have g7 : (16 : Int) ≤ (s.size : Int) := by omega
  have g8 : (0 : Int) ≤ (n : Int) := by omega
  have gtn : (16 + (n : Int)).toNat = 16 + n := by omega
  go_enter Try.func35, Try.ntmps35
  go_wp2_with fail
  refine (hn.out _).mono ?_
  rintro e w1 ⟨rfl, rfl⟩
  go_wp2_with fail
  refine wp_region_later (w.heap.size + 1) (by kernel_rfl) (by kernel_rfl) ?_
  repeat (go_big_quiet_step ((first
    | (go_at_call 54; with_reducible exact later_of_same _ (HN3.out _))
    | (go_at_call 15; with_reducible exact later_of_same _ (HSUM.out _)))))
  refine wpQuiet_nil ?_; intro _ hw'; obtain ⟨u, hw''⟩ := hw'; subst hw''
  have hbN : Below (w.alloc (.cells #[.int .i64 0, .string ⟨#[]⟩] 44)).heap.size (w.alloc (.cells #[.int .i64 0, .string ⟨#[]⟩] 44)) u.w := by rw [World.size_alloc]; exact u.h
  obtain ⟨c0, c1, f0, f1, hbw⟩ := box2 hbN
  clear hbN
  go_wp2_with fail
  refine bodyPost_ret (v := tfV ((0, []), 0, 4)) (by simp [results, Try.results35, go_sem, tfV, c0, c1]) rfl ⟨rfl, (hbw.setCell (Nat.le_refl _) _).setCell (Nat.le_refl _) _⟩
set_option maxRecDepth 100000 in
set_option maxHeartbeats 4000000 in
theorem ref_Take6_e (s : ByteArray) (n : Nat) (hs : s.size ≤ maxLen) (h1 : 16 ≤ s.size) (h2 : num 0 (s.data.toList.take 4) = n) (h3 : n ≤ 65536) (h4 : 16 + n ≤ s.size)
    (h5 : FrameP.crc (s.data.toList.take 4 ++ (s.data.toList.drop 8).take (8 + n)) = num 0 ((s.data.toList.drop 4).take 4))
    (h6 : FrameP.sgn (num 0 ((s.data.toList.drop 8).take 8)) < 1) (w : World) :
    Calls Try.prog 35 #[.string s] w fun e w' => e = .returned (tfV ((0, []), 0, 2)) ∧ Below w.heap.size w w' := by
  have hn := Lib.hid (ref_num4 s n h1 h2)
  have hn2 := ref_back6 (s.extract 8 16) (by rw [ByteArray.size_extract]; omega)
  rw [ex_list] at hn2
  have hI := sgn8 s.data.toList
  have hn3 := ref_back6 (s.extract 4 8) (by rw [ByteArray.size_extract]; omega)
  have h48 : num 0 ((s.data.toList.drop 4).take 4) < 4294967296 := by
    have := num_lt ((s.data.toList.drop 4).take 4)
    have h5 : (256 : Nat) ^ ((s.data.toList.drop 4).take 4).length ≤ 256 ^ 4 := Nat.pow_le_pow_right (by omega) (by rw [List.length_take]; omega)
    omega
  rw [ex_list, show 8 - 4 = 4 from rfl, FrameP.sgn_of _ (by omega)] at hn3
  have hsum := gossamerref02_Sum (s.extract 0 4 ++ s.extract 8 (16 + n)) (by rw [ByteArray.size_append, ByteArray.size_extract, ByteArray.size_extract]; unfold maxLen; omega)
  rw [ex48 s n, crcN_crc] at hsum
  have zz : (s.extract 0 4).size ≤ 4 := by rw [ByteArray.size_extract]; omega
  have zz2 : (s.extract 8 (16 + n)).size ≤ 65544 := by rw [ByteArray.size_extract]; omega
  unfold maxLen at hs
  generalize FrameP.sgn (num 0 ((s.data.toList.drop 8).take (16 - 8))) = q at hn2 hI h6
  generalize FrameP.crc (s.data.toList.take 4 ++ (s.data.toList.drop 8).take (8 + n)) = cc at h5 hsum
  generalize num 0 ((s.data.toList.drop 4).take 4) = c2 at h5 hn3
  have hne : ((c2 : Int) != (cc : Int)) = false := by rw [bne_eq_false_iff_eq]; omega
  have HN2 := Lib.hid hn2
  have HN3 := Lib.hid hn3
  have HSUM := Lib.hid hsum
  clear h2 h5 h48 hn2 hn3 hsum
  have g1 : (4 : Int) ≤ (s.size : Int) := by omega
  have g2 : (8 : Int) ≤ (s.size : Int) := by omega
  have g3 : (0 : Int) ≤ 16 + (n : Int) := by omega
  have g4 : (8 : Int) ≤ 16 + (n : Int) := by omega
  have g5 : 16 + (n : Int) ≤ (s.size : Int) := by omega
  have g6 : (16 : Int) ≤ 16 + (n : Int) := by omega
  have g7 : (16 : Int) ≤ (s.size : Int) := by omega
  have g8 : (0 : Int) ≤ (n : Int) := by omega
  have gtn : (16 + (n : Int)).toNat = 16 + n := by omega
  go_enter Try.func35, Try.ntmps35
  go_wp2_with fail
  refine (hn.out _).mono ?_
  rintro e w1 ⟨rfl, rfl⟩
  go_wp2_with fail
  refine wp_region_later (w.heap.size + 1) (by kernel_rfl) (by kernel_rfl) ?_
  repeat (go_big_quiet_step ((first
    | (go_at_call 54; with_reducible exact later_of_same _ (HN3.out _))
    | (go_at_call 15; with_reducible exact later_of_same _ (HSUM.out _)))))
  refine wpQuiet_nil ?_; intro _ hw'; obtain ⟨u, hw''⟩ := hw'; subst hw''
  have hbN : Below (w.alloc (.cells #[.int .i64 0, .string ⟨#[]⟩] 44)).heap.size (w.alloc (.cells #[.int .i64 0, .string ⟨#[]⟩] 44)) u.w := by rw [World.size_alloc]; exact u.h
  obtain ⟨c0, c1, f0, f1, hbw⟩ := box2 hbN
  clear hbN
  go_wp2_with (go_at_call 54; with_reducible refine (HN2.out _).mono ?_; rintro e w1 ⟨rfl, rfl⟩)
  refine bodyPost_ret (v := tfV ((0, []), 0, 2)) (by simp [results, Try.results35, go_sem, tfV, c0, c1]) rfl ⟨rfl, (hbw.setCell (Nat.le_refl _) _).setCell (Nat.le_refl _) _⟩
set_option maxRecDepth 100000 in
set_option maxHeartbeats 4000000 in
theorem ref_Take6_f (s : ByteArray) (n : Nat) (hs : s.size ≤ maxLen) (h1 : 16 ≤ s.size) (h2 : num 0 (s.data.toList.take 4) = n) (h3 : n ≤ 65536) (h4 : 16 + n ≤ s.size)
    (h5 : FrameP.crc (s.data.toList.take 4 ++ (s.data.toList.drop 8).take (8 + n)) = num 0 ((s.data.toList.drop 4).take 4))
    (h6 : ¬ FrameP.sgn (num 0 ((s.data.toList.drop 8).take 8)) < 1) (w : World) :
    Calls Try.prog 35 #[.string s] w fun e w' => e = .returned (tfV ((FrameP.sgn (num 0 ((s.data.toList.drop 8).take 8)), (s.data.toList.drop 16).take n), 16 + n, 0)) ∧ Below w.heap.size w w' := by
  have hn := Lib.hid (ref_num4 s n h1 h2)
  have hn2 := ref_back6 (s.extract 8 16) (by rw [ByteArray.size_extract]; omega)
  rw [ex_list] at hn2
  have hI := sgn8 s.data.toList
  have hn3 := ref_back6 (s.extract 4 8) (by rw [ByteArray.size_extract]; omega)
  have h48 : num 0 ((s.data.toList.drop 4).take 4) < 4294967296 := by
    have := num_lt ((s.data.toList.drop 4).take 4)
    have h5 : (256 : Nat) ^ ((s.data.toList.drop 4).take 4).length ≤ 256 ^ 4 := Nat.pow_le_pow_right (by omega) (by rw [List.length_take]; omega)
    omega
  rw [ex_list, show 8 - 4 = 4 from rfl, FrameP.sgn_of _ (by omega)] at hn3
  have hsum := gossamerref02_Sum (s.extract 0 4 ++ s.extract 8 (16 + n)) (by rw [ByteArray.size_append, ByteArray.size_extract, ByteArray.size_extract]; unfold maxLen; omega)
  rw [ex48 s n, crcN_crc] at hsum
  have zz : (s.extract 0 4).size ≤ 4 := by rw [ByteArray.size_extract]; omega
  have zz2 : (s.extract 8 (16 + n)).size ≤ 65544 := by rw [ByteArray.size_extract]; omega
  have HB := Lib.hid (show (⟨((s.data.toList.drop 16).take n).toArray⟩ : ByteArray) = s.extract 16 (16 + n) from ba_ext' (by rw [ex_list, show 16 + n - 16 = n by omega]))
  unfold tfV
  simp only
  rw [HB.out]
  unfold maxLen at hs
  generalize FrameP.sgn (num 0 ((s.data.toList.drop 8).take (16 - 8))) = q at hn2 hI h6 ⊢
  generalize FrameP.crc (s.data.toList.take 4 ++ (s.data.toList.drop 8).take (8 + n)) = cc at h5 hsum
  generalize num 0 ((s.data.toList.drop 4).take 4) = c2 at h5 hn3
  have hne : ((c2 : Int) != (cc : Int)) = false := by rw [bne_eq_false_iff_eq]; omega
  have HN2 := Lib.hid hn2
  have HN3 := Lib.hid hn3
  have HSUM := Lib.hid hsum
  clear h2 h5 h48 hn2 hn3 hsum
  have g1 : (4 : Int) ≤ (s.size : Int) := by omega
  have g2 : (8 : Int) ≤ (s.size : Int) := by omega
  have g3 : (0 : Int) ≤ 16 + (n : Int) := by omega
  have g4 : (8 : Int) ≤ 16 + (n : Int) := by omega
  have g5 : 16 + (n : Int) ≤ (s.size : Int) := by omega
  have g6 : (16 : Int) ≤ 16 + (n : Int) := by omega
  have g7 : (16 : Int) ≤ (s.size : Int) := by omega
  have g8 : (0 : Int) ≤ (n : Int) := by omega
  have gtn : (16 + (n : Int)).toNat = 16 + n := by omega
  go_enter Try.func35, Try.ntmps35
  go_wp2_with fail
  refine (hn.out _).mono ?_
  rintro e w1 ⟨rfl, rfl⟩
  go_wp2_with fail
  refine wp_region_later (w.heap.size + 1) (by kernel_rfl) (by kernel_rfl) ?_
  repeat (go_big_quiet_step ((first
    | (go_at_call 54; with_reducible exact later_of_same _ (HN3.out _))
    | (go_at_call 15; with_reducible exact later_of_same _ (HSUM.out _)))))
  refine wpQuiet_nil ?_; intro _ hw'; obtain ⟨u, hw''⟩ := hw'; subst hw''
  have hbN : Below (w.alloc (.cells #[.int .i64 0, .string ⟨#[]⟩] 44)).heap.size (w.alloc (.cells #[.int .i64 0, .string ⟨#[]⟩] 44)) u.w := by rw [World.size_alloc]; exact u.h
  obtain ⟨c0, c1, f0, f1, hbw⟩ := box2 hbN
  clear hbN
  go_wp2_with (go_at_call 54; with_reducible refine (HN2.out _).mono ?_; rintro e w1 ⟨rfl, rfl⟩)
  have gw : IntKind.i64.wrap (16 + (n : Int)) = 16 + (n : Int) := IntWalk.i64_in _ (by omega)
  go_region_held3 (fun _ => True) (trivial) (first | (go_at_call 54; refine (HN2.out _).mono ?_; rintro e w3 ⟨rfl, rfl⟩))
  clear gw
  go_wp2_with fail
  rw [show ((16 + n : Nat) : Int) = 16 + (n : Int) by omega]
  refine bodyPost_ret (v := .tuple #[.agg #[.int .i64 q, .string (s.extract 16 (16 + n))], .int .i64 (16 + (n : Int)), .int .i64 0]) (by simp [results, Try.results35, go_sem, c0, c1]) rfl ⟨rfl, ((hbw.setCell (Nat.le_refl _) _).setCell (Nat.le_refl _) _).drew⟩

theorem ref_Take6 (s : ByteArray) (hs : s.size ≤ maxLen) (w : World) :
    Calls Try.prog 35 #[.string s] w fun e w' => e = .returned (tfV (FrameP.take s.data.toList)) ∧ Below w.heap.size w w' := by
  have hz : s.data.toList.length = s.size := rfl
  unfold FrameP.take
  rw [hz]
  by_cases h1 : s.size < 16
  · rw [if_pos h1]; exact ref_Take6_a s h1 w
  rw [if_neg h1]
  by_cases h2 : 65536 < num 0 (s.data.toList.take 4)
  · rw [if_pos h2]; exact ref_Take6_b s _ hs (by omega) rfl h2 w
  rw [if_neg h2]
  by_cases h3 : s.size < 16 + num 0 (s.data.toList.take 4)
  · rw [if_pos h3]; exact ref_Take6_c s _ hs (by omega) rfl (by omega) h3 w
  rw [if_neg h3]
  by_cases h4 : FrameP.crc (s.data.toList.take 4 ++ (s.data.toList.drop 8).take (8 + num 0 (s.data.toList.take 4))) ≠ num 0 ((s.data.toList.drop 4).take 4)
  · rw [if_pos h4]; exact ref_Take6_d s _ hs (by omega) rfl (by omega) (by omega) h4 w
  rw [if_neg h4]
  have h4' : FrameP.crc (s.data.toList.take 4 ++ (s.data.toList.drop 8).take (8 + num 0 (s.data.toList.take 4))) = num 0 ((s.data.toList.drop 4).take 4) := Decidable.not_not.1 h4
  by_cases h5 : FrameP.sgn (num 0 ((s.data.toList.drop 8).take 8)) < 1
  · rw [if_pos h5]; exact ref_Take6_e s _ hs (by omega) rfl (by omega) (by omega) h4' h5 w
  · rw [if_neg h5]; exact ref_Take6_f s _ hs (by omega) rfl (by omega) (by omega) h4' h5 w
end Go.Proofs.Ytaocmepffhochaa
