/- The statements of layer 1 (vari): the walk of VariBack. -/
import Derived.Test.YtaocmepffhochaaLaw01
namespace Go.Proofs.Ytaocmepffhochaa
open Go.ChangeShapes Go.WideShapes Go.ChangeAt Go.RowKit Go.Deep

theorem ba_toList (l : List UInt8) (s : ByteArray) : ((⟨l.toArray⟩ : ByteArray) ++ s).data.toList = l ++ s.data.toList := by
  rw [ByteArray.data_append, Array.toList_append]
theorem ba_eq (l : List UInt8) (s : ByteArray) (h : l = s.data.toList) : (⟨l.toArray⟩ : ByteArray) = s := by
  cases s; simp only [ByteArray.mk.injEq]; subst h; simp
theorem ba_len (l : List UInt8) : (⟨l.toArray⟩ : ByteArray).size = l.length := by show l.toArray.size = _; simp
/-- what is taken without an error was put so -/
theorem take_ok (lim : Nat) (h : lim = 9 ∨ lim = 10) (s : ByteArray) (h0 : (VariP.take lim s.data.toList).2.2 = 0) :
    1 ≤ (VariP.take lim s.data.toList).2.1 ∧ (VariP.take lim s.data.toList).2.1 ≤ s.size ∧ (⟨(VariP.put (VariP.take lim s.data.toList).1).toArray⟩ : ByteArray) = s.extract 0 (VariP.take lim s.data.toList).2.1 := by
  rcases ht : VariP.take lim s.data.toList with ⟨x, y, e⟩
  rw [ht] at h0
  simp only at h0
  subst h0
  obtain ⟨h1, h2, h3, h4, h5, h6⟩ := VariP.take_back lim h s.data.toList x y ht
  exact ⟨h1, h3, ba_eq _ _ (by rw [ex_take, h4])⟩
theorem take_bad (lim : Nat) (s : ByteArray) (h0 : (VariP.take lim s.data.toList).2.2 ≠ 0) : (VariP.take lim s.data.toList).1 = 0 ∧ (VariP.take lim s.data.toList).2.1 = 0 := by
  rcases VariP.take_err lim s.data.toList with h | ⟨h1, h2, _⟩
  · exact absurd h h0
  · exact ⟨h1, h2⟩

theorem law01_VariBack_long (n : Int) (s : ByteArray) (h : 100 < s.size) (w : World) :
    Calls Try.prog 7 #[.int .i64 n, .string s] w fun e w' => e = .returned (.bool true) ∧ Below w.heap.size w w' := by
  go_enter Try.func7, Try.ntmps7
  go_wp2_with (go_at_call 20; refine (law01_awake _).mono ?_; rintro e w1 ⟨rfl, hb1⟩)
  go_ret
  exact ⟨rfl, by (repeat (first | assumption | exact Below.refl _ _ | refine below_step (by assumption) ?_ | refine below_alloc' _ ?_ | refine below_drewN ?_ _ | refine Below.drew ?_))⟩

set_option maxHeartbeats 4000000 in
set_option maxRecDepth 100000 in
theorem law01_VariBack_short (n : Int) (hn : I64 n) (s : ByteArray) (h : s.size ≤ 100) (w : World) :
    Calls Try.prog 7 #[.int .i64 n, .string s] w fun e w' => e = .returned (.bool true) ∧ Below w.heap.size w w' := by
  -- the first taking
  have hq1 := Lib.hid (vari_PutSigned n hn)
  have hq2 := Lib.hid (vari_TakeSigned_at (sigB n ++ s) (by rw [ByteArray.size_append]; have := sigB_size n; unfold maxLen; omega) n (sigB n).size 0
    (by unfold sigB; rw [ba_toList, VariP.take_put10 _ _ (VariP.zig_lt n hn), VariP.zag_zig]) (by unfold sigB; rw [ba_toList, VariP.take_put10 _ _ (VariP.zig_lt n hn), ba_len]))
  have hqs := sigB_size n
  generalize sigB n = q at hq1 hq2 hqs
  -- what is taken of the text
  have ht1 := Lib.hid (vari_Take s (by unfold maxLen; omega))
  have ht2 := Lib.hid (vari_TakeSigned s (by unfold maxLen; omega))
  have x1 := take_ok 9 (.inl rfl) s
  have x2 := take_bad 9 s
  have xl := (take_lt 9 (.inl rfl) s.data.toList).2 rfl
  have y1 := take_ok 10 (.inr rfl) s
  have y2 := take_bad 10 s
  have yl := (take_lt 10 (.inr rfl) s.data.toList).1
  unfold tkI at ht1 ht2
  generalize VariP.take 9 s.data.toList = t at ht1 x1 x2 xl
  generalize VariP.take 10 s.data.toList = r at ht2 y1 y2 yl
  obtain ⟨tx, ty, te⟩ := t
  obtain ⟨rx, ry, re⟩ := r
  simp only at ht1 ht2 x1 x2 xl y1 y2 yl
  have X := Lib.hid (And.intro x1 x2)
  have Y := Lib.hid (show (re = 0 → I64 (VariP.zag rx) ∧ 1 ≤ ry ∧ ry ≤ s.size ∧ sigB (VariP.zag rx) = s.extract 0 ry) ∧ (re ≠ 0 → VariP.zag rx = 0 ∧ ry = 0) from
    ⟨fun e => ⟨VariP.zag_in rx yl, (y1 e).1, (y1 e).2.1, by unfold sigB; rw [VariP.zig_zag]; exact (y1 e).2.2⟩, fun e => ⟨by rw [(y2 e).1]; rfl, (y2 e).2⟩⟩)
  have XL := Lib.hid (show I64 (tx : Int) by unfold I64; omega)
  generalize VariP.zag rx = z at Y ht2
  clear x1 x2 y1 y2 yl xl
  by_cases hn0 : 0 ≤ n
  · have hp1 := Lib.hid (vari_Put n hn)
    have hp2 := Lib.hid (vari_Take_at (putB n ++ s) (by rw [ByteArray.size_append]; have := putB_size n; unfold maxLen; omega) n (putB n).size 0
      (by rw [putB_pos n hn0, ba_toList, VariP.take_put9 _ _ (by unfold I64 at hn; omega)]; simp only; omega) (by rw [putB_pos n hn0, ba_toList, VariP.take_put9 _ _ (by unfold I64 at hn; omega), ba_len]))
    have hps := putB_size n
    generalize putB n = p at hp1 hp2 hps
    clear hn
    go_enter Try.func7, Try.ntmps7
    go_wp2_with fail
    refine (hp1.out _).mono ?_
    rintro e w1 ⟨rfl, hb1⟩
    go_wp2_with fail
    refine (hq1.out _).mono ?_
    rintro e w2 ⟨rfl, hb2⟩
    go_wp2_with fail
    refine (hp2.out _).mono ?_
    rintro e w3 ⟨rfl, rfl⟩
    go_wp2_with fail
    refine (hq2.out _).mono ?_
    rintro e w3 ⟨rfl, rfl⟩
    go_wp2_with fail
    refine (ht1.out _).mono ?_
    rintro e w3 ⟨rfl, rfl⟩
    go_wp2_with fail
    refine (ht2.out _).mono ?_
    rintro e w3 ⟨rfl, rfl⟩
    go_wp2_with fail
    by_cases hte : te = 0
    · subst hte
      obtain ⟨a1, a2, a3⟩ := X.out.1 rfl
      have hput : ∀ w, Calls Try.prog 21 #[.int .i64 (tx : Int)] w fun e w' => e = .returned (.string (s.extract 0 ty)) ∧ Below w.heap.size w w' := by
        rw [← a3]
        have h1 := vari_Put (tx : Int) XL.out
        rwa [putB_pos _ (by omega), Int.toNat_natCast] at h1
      have HPUT := Lib.hid hput
      clear hput a3
      have b1 : decide ((ty : Int) < 1) = false := by simp; omega
      have b2 : decide (s.size < ty) = false := by simp; omega
      have b3 : decide ((tx : Int) < 0) = false := by simp
      refine wp_region_later w2.heap.size (by kernel_rfl) (by kernel_rfl) ?_
      repeat (go_big_quiet_step ((first
        | (go_at_call 21; with_reducible exact later_of _ (Nat.le_refl _) (HPUT.out _)))))
      refine wpQuiet_nil ?_; intro _ hw'; obtain ⟨u, hw''⟩ := hw'; subst hw''
      go_wp2_with fail
      by_cases hre : re = 0
      · subst hre
        obtain ⟨a0, a1, a2, a3⟩ := Y.out.1 rfl
        have hput : ∀ w, Calls Try.prog 23 #[.int .i64 z] w fun e w' => e = .returned (.string (s.extract 0 ry)) ∧ Below w.heap.size w w' := by
          rw [← a3]
          exact vari_PutSigned z a0
        have HPUT2 := Lib.hid hput
        clear hput a3 a0
        have b1 : decide ((ry : Int) < 1) = false := by simp; omega
        have b2 : decide (s.size < ry) = false := by simp; omega
        refine wp_region_at u (by kernel_rfl) (by kernel_rfl) ?_
        repeat (go_big_quiet_step ((first
          | (go_at_call 23; with_reducible exact later_of _ (Nat.le_refl _) (HPUT2.out _)))))
        refine wpQuiet_nil ?_; intro _ hw'; obtain ⟨u, hw''⟩ := hw'; subst hw''
        go_wp2_with fail
        refine (law01_awake _).mono ?_
        rintro e w4 ⟨rfl, hb4⟩
        go_wp2_with fail
        go_ret
        exact ⟨rfl, below_step hb4 (below_later (below_step hb2 hb1) u)⟩
      · obtain ⟨rfl, rfl⟩ := Y.out.2 hre
        have c1 : (re == 0) = false := by rw [beq_eq_false_iff_ne]; exact hre
        have c2 : (re != 0) = true := by rw [bne_iff_ne]; exact hre
        clear hre
        refine wp_region_at u (by kernel_rfl) (by kernel_rfl) ?_
        repeat (go_big_quiet_step (fail))
        refine wpQuiet_nil ?_; intro _ hw'; obtain ⟨u, hw''⟩ := hw'; subst hw''
        go_wp2_with fail
        refine (law01_awake _).mono ?_
        rintro e w4 ⟨rfl, hb4⟩
        go_wp2_with fail
        go_ret
        exact ⟨rfl, below_step hb4 (below_later (below_step hb2 hb1) u)⟩
    · obtain ⟨rfl, rfl⟩ := X.out.2 hte
      have c1 : (te == 0) = false := by rw [beq_eq_false_iff_ne]; exact hte
      have c2 : (te != 0) = true := by rw [bne_iff_ne]; exact hte
      clear hte
      refine wp_region_later w2.heap.size (by kernel_rfl) (by kernel_rfl) ?_
      repeat (go_big_quiet_step (fail))
      refine wpQuiet_nil ?_; intro _ hw'; obtain ⟨u, hw''⟩ := hw'; subst hw''
      go_wp2_with fail
      by_cases hre : re = 0
      · subst hre
        obtain ⟨a0, a1, a2, a3⟩ := Y.out.1 rfl
        have hput : ∀ w, Calls Try.prog 23 #[.int .i64 z] w fun e w' => e = .returned (.string (s.extract 0 ry)) ∧ Below w.heap.size w w' := by
          rw [← a3]
          exact vari_PutSigned z a0
        have HPUT2 := Lib.hid hput
        clear hput a3 a0
        have b1 : decide ((ry : Int) < 1) = false := by simp; omega
        have b2 : decide (s.size < ry) = false := by simp; omega
        refine wp_region_at u (by kernel_rfl) (by kernel_rfl) ?_
        repeat (go_big_quiet_step ((first
          | (go_at_call 23; with_reducible exact later_of _ (Nat.le_refl _) (HPUT2.out _)))))
        refine wpQuiet_nil ?_; intro _ hw'; obtain ⟨u, hw''⟩ := hw'; subst hw''
        go_wp2_with fail
        refine (law01_awake _).mono ?_
        rintro e w4 ⟨rfl, hb4⟩
        go_wp2_with fail
        go_ret
        exact ⟨rfl, below_step hb4 (below_later (below_step hb2 hb1) u)⟩
      · obtain ⟨rfl, rfl⟩ := Y.out.2 hre
        have c1 : (re == 0) = false := by rw [beq_eq_false_iff_ne]; exact hre
        have c2 : (re != 0) = true := by rw [bne_iff_ne]; exact hre
        clear hre
        refine wp_region_at u (by kernel_rfl) (by kernel_rfl) ?_
        repeat (go_big_quiet_step (fail))
        refine wpQuiet_nil ?_; intro _ hw'; obtain ⟨u, hw''⟩ := hw'; subst hw''
        go_wp2_with fail
        refine (law01_awake _).mono ?_
        rintro e w4 ⟨rfl, hb4⟩
        go_wp2_with fail
        go_ret
        exact ⟨rfl, below_step hb4 (below_later (below_step hb2 hb1) u)⟩
  · have hp1 := Lib.hid (vari_Put_neg n (by omega))
    clear hn
    go_enter Try.func7, Try.ntmps7
    go_wp2_with fail
    refine (hp1.out _).mono ?_
    rintro e w1 ⟨rfl, hb1⟩
    go_wp2_with fail
    refine (hq1.out _).mono ?_
    rintro e w2 ⟨rfl, hb2⟩
    go_wp2_with fail
    rw [show (⟨#[]⟩ : ByteArray) ++ s = s from ByteArray.empty_append]
    refine (ht1.out _).mono ?_
    rintro e w3 ⟨rfl, rfl⟩
    go_wp2_with fail
    refine (hq2.out _).mono ?_
    rintro e w3 ⟨rfl, rfl⟩
    go_wp2_with fail
    refine (ht1.out _).mono ?_
    rintro e w3 ⟨rfl, rfl⟩
    go_wp2_with fail
    refine (ht2.out _).mono ?_
    rintro e w3 ⟨rfl, rfl⟩
    go_wp2_with fail
    by_cases hte : te = 0
    · subst hte
      obtain ⟨a1, a2, a3⟩ := X.out.1 rfl
      have hput : ∀ w, Calls Try.prog 21 #[.int .i64 (tx : Int)] w fun e w' => e = .returned (.string (s.extract 0 ty)) ∧ Below w.heap.size w w' := by
        rw [← a3]
        have h1 := vari_Put (tx : Int) XL.out
        rwa [putB_pos _ (by omega), Int.toNat_natCast] at h1
      have HPUT := Lib.hid hput
      clear hput a3
      have b1 : decide ((ty : Int) < 1) = false := by simp; omega
      have b2 : decide (s.size < ty) = false := by simp; omega
      have b3 : decide ((tx : Int) < 0) = false := by simp
      refine wp_region_later w2.heap.size (by kernel_rfl) (by kernel_rfl) ?_
      repeat (go_big_quiet_step ((first
        | (go_at_call 21; with_reducible exact later_of _ (Nat.le_refl _) (HPUT.out _)))))
      refine wpQuiet_nil ?_; intro _ hw'; obtain ⟨u, hw''⟩ := hw'; subst hw''
      go_wp2_with fail
      by_cases hre : re = 0
      · subst hre
        obtain ⟨a0, a1, a2, a3⟩ := Y.out.1 rfl
        have hput : ∀ w, Calls Try.prog 23 #[.int .i64 z] w fun e w' => e = .returned (.string (s.extract 0 ry)) ∧ Below w.heap.size w w' := by
          rw [← a3]
          exact vari_PutSigned z a0
        have HPUT2 := Lib.hid hput
        clear hput a3 a0
        have b1 : decide ((ry : Int) < 1) = false := by simp; omega
        have b2 : decide (s.size < ry) = false := by simp; omega
        refine wp_region_at u (by kernel_rfl) (by kernel_rfl) ?_
        repeat (go_big_quiet_step ((first
          | (go_at_call 23; with_reducible exact later_of _ (Nat.le_refl _) (HPUT2.out _)))))
        refine wpQuiet_nil ?_; intro _ hw'; obtain ⟨u, hw''⟩ := hw'; subst hw''
        go_wp2_with fail
        refine (law01_awake _).mono ?_
        rintro e w4 ⟨rfl, hb4⟩
        go_wp2_with fail
        go_ret
        exact ⟨rfl, below_step hb4 (below_later (below_step hb2 hb1) u)⟩
      · obtain ⟨rfl, rfl⟩ := Y.out.2 hre
        have c1 : (re == 0) = false := by rw [beq_eq_false_iff_ne]; exact hre
        have c2 : (re != 0) = true := by rw [bne_iff_ne]; exact hre
        clear hre
        refine wp_region_at u (by kernel_rfl) (by kernel_rfl) ?_
        repeat (go_big_quiet_step (fail))
        refine wpQuiet_nil ?_; intro _ hw'; obtain ⟨u, hw''⟩ := hw'; subst hw''
        go_wp2_with fail
        refine (law01_awake _).mono ?_
        rintro e w4 ⟨rfl, hb4⟩
        go_wp2_with fail
        go_ret
        exact ⟨rfl, below_step hb4 (below_later (below_step hb2 hb1) u)⟩
    · obtain ⟨rfl, rfl⟩ := X.out.2 hte
      have c1 : (te == 0) = false := by rw [beq_eq_false_iff_ne]; exact hte
      have c2 : (te != 0) = true := by rw [bne_iff_ne]; exact hte
      clear hte
      refine wp_region_later w2.heap.size (by kernel_rfl) (by kernel_rfl) ?_
      repeat (go_big_quiet_step (fail))
      refine wpQuiet_nil ?_; intro _ hw'; obtain ⟨u, hw''⟩ := hw'; subst hw''
      go_wp2_with fail
      by_cases hre : re = 0
      · subst hre
        obtain ⟨a0, a1, a2, a3⟩ := Y.out.1 rfl
        have hput : ∀ w, Calls Try.prog 23 #[.int .i64 z] w fun e w' => e = .returned (.string (s.extract 0 ry)) ∧ Below w.heap.size w w' := by
          rw [← a3]
          exact vari_PutSigned z a0
        have HPUT2 := Lib.hid hput
        clear hput a3 a0
        have b1 : decide ((ry : Int) < 1) = false := by simp; omega
        have b2 : decide (s.size < ry) = false := by simp; omega
        refine wp_region_at u (by kernel_rfl) (by kernel_rfl) ?_
        repeat (go_big_quiet_step ((first
          | (go_at_call 23; with_reducible exact later_of _ (Nat.le_refl _) (HPUT2.out _)))))
        refine wpQuiet_nil ?_; intro _ hw'; obtain ⟨u, hw''⟩ := hw'; subst hw''
        go_wp2_with fail
        refine (law01_awake _).mono ?_
        rintro e w4 ⟨rfl, hb4⟩
        go_wp2_with fail
        go_ret
        exact ⟨rfl, below_step hb4 (below_later (below_step hb2 hb1) u)⟩
      · obtain ⟨rfl, rfl⟩ := Y.out.2 hre
        have c1 : (re == 0) = false := by rw [beq_eq_false_iff_ne]; exact hre
        have c2 : (re != 0) = true := by rw [bne_iff_ne]; exact hre
        clear hre
        refine wp_region_at u (by kernel_rfl) (by kernel_rfl) ?_
        repeat (go_big_quiet_step (fail))
        refine wpQuiet_nil ?_; intro _ hw'; obtain ⟨u, hw''⟩ := hw'; subst hw''
        go_wp2_with fail
        refine (law01_awake _).mono ?_
        rintro e w4 ⟨rfl, hb4⟩
        go_wp2_with fail
        go_ret
        exact ⟨rfl, below_step hb4 (below_later (below_step hb2 hb1) u)⟩

theorem law01_VariBack (n : Int) (hn : I64 n) (s : ByteArray) (w : World) :
    Calls Try.prog 7 #[.int .i64 n, .string s] w fun e w' => e = .returned (.bool true) ∧ Below w.heap.size w w' := by
  rcases Nat.lt_or_ge 100 s.size with h | h
  · exact law01_VariBack_long n s h w
  · exact law01_VariBack_short n hn s h w
end Go.Proofs.Ytaocmepffhochaa
