/- Walks of layer 5's reference: what its reader reads. -/
import Derived.Test.YtkhnmdmpkedifaaPackB
namespace Go.Proofs.Ytkhnmdmpkedifaa
open Go.ChangeShapes Go.WideShapes Go.ChangeAt Go.RowKit Go.Deep

theorem ref5_took_err (b : Nat) (r : PackP.St) (he : r.2 ≠ 0) (n k e : Int) (w : World) (h : Rdr 55 b r w) :
    Calls Try.prog 82 #[.pointer (some ⟨b, 0, none⟩), .int .i64 n, .int .i64 k, .int .i64 e] w (RdPost 55 b r (.int .i64 0) w) := by
  have c1 := h.c1
  have hne2 : (r.2 != 0) = true := by rw [bne_iff_ne]; exact he
  go_enter Try.func82, Try.ntmps82
  go_wp2_with fail
  go_ret
  exact ⟨rfl, h, World.grownBy.refl _ _⟩
theorem ref5_took_bad (b : Nat) (l : List UInt8) (n k e : Int) (he : e ≠ 0) (w : World) (h : Rdr 55 b (l, 0) w) :
    Calls Try.prog 82 #[.pointer (some ⟨b, 0, none⟩), .int .i64 n, .int .i64 k, .int .i64 e] w (RdPost 55 b (l, e) (.int .i64 0) w) := by
  have c1 := h.c1
  have f1 := h.f 1
  have hne2 : (e != 0) = true := by rw [bne_iff_ne]; exact he
  go_enter Try.func82, Try.ntmps82
  go_wp2_with fail
  go_ret
  exact ⟨rfl, h.set1 e, grown_set _ _ _ _⟩
theorem ref5_took_ok (b : Nat) (l : List UInt8) (n : Int) (k : Nat) (hk : k ≤ l.length) (w : World) (h : Rdr 55 b (l, 0) w) :
    Calls Try.prog 82 #[.pointer (some ⟨b, 0, none⟩), .int .i64 n, .int .i64 (k : Int), .int .i64 0] w (RdPost 55 b (l.drop k, 0) (.int .i64 n) w) := by
  have c0 := h.c0
  have c1 := h.c1
  have f0 := h.f 0
  have hD := bl_drop l k l.length rfl
  have hS := bl_size l
  have hP := h.set0 (l.drop k)
  rw [← hD] at hP
  simp only at c0
  generalize (⟨l.toArray⟩ : ByteArray) = S at c0 hD hS hP
  have HP := Lib.hid hP
  have hi0 : (0 : Int) ≤ (k : Int) := by omega
  have hi1 : (k : Int) ≤ (S.size : Int) := by omega
  clear hD hP h
  go_enter Try.func82, Try.ntmps82
  go_wp2_with fail
  go_ret
  exact ⟨rfl, HP.out, grown_set _ _ _ _⟩

theorem ref5_Num (b : Nat) (r : PackP.St) (hl : r.1.length ≤ 100000) (w : World) (h : Rdr 55 b r w) :
    Calls Try.prog 45 #[.pointer (some ⟨b, 0, none⟩)] w (RdPost 55 b (PackP.rNum r).2 (.int .i64 (PackP.rNum r).1) w) := by
  obtain ⟨l, er⟩ := r
  simp only at hl
  have c0 := h.c0
  simp only at c0
  have ht := ref_Take ⟨l.toArray⟩ (by rw [bl_size]; exact hl)
  rw [show (⟨l.toArray⟩ : ByteArray).data.toList = l from rfl] at ht
  have hlen := take_le' 9 l
  unfold tkI at ht
  by_cases he : er = 0
  · subst he
    have hspec : PackP.rNum (l, 0) = if (VariP.take 9 l).2.2 ≠ 0 then (0, (l, (VariP.take 9 l).2.2)) else (((VariP.take 9 l).1 : Int), (l.drop (VariP.take 9 l).2.1, 0)) := by
      unfold PackP.rNum
      rw [if_neg (by simp)]
    rw [hspec]
    clear hspec
    generalize VariP.take 9 l = tk at ht hlen ⊢
    obtain ⟨n, k, e⟩ := tk
    simp only at ht hlen ⊢
    by_cases he : e = 0
    · subst he
      rw [if_neg (by simp)]
      have HC := Lib.hid (fun x => ref5_took_ok b l x k hlen w h)
      generalize (⟨l.toArray⟩ : ByteArray) = S at ht c0
      have HT := Lib.hid ht
      clear ht h
      go_enter Try.func45, Try.ntmps45
      go_wp2_with (first
        | (go_at_call 81; with_reducible refine (HT.out _).mono ?_; rintro e w1 ⟨rfl, rfl⟩)
        | (go_at_call 82; with_reducible refine (HC.out _).mono ?_; rintro e w3 ⟨rfl, h3⟩))
      go_ret
      exact ⟨rfl, h3⟩
    · rw [if_pos he]
      have HC := Lib.hid (fun x y => ref5_took_bad b l x y e he w h)
      generalize (⟨l.toArray⟩ : ByteArray) = S at ht c0
      have HT := Lib.hid ht
      clear ht h hlen
      go_enter Try.func45, Try.ntmps45
      go_wp2_with (first
        | (go_at_call 81; with_reducible refine (HT.out _).mono ?_; rintro e w1 ⟨rfl, rfl⟩)
        | (go_at_call 82; with_reducible refine (HC.out _ _).mono ?_; rintro e w3 ⟨rfl, h3⟩))
      go_ret
      exact ⟨rfl, h3⟩
  · rw [PackP.rNum_err _ he]
    have HC := Lib.hid (fun x y z => ref5_took_err b (l, er) he x y z w h)
    generalize (⟨l.toArray⟩ : ByteArray) = S at ht c0
    have HT := Lib.hid ht
    clear ht h hlen
    go_enter Try.func45, Try.ntmps45
    go_wp2_with (first
      | (go_at_call 81; with_reducible refine (HT.out _).mono ?_; rintro e w1 ⟨rfl, rfl⟩)
      | (go_at_call 82; with_reducible refine (HC.out _ _ _).mono ?_; rintro e w3 ⟨rfl, h3⟩))
    go_ret
    exact ⟨rfl, h3⟩

theorem ref5_Signed (b : Nat) (r : PackP.St) (hl : r.1.length ≤ 100000) (w : World) (h : Rdr 55 b r w) :
    Calls Try.prog 72 #[.pointer (some ⟨b, 0, none⟩)] w (RdPost 55 b (PackP.rSigned r).2 (.int .i64 (PackP.rSigned r).1) w) := by
  obtain ⟨l, er⟩ := r
  simp only at hl
  have c0 := h.c0
  simp only at c0
  have ht := ref_TakeSigned ⟨l.toArray⟩ (by rw [bl_size]; exact hl)
  rw [show (⟨l.toArray⟩ : ByteArray).data.toList = l from rfl] at ht
  have hlen := take_le' 10 l
  unfold tkI at ht
  by_cases he : er = 0
  · subst he
    have hspec : PackP.rSigned (l, 0) = if (VariP.take 10 l).2.2 ≠ 0 then (0, (l, (VariP.take 10 l).2.2)) else (VariP.zag (VariP.take 10 l).1, (l.drop (VariP.take 10 l).2.1, 0)) := by
      unfold PackP.rSigned
      rw [if_neg (by simp)]
    rw [hspec]
    clear hspec
    generalize VariP.take 10 l = tk at ht hlen ⊢
    obtain ⟨n, k, e⟩ := tk
    simp only at ht hlen ⊢
    by_cases he : e = 0
    · subst he
      rw [if_neg (by simp)]
      have HC := Lib.hid (fun x => ref5_took_ok b l x k hlen w h)
      generalize (⟨l.toArray⟩ : ByteArray) = S at ht c0
      have HT := Lib.hid ht
      clear ht h
      go_enter Try.func72, Try.ntmps72
      go_wp2_with (first
        | (go_at_call 99; with_reducible refine (HT.out _).mono ?_; rintro e w1 ⟨rfl, rfl⟩)
        | (go_at_call 82; with_reducible refine (HC.out _).mono ?_; rintro e w3 ⟨rfl, h3⟩))
      go_ret
      exact ⟨rfl, h3⟩
    · rw [if_pos he]
      have HC := Lib.hid (fun x y => ref5_took_bad b l x y e he w h)
      generalize (⟨l.toArray⟩ : ByteArray) = S at ht c0
      have HT := Lib.hid ht
      clear ht h hlen
      go_enter Try.func72, Try.ntmps72
      go_wp2_with (first
        | (go_at_call 99; with_reducible refine (HT.out _).mono ?_; rintro e w1 ⟨rfl, rfl⟩)
        | (go_at_call 82; with_reducible refine (HC.out _ _).mono ?_; rintro e w3 ⟨rfl, h3⟩))
      go_ret
      exact ⟨rfl, h3⟩
  · rw [PackP.rSigned_err _ he]
    have HC := Lib.hid (fun x y z => ref5_took_err b (l, er) he x y z w h)
    generalize (⟨l.toArray⟩ : ByteArray) = S at ht c0
    have HT := Lib.hid ht
    clear ht h hlen
    go_enter Try.func72, Try.ntmps72
    go_wp2_with (first
      | (go_at_call 99; with_reducible refine (HT.out _).mono ?_; rintro e w1 ⟨rfl, rfl⟩)
      | (go_at_call 82; with_reducible refine (HC.out _ _ _).mono ?_; rintro e w3 ⟨rfl, h3⟩))
    go_ret
    exact ⟨rfl, h3⟩

set_option maxRecDepth 100000 in
theorem ref5_Text (b : Nat) (most : Int) (r : PackP.St) (hl : r.1.length ≤ 100000) (w : World) (h : Rdr 55 b r w) :
    Calls Try.prog 73 #[.pointer (some ⟨b, 0, none⟩), .int .i64 most] w (RdPost 55 b (PackP.rText most r).2 (.string ⟨(PackP.rText most r).1.toArray⟩) w) := by
  obtain ⟨l, er⟩ := r
  simp only at hl
  have c0 := h.c0
  have c1 := h.c1
  have f0 := h.f 0
  have f1 := h.f 1
  simp only at c0 c1
  by_cases he : er = 0
  · subst he
    have ht := ref_Take ⟨l.toArray⟩ (by rw [bl_size]; exact hl)
    rw [show (⟨l.toArray⟩ : ByteArray).data.toList = l from rfl] at ht
    have hlen := take_le' 9 l
    unfold tkI at ht
    have hsT : PackP.rText most (l, 0) = if (VariP.take 9 l).2.2 ≠ 0 then ([], (l, (VariP.take 9 l).2.2)) else if most < (VariP.take 9 l).1 then ([], (l, 12)) else if (l.drop (VariP.take 9 l).2.1).length < (VariP.take 9 l).1 then ([], (l, 3)) else ((l.drop (VariP.take 9 l).2.1).take (VariP.take 9 l).1, ((l.drop (VariP.take 9 l).2.1).drop (VariP.take 9 l).1, 0)) := by
      unfold PackP.rText
      rw [if_neg (by simp)]
    rw [hsT]
    have hlt := (take_lt 9 (.inl rfl) l).2 rfl
    clear hsT
    generalize VariP.take 9 l = tk at ht hlt hlen ⊢
    obtain ⟨n, k, e⟩ := tk
    simp only at ht hlt hlen ⊢
    have hS := bl_size l
    rw [List.length_drop]
    by_cases he : e = 0
    · subst he
      rw [if_neg (by simp)]
      by_cases q1 : most < (n : Int)
      · rw [if_pos q1]
        have hP := Lib.hid (h.set1 12)
        generalize (⟨l.toArray⟩ : ByteArray) = S at c0 hS ht
        have HT := Lib.hid ht
        clear ht h
        go_enter Try.func73, Try.ntmps73
        go_wp2_with (go_at_call 81; with_reducible refine (HT.out _).mono ?_; rintro e w1 ⟨rfl, rfl⟩)
        go_ret
        exact ⟨rfl, hP.out, grown_set _ _ _ _⟩
      · rw [if_neg q1]
        by_cases q2 : l.length - k < n
        · rw [if_pos q2]
          have hP := Lib.hid (h.set1 3)
          generalize (⟨l.toArray⟩ : ByteArray) = S at c0 hS ht
          have HT := Lib.hid ht
          clear ht h
          go_enter Try.func73, Try.ntmps73
          go_wp2_with (go_at_call 81; with_reducible refine (HT.out _).mono ?_; rintro e w1 ⟨rfl, rfl⟩)
          go_ret
          exact ⟨rfl, hP.out, grown_set _ _ _ _⟩
        · rw [if_neg q2]
          have hT : (⟨l.toArray⟩ : ByteArray).extract k (k + n) = ⟨((l.drop k).take n).toArray⟩ := bl_ext (by
            rw [ByteArray.data_extract, Array.toList_extract, List.extract]; simp)
          have hD := bl_drop l (k + n) l.length rfl
          have hP := h.set0 (l.drop (k + n))
          rw [← hD] at hP
          rw [List.drop_drop]
          generalize (⟨l.toArray⟩ : ByteArray) = S at c0 hS ht hT hP
          have HP := Lib.hid hP
          have HX := Lib.hid hT
          have HT := Lib.hid ht
          have hi0 : (0 : Int) ≤ (k : Int) := by omega
          have hi1 : (k : Int) ≤ (k : Int) + (n : Int) := by omega
          have hi2 : (k : Int) + (n : Int) ≤ (S.size : Int) := by omega
          have hi3 : (0 : Int) ≤ (k : Int) + (n : Int) := by omega
          clear ht h hT hP hD
          go_enter Try.func73, Try.ntmps73
          go_wp2_with (go_at_call 81; with_reducible refine (HT.out _).mono ?_; rintro e w1 ⟨rfl, rfl⟩)
          go_ret
          exact ⟨by rw [HX.out]; rfl, HP.out, grown_set _ _ _ _⟩
    · rw [if_pos he]
      have hne : (e == 0) = false := by rw [beq_eq_false_iff_ne]; exact he
      have hne2 : (e != 0) = true := by rw [bne_iff_ne]; exact he
      have hP := Lib.hid (h.set1 e)
      generalize (⟨l.toArray⟩ : ByteArray) = S at c0 hS ht
      have HT := Lib.hid ht
      clear ht h
      go_enter Try.func73, Try.ntmps73
      go_wp2_with (go_at_call 81; with_reducible refine (HT.out _).mono ?_; rintro e w1 ⟨rfl, rfl⟩)
      go_ret
      exact ⟨rfl, hP.out, grown_set _ _ _ _⟩
  · rw [PackP.rText_err _ _ he]
    have hne2 : (er != 0) = true := by rw [bne_iff_ne]; exact he
    have hr := h
    clear h
    go_enter Try.func73, Try.ntmps73
    go_wp2_with fail
    go_ret
    exact ⟨rfl, hr, World.grownBy.refl _ _⟩
