/- Walks of layer 5 (pack): texts and flags read; a reader that is nil. -/
import Derived.Test.YtkhnmdmpkedifaaPack
import Derived.Lib.SlicesS
namespace Go.Proofs.Ytkhnmdmpkedifaa
open Go.ChangeShapes Go.WideShapes Go.ChangeAt Go.RowKit Go.Deep

theorem pack_New (s : ByteArray) (w : World) :
    Calls Try.prog 29 #[.string s] w fun e w' => e = .returned (.pointer (some ⟨w.heap.size, 0, none⟩)) ∧ Rdr 59 w.heap.size (s.data.toList, 0) w' ∧ w.grownBy w' none := by
  have h := Rdr.new 59 s w
  go_enter Try.func29, Try.ntmps29
  go_wp2_with fail
  go_ret
  exact ⟨rfl, h, World.grownBy_alloc _ _ _⟩
theorem pack_fail (b : Nat) (l : List UInt8) (e : Int) (w : World) (h : Rdr 59 b (l, 0) w) (w0 : World) (hg : w0.grownBy w (some b)) :
    Calls Try.prog 93 #[.pointer (some ⟨b, 0, none⟩), .int .i64 e] w fun x w' => x = .returned (.tuple #[]) ∧ Rdr 59 b (l, e) w' ∧ w0.grownBy w' (some b) :=
  (pack_fail0 b l e w h).mono fun _ _ ⟨h1, h2, h3⟩ => ⟨h1, h2, grown_trans hg h3⟩
theorem rd_back {T : TypeId} {b : Nat} {l D : List UInt8} {e : Int} {w w1 : World} (h : Rdr T b (D, e) w1) (hg : w.grownBy w1 (some b)) : Rdr T b (l, e) (w1.setCell ⟨b, 0, none⟩ (.string ⟨l.toArray⟩)) ∧ w.grownBy (w1.setCell ⟨b, 0, none⟩ (.string ⟨l.toArray⟩)) (some b) :=
  ⟨h.set0 l, grown_trans hg (grown_set _ _ _ _)⟩
set_option maxRecDepth 100000 in
theorem pack_Text_at (b : Nat) (most : Int) (r : PackP.St) (hl : r.1.length ≤ 100000000) (w : World) (h : Rdr 59 b r w) :
    Calls Try.prog 65 #[.pointer (some ⟨b, 0, none⟩), .int .i64 most] w (RdPost 59 b (PackP.rText most r).2 (.string ⟨(PackP.rText most r).1.toArray⟩) w) := by
  have hN := pack_Num_at b r hl w h
  obtain ⟨l, er⟩ := r
  simp only at hl
  have c0 := h.c0
  simp only at c0
  by_cases he : er = 0
  · subst he
    have hsN : PackP.rNum (l, 0) = if (VariP.take 9 l).2.2 ≠ 0 then (0, (l, (VariP.take 9 l).2.2)) else (((VariP.take 9 l).1 : Int), (l.drop (VariP.take 9 l).2.1, 0)) := by
      unfold PackP.rNum
      rw [if_neg (by simp)]
    have hsT : PackP.rText most (l, 0) = if (VariP.take 9 l).2.2 ≠ 0 then ([], (l, (VariP.take 9 l).2.2)) else if most < (VariP.take 9 l).1 then ([], (l, 12)) else if (l.drop (VariP.take 9 l).2.1).length < (VariP.take 9 l).1 then ([], (l, 3)) else ((l.drop (VariP.take 9 l).2.1).take (VariP.take 9 l).1, ((l.drop (VariP.take 9 l).2.1).drop (VariP.take 9 l).1, 0)) := by
      unfold PackP.rText
      rw [if_neg (by simp)]
    rw [hsN] at hN
    rw [hsT]
    have hlt := (take_lt 9 (.inl rfl) l).2 rfl
    clear hsN hsT
    generalize VariP.take 9 l = tk at hN hlt ⊢
    obtain ⟨n, k, e⟩ := tk
    simp only at hN hlt ⊢
    by_cases he : e = 0
    · subst he
      rw [if_neg (by simp)] at hN ⊢
      have hDl : (l.drop k).length ≤ 100000000 := by rw [List.length_drop]; omega
      generalize l.drop k = D at hN hDl ⊢
      have hDs := bl_size D
      have HN := Lib.hid hN
      have HD := Lib.hid (fun w1 (h1 : Rdr 59 b (D, 0) w1) => And.intro h1.c0 (And.intro h1.c1 (And.intro (h1.f 0) (h1.f 1))))
      clear hN
      by_cases q1 : most < (n : Int)
      · rw [if_pos q1]
        clear h
        go_enter Try.func65, Try.ntmps65
        go_wp2_with (first
          | (go_at_call 44; with_reducible refine (HN.out).mono ?_; rintro e w1 ⟨rfl, h1, g1⟩; obtain ⟨d0, d1, _, _⟩ := HD.out _ h1)
          | (go_at_call 93; with_reducible refine (pack_fail b D _ _ h1 w g1).mono ?_; rintro e w2 ⟨rfl, h2, g2⟩; have e0 := h2.c0; have e1 := h2.c1; have ef := h2.f 0))
        go_ret
        have := rd_back (l := l) h2 g2
        exact ⟨rfl, this.1, this.2⟩
      · rw [if_neg q1]
        by_cases q2 : D.length < n
        · rw [if_pos q2]
          clear h
          go_enter Try.func65, Try.ntmps65
          go_wp2_with (first
            | (go_at_call 44; with_reducible refine (HN.out).mono ?_; rintro e w1 ⟨rfl, h1, g1⟩; obtain ⟨d0, d1, _, _⟩ := HD.out _ h1)
            | (go_at_call 93; with_reducible refine (pack_fail b D _ _ h1 w g1).mono ?_; rintro e w2 ⟨rfl, h2, g2⟩; have e0 := h2.c0; have e1 := h2.c1; have ef := h2.f 0))
          go_ret
          have := rd_back (l := l) h2 g2
          exact ⟨rfl, this.1, this.2⟩
        · rw [if_neg q2]
          have hn : n ≤ D.length := by omega
          have HC := Lib.hid (fun w1 (h1 : Rdr 59 b (D, 0) w1) => pack_cut b n D 0 hn w1 h1)
          clear h
          go_enter Try.func65, Try.ntmps65
          go_wp2_with (first
            | (go_at_call 44; with_reducible refine (HN.out).mono ?_; rintro e w1 ⟨rfl, h1, g1⟩; obtain ⟨d0, d1, _, _⟩ := HD.out _ h1)
            | (go_at_call 94; with_reducible refine (HC.out _ h1).mono ?_; rintro e w3 ⟨rfl, h3, g3⟩))
          go_ret
          exact ⟨rfl, h3, grown_trans g1 g3⟩
    · rw [if_pos he] at hN ⊢
      have HN := Lib.hid hN
      have hne : (e == 0) = false := by rw [beq_eq_false_iff_ne]; exact he
      have hne2 : (e != 0) = true := by rw [bne_iff_ne]; exact he
      clear hN h
      go_enter Try.func65, Try.ntmps65
      go_wp2_with (go_at_call 44; with_reducible refine (HN.out).mono ?_; rintro e w1 ⟨rfl, h1, g1⟩; have e0 := h1.c0; have e1 := h1.c1; have ef := h1.f 0)
      go_ret
      have := rd_back (l := l) h1 g1
      exact ⟨rfl, this.1, this.2⟩
  · rw [PackP.rNum_err _ he] at hN
    rw [PackP.rText_err _ _ he]
    have HN := Lib.hid hN
    have hne : (er == 0) = false := by rw [beq_eq_false_iff_ne]; exact he
    have hne2 : (er != 0) = true := by rw [bne_iff_ne]; exact he
    clear hN h
    go_enter Try.func65, Try.ntmps65
    go_wp2_with (go_at_call 44; with_reducible refine (HN.out).mono ?_; rintro e w1 ⟨rfl, h1, g1⟩; have e0 := h1.c0; have e1 := h1.c1; have ef := h1.f 0)
    go_ret
    have := rd_back (l := l) h1 g1
    exact ⟨rfl, this.1, this.2⟩

set_option maxRecDepth 100000 in
theorem pack_Flag_at (b : Nat) (r : PackP.St) (hl : r.1.length ≤ 100000000) (w : World) (h : Rdr 59 b r w) :
    Calls Try.prog 66 #[.pointer (some ⟨b, 0, none⟩)] w (RdPost 59 b (PackP.rFlag r).2 (.bool (PackP.rFlag r).1) w) := by
  obtain ⟨l, er⟩ := r
  simp only at hl
  have c0 := h.c0
  have c1 := h.c1
  simp only at c0 c1
  by_cases he : er = 0
  · subst he
    cases l with
    | nil =>
      have HF := Lib.hid (pack_fail0 b [] 3 w h)
      clear h
      go_enter Try.func66, Try.ntmps66
      go_wp2_with (go_at_call 93; with_reducible refine (HF.out).mono ?_; rintro e w2 ⟨rfl, h2, g2⟩)
      go_ret
      exact ⟨rfl, h2, g2⟩
    | cons x l =>
      have hsp : PackP.rFlag (x :: l, 0) = if 1 < x.toNat then (false, (x :: l, 2)) else (x.toNat == 1, (l, 0)) := rfl
      rw [hsp]
      have hne : (⟨(x :: l).toArray⟩ : ByteArray).toList.isEmpty = false := by
        rw [ByteArray.toList_eq]; rfl
      have hsz := bl_size (x :: l)
      rw [List.length_cons] at hsz
      have hx : (⟨(x :: l).toArray⟩ : ByteArray)[0]'(by rw [hsz]; omega) = x := rfl
      generalize hS : (⟨(x :: l).toArray⟩ : ByteArray) = S at c0 hne hsz
      have hi : 0 < S.size := by omega
      have HS := Lib.hid hS
      have HX := Lib.hid hx
      by_cases q : 1 < x.toNat
      · have hxx : S[0].toNat = x.toNat := by rw [HX.out]
        have HF := Lib.hid (pack_fail0 b (x :: l) 2 w h)
        rw [if_pos q]
        clear h hS hx
        go_enter Try.func66, Try.ntmps66
        go_wp2_with (go_at_call 93; with_reducible refine (HF.out).mono ?_; rintro e w2 ⟨rfl, h2, g2⟩)
        go_ret
        exact ⟨rfl, h2, g2⟩
      · rw [if_neg q]
        have hxx : S[0].toNat = x.toNat := by rw [HX.out]
        have hcut := pack_cut b 1 (x :: l) 0 (by simp) w h
        have HC := Lib.hid (show Calls Try.prog 94 #[.pointer (some ⟨b, 0, none⟩), .int .i64 1] w (RdPost 59 b (l, 0) (.string ⟨#[x]⟩) w) from hcut)
        clear h hS hx hcut
        have hb : (x == 1) = (x.toNat == 1) := by
          have h01 : x.toNat = 0 ∨ x.toNat = 1 := by omega
          rcases h01 with h0 | h0
          · have : x = 0 := UInt8.toNat_inj.1 h0
            subst this; rfl
          · have : x = 1 := UInt8.toNat_inj.1 h0
            subst this; rfl
        go_enter Try.func66, Try.ntmps66
        go_wp2_with (go_at_call 94; with_reducible refine (HC.out).mono ?_; rintro e w2 ⟨rfl, h2, g2⟩)
        rw [← hb]
        go_ret
        exact ⟨rfl, h2, g2⟩
  · rw [PackP.rFlag_err _ he]
    have hne2 : (er != 0) = true := by rw [bne_iff_ne]; exact he
    have hr := h
    clear h
    go_enter Try.func66, Try.ntmps66
    go_wp2_with fail
    go_ret
    exact ⟨rfl, hr, World.grownBy.refl _ _⟩
