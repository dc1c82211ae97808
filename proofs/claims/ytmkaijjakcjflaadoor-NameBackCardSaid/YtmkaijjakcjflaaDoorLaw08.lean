/- Layer 8: what must come; the names of any files, the kinds and numbers of any names (NameIs). -/
import Derived.Test.YtmkaijjakcjflaaDoorNameV
namespace Go.Proofs.YtmkaijjakcjflaaDoor
open Go.ChangeShapes Go.WideShapes Go.ChangeAt Go.RowKit Go.Deep NameP

theorem log17 : ofS 1 17 = [108, 111, 103, 46, 49, 55] := by decide +kernel
theorem img1 : ofS 2 1 = [105, 109, 97, 103, 101, 46, 49] := by decide +kernel
theorem k17 : kB ⟨#[108, 111, 103, 46, 49, 55]⟩ = (1, 17) := by decide +kernel
theorem nums9 : numsX 1 [⟨#[108, 111, 103, 46, 49, 48]⟩, ⟨#[108, 111, 103, 46, 57]⟩] = [9, 10] := by decide +kernel
theorem name_OfB (w : World) (ht : TabW w) (kind n : Int) (hn : I64 n) (l : List UInt8) (h : ofS kind n = l) (W : World) (hb : Below w.heap.size w W) : Calls Tryd.prog 9 #[.int .i64 kind, .int .i64 n] W fun e w' => e = .returned (.string (S8 l)) ∧ Below w.heap.size w w' := by
  subst h
  refine (name_Of kind n hn W (ht.below hb)).mono ?_
  rintro e w' ⟨rfl, b⟩
  exact ⟨rfl, below_step b hb⟩

set_option maxRecDepth 100000 in
theorem law08_awake (w : World) (ht : TabW w) : Calls Tryd.prog 6 #[] w fun e w' => e = .returned (.bool true) ∧ Below w.heap.size w w' := by
  have HK' : ∀ W, Below w.heap.size w W → Calls Tryd.prog 7 #[.string ⟨#[108, 111, 103, 46, 49, 55]⟩] W fun e w' => e = .returned (.tuple #[.int .i64 1, .int .i64 17]) ∧ Below w.heap.size w w' := fun W hb => by
    refine (name_KindB ⟨#[108, 111, 103, 46, 49, 55]⟩ (by decide) W).mono ?_
    rw [k17]
    rintro e w' ⟨rfl, b⟩
    exact ⟨rfl, below_step b hb⟩
  have H1' : ∀ W, Below w.heap.size w W → Calls Tryd.prog 9 #[.int .i64 1, .int .i64 17] W fun e w' => e = .returned (.string ⟨#[108, 111, 103, 46, 49, 55]⟩) ∧ Below w.heap.size w w' := name_OfB w ht 1 17 (by unfold I64; omega) _ log17
  have H2' : ∀ W, Below w.heap.size w W → Calls Tryd.prog 9 #[.int .i64 3, .int .i64 0] W fun e w' => e = .returned (.string ⟨#[109, 97, 105, 110]⟩) ∧ Below w.heap.size w w' := name_OfB w ht 3 0 (by unfold I64; omega) _ rfl
  have H3' : ∀ W, Below w.heap.size w W → Calls Tryd.prog 9 #[.int .i64 4, .int .i64 9] W fun e w' => e = .returned (.string ⟨#[109, 97, 105, 110, 46, 110, 101, 119]⟩) ∧ Below w.heap.size w w' := name_OfB w ht 4 9 (by unfold I64; omega) _ rfl
  have H4' : ∀ W, Below w.heap.size w W → Calls Tryd.prog 9 #[.int .i64 2, .int .i64 1] W fun e w' => e = .returned (.string ⟨#[105, 109, 97, 103, 101, 46, 49]⟩) ∧ Below w.heap.size w w' := name_OfB w ht 2 1 (by unfold I64; omega) _ img1
  have HN' : ∀ W, Below w.heap.size w W → Calls Tryd.prog 12 #[.int .i64 1, .slice (some ⟨W.heap.size, 0, none⟩) 2 2] (W.alloc (.cells #[.string ⟨#[108, 111, 103, 46, 49, 48]⟩, .string ⟨#[108, 111, 103, 46, 57]⟩] 9)) fun e w' => ∃ A' c', e = .returned (.slice A' 2 c') ∧ Rd w' w'.heap.size A' [.int .i64 9, .int .i64 10] ∧ Below w.heap.size w w' := fun W hb => by
    have := name_Numbers 1 (some ⟨W.heap.size, 0, none⟩) 2 [⟨#[108, 111, 103, 46, 49, 48]⟩, ⟨#[108, 111, 103, 46, 57]⟩] (by decide) (by decide) (W.alloc (.cells #[.string ⟨#[108, 111, 103, 46, 49, 48]⟩, .string ⟨#[108, 111, 103, 46, 57]⟩] 9)) ((Rd.new W 9 _).more (by rw [World.size_alloc]; omega))
    refine this.mono ?_
    rw [nums9]
    rintro e w' ⟨A', c', rfl, r, b⟩
    exact ⟨A', c', rfl, r, below_step b (hb.alloc hb.size _)⟩
  have HS' : ∀ W A' c', Below w.heap.size w W → Rd W W.heap.size A' [.int .i64 9, .int .i64 10] → Calls Tryd.prog 11 #[.slice A' 2 c', .slice (some ⟨W.heap.size, 0, none⟩) 2 2] (W.alloc (.cells #[.int .i64 9, .int .i64 10] 3)) fun e w' => e = .returned (.bool true) ∧ Below w.heap.size w w' := fun W A' c' hb hr => by
    have := ref1_SameInts A' (some ⟨W.heap.size, 0, none⟩) c' 2 2 2 [9, 10] [9, 10] rfl rfl (by decide) rfl (W.alloc (.cells #[.int .i64 9, .int .i64 10] 3)) ((hr.below ((Below.refl _ W).alloc (Nat.le_refl _) _)).more (by rw [World.size_alloc]; omega)) ((Rd.new W 3 _).more (by rw [World.size_alloc]; omega))
    refine this.mono ?_
    rintro e w' ⟨rfl, b⟩
    exact ⟨rfl, below_step b (hb.alloc hb.size _)⟩
  have HK := Lib.hid HK'
  have H1 := Lib.hid H1'
  have H2 := Lib.hid H2'
  have H3 := Lib.hid H3'
  have H4 := Lib.hid H4'
  have HN := Lib.hid HN'
  have HS := Lib.hid HS'
  clear HK' H1' H2' H3' H4' HN' HS'
  have hb := Below.refl w.heap.size w
  go_enter Tryd.func6, Tryd.ntmps6
  go_wp2_with (first
    | (go_at_call 7; (with_reducible refine (HK.out _ hb).mono ?_); rintro e w1 ⟨rfl, hb⟩)
    | (go_at_call 9; (with_reducible refine (H1.out _ hb).mono ?_); rintro e w1 ⟨rfl, hb⟩)
    | (go_at_call 9; (with_reducible refine (H2.out _ hb).mono ?_); rintro e w1 ⟨rfl, hb⟩)
    | (go_at_call 9; (with_reducible refine (H3.out _ hb).mono ?_); rintro e w1 ⟨rfl, hb⟩)
    | (go_at_call 9; (with_reducible refine (H4.out _ hb).mono ?_); rintro e w1 ⟨rfl, hb⟩)
    | (go_at_call 12; (with_reducible refine (HN.out _ hb).mono ?_); rintro e w1 ⟨A', c', rfl, hr, hb⟩)
    | (go_at_call 11; (with_reducible refine (HS.out _ _ _ hb hr).mono ?_); rintro e w1 ⟨rfl, hb⟩))
  go_ret
  exact ⟨rfl, by assumption⟩

set_option maxRecDepth 100000 in
set_option maxHeartbeats 4000000 in
theorem law08_NameIs (kind n : Int) (hn : I64 n) (a : SlS) (hl : a.l.length ≤ maxLen) (hs : ∀ s ∈ a.l, s.size ≤ maxLen) (w : World) (ht : TabW w) (hr : Rd w w.heap.size a.A (a.l.map Value.string)) :
    Calls Tryd.prog 3 #[.int .i64 kind, .int .i64 n, .slice a.A a.l.length a.c] w fun e w' => e = .returned (.bool true) ∧ Below w.heap.size w w' := by
  obtain ⟨A, c, l⟩ := a
  simp only at hl hs hr ⊢
  have HF := Lib.hid (ref8_Few A c l hl hs w hr)
  have HA' : ∀ W, Below w.heap.size w W → Calls Tryd.prog 6 #[] W fun e w' => e = .returned (.bool true) ∧ Below w.heap.size w w' := fun W hb => (law08_awake W (ht.below hb)).mono (by rintro e w' ⟨rfl, b⟩; exact ⟨rfl, below_step b hb⟩)
  have HA := Lib.hid HA'
  have hb0 := Below.refl w.heap.size w
  clear HA'
  cases hfew : few8 l with
  | false =>
    rw [hfew] at HF
    clear hs hr hl hfew
    go_enter Tryd.func3, Tryd.ntmps3
    go_wp2_with (first
      | (go_at_call 5; (with_reducible refine (HF.out).mono ?_); rintro e w1 ⟨rfl, hw⟩; subst hw)
      | (go_at_call 6; (with_reducible refine (HA.out _ hb0).mono ?_); rintro e w2 ⟨rfl, hb⟩))
    go_ret
    exact ⟨rfl, by assumption⟩
  | true =>
    rw [hfew] at HF
    obtain ⟨f1, f2⟩ := few8_iff.1 hfew
    have HR := Lib.hid hr
    have HS := Lib.hid f2
    have HK1' : ∀ (s : ByteArray), s.size ≤ 100 → ∀ W : World, Below w.heap.size w W → Calls Tryd.prog 7 #[.string s] W fun e w' => e = .returned (.tuple #[.int .i64 (kB s).1, .int .i64 (kB s).2]) ∧ Below w.heap.size w w' := fun s h W hb => (name_KindB s (by omega) W).mono (by rintro e w' ⟨rfl, b⟩; exact ⟨rfl, below_step b hb⟩)
    have HK2' : ∀ (s : ByteArray), s.size ≤ 100 → ∀ W : World, Below w.heap.size w W → Calls Tryd.prog 8 #[.string s] W fun e w' => e = .returned (.tuple #[.int .i64 (kB s).1, .int .i64 (kB s).2]) ∧ Below w.heap.size w w' := fun s h W hb => (ref8_KindB s (by omega) W).mono (by rintro e w' ⟨rfl, b⟩; exact ⟨rfl, below_step b hb⟩)
    have H1' : ∀ W : World, Below w.heap.size w W → Calls Tryd.prog 9 #[.int .i64 kind, .int .i64 n] W fun e w' => e = .returned (.string (S8 (ofS kind n))) ∧ Below w.heap.size w w' := name_OfB w ht kind n hn _ rfl
    have H2' : ∀ W : World, Below w.heap.size w W → Calls Tryd.prog 10 #[.int .i64 kind, .int .i64 n] W fun e w' => e = .returned (.string (S8 (ofS kind n))) ∧ Below w.heap.size w w' := fun W hb => (ref8_Of kind n hn W).mono (by rintro e w' ⟨rfl, b⟩; exact ⟨rfl, below_step b hb⟩)
    have HN1' : ∀ W : World, Below w.heap.size w W → Calls Tryd.prog 12 #[.int .i64 kind, .slice A l.length c] W fun e w' => (∃ A' c', e = .returned (.slice A' (numsX kind l).length c') ∧ Rd w' w'.heap.size A' ((numsX kind l).map (Value.int .i64))) ∧ Below w.heap.size w w' := fun W hb =>
      (name_Numbers kind A c l f1 f2 W ((hr.below hb).more hb.size)).mono (by rintro e w' ⟨A', c', rfl, r, b⟩; exact ⟨⟨A', c', rfl, r⟩, below_step b hb⟩)
    have HN2' : ∀ (W : World) (A1 : Option Addr), Below w.heap.size w W → Rd W W.heap.size A1 ((numsX kind l).map (Value.int .i64)) → Calls Tryd.prog 13 #[.int .i64 kind, .slice A l.length c] W fun e w' => (∃ A' c', e = .returned (.slice A' (numsX kind l).length c') ∧ Rd w' w'.heap.size A' ((numsX kind l).map (Value.int .i64))) ∧ Rd w' w'.heap.size A1 ((numsX kind l).map (Value.int .i64)) ∧ Below w.heap.size w w' := fun W A1 hb hr1 =>
      (ref8_Numbers kind A c l f1 f2 W ((hr.below hb).more hb.size)).mono (by rintro e w' ⟨A', c', rfl, r, b⟩; exact ⟨⟨A', c', rfl, r⟩, (hr1.below b).more b.size, below_step b hb⟩)
    have hnl : (numsX kind l).length ≤ 1000 := by rw [numsX_len]; have := numsA_len kind l; omega
    have HSI' : ∀ (W : World) (A1 A2 : Option Addr) (c1 c2 : Nat), Below w.heap.size w W → Rd W W.heap.size A1 ((numsX kind l).map (Value.int .i64)) → Rd W W.heap.size A2 ((numsX kind l).map (Value.int .i64)) → Calls Tryd.prog 11 #[.slice A1 (numsX kind l).length c1, .slice A2 (numsX kind l).length c2] W fun e w' => e = .returned (.bool true) ∧ Below w.heap.size w w' := fun W A1 A2 c1 c2 hb r1 r2 =>
      (ref1_SameInts A1 A2 c1 c2 _ _ _ _ rfl rfl hnl rfl W r1 r2).mono (by rintro e w' ⟨rfl, b⟩; exact ⟨rfl, below_step b hb⟩)
    have HK1 := Lib.hid HK1'
    have HK2 := Lib.hid HK2'
    have H1 := Lib.hid H1'
    have H2 := Lib.hid H2'
    have HN1 := Lib.hid HN1'
    have HN2 := Lib.hid HN2'
    have HSI := Lib.hid HSI'
    clear HK1' HK2' H1' H2' HN1' HN2' HSI' hr hs hl f2 hfew
    have hrefl : ((S8 (ofS kind n)).toList == (S8 (ofS kind n)).toList) = true := by simp
    generalize numsX kind l = ns at *
    generalize S8 (ofS kind n) = x at *
    go_enter Tryd.func3, Tryd.ntmps3
    go_wp2_with (first
      | (go_at_call 5; (with_reducible refine (HF.out).mono ?_); rintro e w1 ⟨rfl, hw⟩; subst hw))
    go_loopw [7] (fun vi wr => ∃ k : Nat, k ≤ l.length ∧ vi = .int .i64 k ∧ Below w1.heap.size w1 wr) (fun vi _ => l.length - (intOf vi).toNat)
    case atStart => exact ⟨0, by omega, rfl, Below.refl _ _⟩
    case round =>
      obtain ⟨k, hk, rfl, hb⟩ := hrel
      by_cases hlt : k < l.length
      · obtain ⟨f, hk'⟩ : ∃ f, l[k]? = some f := ⟨l[k], List.getElem?_eq_getElem hlt⟩
        have hm : (l.map Value.string)[k]? = some (.string f) := by rw [List.getElem?_map, hk']; rfl
        have HM := Lib.hid hm
        obtain ⟨a1, rfl, b1, z1⟩ := (HR.out.below hb) k _ hm
        have hfs := HS.out f (List.mem_of_getElem? hk')
        have hi1 : (k : Int) < (l.length : Int) := by omega
        have HZ := Lib.hid (fun W (hq : Below w1.heap.size w1 W) => (by obtain ⟨a2, e2, _, z2⟩ := (HR.out.below hq) k _ HM.out; obtain rfl := Option.some.inj e2; exact z2 : W.cell? (a1.add k) = some (.string f)))
        clear hk' hm
        generalize (kB f).1 = x1 at *
        go_wp2_with (first
          | (go_at_call 7; (with_reducible refine (HK1.out _ hfs _ hb).mono ?_); rintro e w2 ⟨rfl, hb⟩; have z2 := HZ.out _ hb)
          | (go_at_call 8; (with_reducible refine (HK2.out _ hfs _ hb).mono ?_); rintro e w3 ⟨rfl, hb⟩))
        refine ⟨⟨k + 1, by omega, by go_num, by assumption⟩, by show l.length - ((k : Int) + 1).toNat < l.length - ((k : Int)).toNat; omega⟩
      · have hi1 : ¬ (k : Int) < (l.length : Int) := by omega
        go_wp2_with (first
          | (go_at_call 9; (with_reducible refine (H1.out _ hb).mono ?_); rintro e w2 ⟨rfl, hb⟩)
          | (go_at_call 10; (with_reducible refine (H2.out _ hb).mono ?_); rintro e w2 ⟨rfl, hb⟩)
          | (go_at_call 12; (with_reducible refine (HN1.out _ hb).mono ?_); rintro e w2 ⟨⟨A1, c1, rfl, r1⟩, hb⟩)
          | (go_at_call 13; (with_reducible refine (HN2.out _ _ hb r1).mono ?_); rintro e w2 ⟨⟨A2, c2, rfl, r2⟩, r3, hb⟩)
          | (go_at_call 11; (with_reducible refine (HSI.out _ _ _ _ _ hb r3 r2).mono ?_); rintro e w2 ⟨rfl, hb⟩)
          | (go_at_call 6; (with_reducible refine (HA.out _ hb).mono ?_); rintro e w2 ⟨rfl, hb⟩))
        go_ret
        exact ⟨rfl, by assumption⟩
end Go.Proofs.YtmkaijjakcjflaaDoor
