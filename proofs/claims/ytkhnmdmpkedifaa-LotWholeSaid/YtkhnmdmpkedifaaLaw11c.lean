/- The statements of layer 11 (lot): the walk of LotWhole. -/
import Derived.Test.YtkhnmdmpkedifaaLotK
namespace Go.Proofs.Ytkhnmdmpkedifaa
open Go.ChangeShapes Go.WideShapes Go.ChangeAt Go.RowKit Go.Deep

theorem chunk_in {m K N k : Nat} (hK : K * m < N + m ∧ N ≤ K * m) (hk : k < K) : k * m < N := by
  have := Nat.mul_le_mul_right m (show k + 1 ≤ K from hk)
  rw [Nat.succ_mul] at this
  omega
theorem take_chunk (m : Nat) (l : List Sp) (k : Nat) : l.take (k * m) ++ chunk m l k = l.take ((k + 1) * m) := by
  unfold chunk
  rw [Nat.succ_mul, List.take_add]
theorem RdS_ad {w : World} {B : Nat} {A : Option Addr} {l : List Sp} (h : RdS w B A l) (hl : 1 ≤ l.length) : ∃ ad, A = some ad := by
  obtain ⟨ad, e, _⟩ := h 0 _ (List.getElem?_eq_getElem hl)
  exact ⟨ad, e⟩

set_option maxRecDepth 100000 in
theorem law11_LotWhole_out (A : Option Addr) (c : Nat) (l : List Sp) (sz : Int) (hm : l.length ≤ maxLen) (hok : ∀ x ∈ l, x.Ok) (hf : ¬ fewS 20 l) (w : World) (hr : RdS w w.heap.size A l) :
    Calls Try.prog 14 #[.slice A l.length c, .int .i64 sz] w fun e w' => e = .returned (.bool true) ∧ Below w.heap.size w w' := by
  have HF := Lib.hid (show Calls Try.prog 16 #[.slice A l.length c, .int .i64 20] w fun e w' => e = .returned (.bool false) ∧ Below w.heap.size w w' from ref9_Few_no A c l hm hok 20 (by decide) hf w hr)
  clear hf hr hok
  go_enter Try.func14, Try.ntmps14
  go_wp2_with (first
    | (go_at_call 16; (with_reducible refine (HF.out).mono ?_); rintro e w1 ⟨rfl, b1⟩)
    | (go_at_call 49; (with_reducible refine (law11_awake _).mono ?_); rintro e w2 ⟨rfl, b2⟩))
  go_ret
  exact ⟨rfl, by (repeat (first | assumption | exact Below.refl _ _ | refine below_step (by assumption) ?_ | refine below_alloc' _ ?_ | refine below_drewN ?_ _ | refine Below.drew ?_))⟩
set_option maxRecDepth 100000 in
set_option maxHeartbeats 8000000 in
theorem law11_LotWhole_in (A : Option Addr) (c : Nat) (l : List Sp) (sz : Int) (hlc : l.length ≤ c) (hc : c ≤ maxLen) (hf : fewS 20 l) (hsz : sz ≤ 9223372036854775807) (w : World) (hr : RdS w w.heap.size A l) :
    Calls Try.prog 14 #[.slice A l.length c, .int .i64 sz] w fun e w' => e = .returned (.bool true) ∧ Below w.heap.size w w' := by
  have h20 := hf.1
  obtain ⟨m, K, hm1, hK, hs1, hs2, C1, _⟩ := cut_both A c l hlc hc h20 sz hsz
  have hKN := cut_K hm1 hK.1
  obtain ⟨i0, hi, hz0, hz1, hz2⟩ := info_parts' info_span
  have HI := Lib.hid (And.intro hi (And.intro hz0 (And.intro hz1 hz2)))
  have HF := Lib.hid (show Calls Try.prog 16 #[.slice A l.length c, .int .i64 20] w fun e w' => e = .returned (.bool true) ∧ Below w.heap.size w w' from ref9_Few_yes A c l 20 (by decide) hf w hr)
  have HC1 := Lib.hid (fun (W : World) (hb : Below w.heap.size w W) => C1 W ((hr.below hb).more hb.size))
  have HR := Lib.hid (fun (W : World) (hb : Below w.heap.size w W) => ((hr.below hb).more hb.size : RdS W W.heap.size A l))
  have HK := Lib.hid hK
  have HM1 := Lib.hid hm1
  have HS1 := Lib.hid hs1
  have HS2 := Lib.hid hs2
  clear hf hr C1 hK hs1 hs2 hm1 hi hz0 hz1 hz2
  go_enter Try.func14, Try.ntmps14
  go_wp2_with (first
    | (go_at_call 16; (with_reducible refine (HF.out).mono ?_); rintro e w1 ⟨rfl, b1⟩)
    | (go_at_call 54; (with_reducible refine (HC1.out _ (by (repeat (first | assumption | exact Below.refl _ _ | refine below_step (by assumption) ?_ | refine below_alloc' _ ?_ | refine below_drewN ?_ _ | refine Below.drew ?_)))).mono ?_); rintro e w2 ⟨A2, c2, vs, rfl, k2, o2, h2, b2⟩))
  have B2 : Below w.heap.size w w2 := by (repeat (first | assumption | exact Below.refl _ _ | refine below_step (by assumption) ?_ | refine below_alloc' _ ?_ | refine below_drewN ?_ _ | refine Below.drew ?_))
  clear HF HC1 b1 b2
  go_loopw [6, 7] (fun v i wr => ∃ k : Nat, k ≤ K ∧ i = .int .i64 k ∧ wr.ownsRow w2.heap.size 23 9 v (l.take (k * m)).length ((l.take (k * m)).flatMap spCells) ∧ Below w2.heap.size w2 wr) (fun _ i _ => K - (intOf i).toNat)
  case atStart => exact ⟨0, by omega, rfl, by rw [Nat.zero_mul]; exact World.ownsRow_nil _ _ _ _, Below.refl _ _⟩
  case round =>
    obtain ⟨k, hk, rfl, hown, hb⟩ := hrel
    have HO := Lib.hid hown
    clear hown
    by_cases hlt : k < K
    · have hin := chunk_in HK.out hlt
      obtain ⟨g2, rfl, l2⟩ := own_pos o2 (by omega)
      obtain ⟨A', c', e2, r2⟩ := h2 k hlt
      have y2 := o2.cells (g := g2) rfl k _ e2
      rw [add_0] at y2
      have z2 := (hb.cell (p := ⟨g2, k, none⟩) l2).trans y2
      have hnl := chunk_length m l k
      have hm1 := HM1.out
      obtain ⟨ad', rfl⟩ := RdS_ad r2 (by omega)
      have r3 := (r2.below hb).more hb.size
      have HNW := Lib.hid (news_all r3)
      have HLN := Lib.hid (spCells_len (chunk m l k))
      have hcl : (l.take (k * m)).length + (chunk m l k).length ≤ 20 := by rw [List.length_take]; omega
      have HE := Lib.hid (take_chunk m l k)
      have HEL : RowKit.Hid ((l.take (k * m)).length + (chunk m l k).length = (l.take ((k + 1) * m)).length) := Lib.hid (by rw [← take_chunk, List.length_append])
      have q1 : 1 ≤ (chunk m l k).length := by omega
      have q3 : 1 ≤ sz → ((chunk m l k).length : Int) ≤ sz := fun h => by have := HS1.out h; omega
      have q4 : 1 ≤ sz → k + 1 < K → ((chunk m l k).length : Int) = sz := fun h h' => by
        have h1 := HS1.out h
        have h3 := chunk_in HK.out h'
        rw [Nat.succ_mul] at h3
        omega
      have q5 : sz < 1 → K = 1 := fun h => by
        have h1 := HS2.out h
        have h3 := HK.out.1
        have hN : m = l.length := by omega
        rw [hN] at h3
        rcases Nat.lt_or_ge 1 K with h4 | h4
        · have := Nat.mul_le_mul_right l.length (show 2 ≤ K from h4)
          omega
        · omega
      generalize hn : (chunk m l k).length = n at *
      have g1 : ((n : Int) == 0) = false := by rw [beq_eq_false_iff_ne]; omega
      have hi1 : (k : Int) < (K : Int) := by omega
      clear r2 r3 h2 o2 y2 e2 hnl hm1 hin
      by_cases hs : sz < 1
      · have d1 : decide (0 < sz) = false := by rw [decide_eq_false_iff_not]; omega
        have d2 : decide (sz < 1) = true := by rw [decide_eq_true_eq]; omega
        have d3 : ((K : Int) != 1) = false := by have := q5 hs; subst this; rfl
        clear q3 q4 q5 hs
        go_wp2_with (at_builtin; refine wpList_append_lies _ rfl _ _ _ (by rfl) w2.heap.size 23 i0 _ 9 88 Try.underlying24 HI.out.1 HI.out.2.1 HI.out.2.2.1 HI.out.2.2.2 rfl (by decide) _ _ _ (by rfl) HO.out ad' n c' ((chunk m l k).flatMap spCells) (by rfl) HLN.out HNW.out (spCells_one _) (by omega) (by unfold maxLen; omega) (by omega) hb.size _ rfl ?_; intro g cap w4 x2 x3 x4 x5)
        refine ⟨⟨k + 1, by omega, by go_num, ?_, hb.grown x3 hb.size (fun j e => (HO.out.lt j e).1)⟩, by simp [intOf]; omega⟩
        have x6 := x2
        rw [← List.flatMap_append, HE.out] at x6
        rw [← HEL.out, ← (List.length_take : (l.take (k * m)).length = min (k * m) l.length)]
        exact x6
      · have d1 : decide (0 < sz) = true := by rw [decide_eq_true_eq]; omega
        have d2 : decide (sz < 1) = false := by rw [decide_eq_false_iff_not]; omega
        have d3 : decide (sz < (n : Int)) = false := by rw [decide_eq_false_iff_not]; have := q3 (by omega); omega
        by_cases hk1 : k + 1 < K
        · have d4 : ((n : Int) != sz) = false := by rw [q4 (by omega) hk1]; simp
          have d5 : (k : Int) + 1 < (K : Int) := by omega
          clear q3 q4 q5 hs hk1
          go_wp2_with (at_builtin; refine wpList_append_lies _ rfl _ _ _ (by rfl) w2.heap.size 23 i0 _ 9 88 Try.underlying24 HI.out.1 HI.out.2.1 HI.out.2.2.1 HI.out.2.2.2 rfl (by decide) _ _ _ (by rfl) HO.out ad' n c' ((chunk m l k).flatMap spCells) (by rfl) HLN.out HNW.out (spCells_one _) (by omega) (by unfold maxLen; omega) (by omega) hb.size _ rfl ?_; intro g cap w4 x2 x3 x4 x5)
          refine ⟨⟨k + 1, by omega, by go_num, ?_, hb.grown x3 hb.size (fun j e => (HO.out.lt j e).1)⟩, by simp [intOf]; omega⟩
          have x6 := x2
          rw [← List.flatMap_append, HE.out] at x6
          rw [← HEL.out, ← (List.length_take : (l.take (k * m)).length = min (k * m) l.length)]
          exact x6
        · have d5 : ¬ (k : Int) + 1 < (K : Int) := by omega
          clear q3 q4 q5 hs hk1
          go_wp2_with (at_builtin; refine wpList_append_lies _ rfl _ _ _ (by rfl) w2.heap.size 23 i0 _ 9 88 Try.underlying24 HI.out.1 HI.out.2.1 HI.out.2.2.1 HI.out.2.2.2 rfl (by decide) _ _ _ (by rfl) HO.out ad' n c' ((chunk m l k).flatMap spCells) (by rfl) HLN.out HNW.out (spCells_one _) (by omega) (by unfold maxLen; omega) (by omega) hb.size _ rfl ?_; intro g cap w4 x2 x3 x4 x5)
          refine ⟨⟨k + 1, by omega, by go_num, ?_, hb.grown x3 hb.size (fun j e => (HO.out.lt j e).1)⟩, by simp [intOf]; omega⟩
          have x6 := x2
          rw [← List.flatMap_append, HE.out] at x6
          rw [← HEL.out, ← (List.length_take : (l.take (k * m)).length = min (k * m) l.length)]
          exact x6
    · obtain rfl : k = K := by omega
      have hle := HK.out.2
      have ht : l.take (k * m) = l := List.take_of_length_le hle
      have ho := HO.out
      rw [ht] at ho
      obtain ⟨A3, c3, rfl, r3, _, _⟩ := own_RdS ho rfl
      have HSM := Lib.hid (fun (W : World) (h1 : Below wr.heap.size wr W) (h2 : Below w.heap.size w W) => ref9_Same A3 A c3 c l (by unfold maxLen; omega) W ((r3.below h1).more h1.size) (HR.out W h2))
      have D : Below w.heap.size w wr := B2.trans (hb.mono B2.size)
      clear HO ho r3 o2 h2 ht hle B2 hb
      go_wp2_with (first
        | (go_at_call 56; (with_reducible refine (HSM.out _ (by (repeat (first | assumption | exact Below.refl _ _ | refine below_step (by assumption) ?_ | refine below_alloc' _ ?_ | refine below_drewN ?_ _ | refine Below.drew ?_))) (by (repeat (first | assumption | exact Below.refl _ _ | refine below_step (by assumption) ?_ | refine below_alloc' _ ?_ | refine below_drewN ?_ _ | refine Below.drew ?_)))).mono ?_); rintro e w5 ⟨rfl, b5⟩)
        | (go_at_call 49; (with_reducible refine (law11_awake _).mono ?_); rintro e w9 ⟨rfl, b9⟩))
      go_ret
      exact ⟨rfl, by (repeat (first | assumption | exact Below.refl _ _ | refine below_step (by assumption) ?_ | refine below_alloc' _ ?_ | refine below_drewN ?_ _ | refine Below.drew ?_))⟩
theorem law11_LotWhole (a : SlSp) (sz : Int) (w : World) (ha : a.Ok w) (hz : (Lit.int .i64 sz).wf = true) :
    Calls Try.prog 14 #[.slice a.A a.l.length a.c, .int .i64 sz] w fun e w' => e = .returned (.bool true) ∧ Below w.heap.size w w' := by
  have hz2 := I64_of_wf hz
  unfold I64 at hz2
  by_cases h : fewS 20 a.l
  · exact law11_LotWhole_in a.A a.c a.l sz ha.2.1 ha.2.2.1 h (by omega) w ha.2.2.2.2
  · exact law11_LotWhole_out a.A a.c a.l sz ha.1 ha.2.2.2.1 h w ha.2.2.2.2
end Go.Proofs.Ytkhnmdmpkedifaa
