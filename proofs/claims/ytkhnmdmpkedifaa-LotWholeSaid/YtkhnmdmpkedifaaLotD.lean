/- Layer 11 (lot): what is read out of bytes, by the code and plainly; the plain Cut. -/
import Derived.Test.YtkhnmdmpkedifaaLotA
import Derived.Test.YtkhnmdmpkedifaaLaw09d
import Derived.Test.YtkhnmdmpkedifaaRankD
namespace Go.Proofs.Ytkhnmdmpkedifaa
open Go.ChangeShapes Go.WideShapes Go.ChangeAt Go.RowKit Go.Deep

/-- n records, one behind the other -/
def readN : Nat → PackP.St → List CodeP.Sp × PackP.St
  | 0, r => ([], r)
  | n + 1, r => ((readN n r).1 ++ [(CodeP.rSp (readN n r).2).1], (CodeP.rSp (readN n r).2).2)
theorem readN_length (n : Nat) (r : PackP.St) : (readN n r).1.length = n := by
  induction n with
  | zero => rfl
  | succ n ih => simp [readN, ih]
theorem readN_len (n : Nat) (r : PackP.St) : (readN n r).2.1.length ≤ r.1.length := by
  induction n with
  | zero => exact Nat.le_refl _
  | succ n ih => exact Nat.le_trans (rSp_len _) ih
def recs (n : Nat) (r : PackP.St) : List Sp := (readN n r).1.map spB
theorem recs_length (n : Nat) (r : PackP.St) : (recs n r).length = n := by unfold recs; rw [List.length_map, readN_length]
theorem recs_succ (n : Nat) (r : PackP.St) : recs (n + 1) r = recs n r ++ [spB (CodeP.rSp (readN n r).2).1] := by unfold recs; simp [readN]
theorem recs_Ok (n : Nat) (r : PackP.St) : (∀ x ∈ recs n r, x.Ok) ∧ short3 (recs n r) := by
  induction n with
  | zero => exact ⟨(by intro x h; simp [recs, readN] at h), (by intro x h; simp [recs, readN] at h)⟩
  | succ n ih =>
    obtain ⟨h1, h2, h3⟩ := rSp_Ok (readN n r).2
    rw [recs_succ]
    refine ⟨fun x hx => ?_, fun x hx => ?_⟩
    · rcases List.mem_append.1 hx with h | h
      · exact ih.1 x h
      · rw [List.mem_singleton.1 h]; exact h1
    · rcases List.mem_append.1 hx with h | h
      · exact ih.2 x h
      · rw [List.mem_singleton.1 h]
        exact ⟨show (CodeP.rSp (readN n r).2).1.sv.length ≤ 300 by omega, show (CodeP.rSp (readN n r).2).1.op.length ≤ 300 by omega⟩
/-- the records of bytes, or why there are none -/
def takeL (s : List UInt8) : List Sp × Int :=
  let h := PackP.rNum (s, 0)
  if h.2.2 ≠ 0 then ([], h.2.2) else if 256 < h.1 then ([], 12) else
  let p := readN h.1.toNat h.2
  if PackP.rEnd p.2 ≠ 0 then ([], PackP.rEnd p.2) else if mayAll (recs h.1.toNat h.2) then (recs h.1.toNat h.2, 0) else ([], 1)
/-- what a Take hands back -/
def TakePost (w : World) (R : List Sp × Int) (e : Ending) (w' : World) : Prop :=
  ∃ A cap, e = .returned (.tuple #[.slice A R.1.length cap, .int .i64 R.2]) ∧ RdS w' w'.heap.size A R.1 ∧ R.1.length ≤ cap ∧ cap ≤ maxLen ∧ Below w.heap.size w w'
theorem TakePost.none {w w' : World} {n : Int} (hb : Below w.heap.size w w') : TakePost w ([], n) (.returned (.tuple #[.slice none 0 0, .int .i64 n])) w' :=
  ⟨Option.none, 0, rfl, (by intro k x hk; simp at hk), Nat.le_refl _, Nat.zero_le _, hb⟩
theorem own_rd {w w' : World} {base b : Nat} {e : TypeId} {sz n : Nat} {v : Value} {xs : List Value} (h : w.ownsRow base e sz v n xs) (hg : w.grownBy w' (some b)) (hb : b < base) : w'.ownsRow base e sz v n xs :=
  h.kept hg (.inr fun e1 => by have h2 := (h.lt b e1).1; omega)
theorem own_RdS {w : World} {base n : Nat} {e : TypeId} {v : Value} {l : List Sp} (h : w.ownsRow base e 9 v n (l.flatMap spCells)) (hl : l.length = n) : ∃ A c, v = .slice A n c ∧ RdS w w.heap.size A l ∧ n ≤ c ∧ c ≤ maxLen := by
  rcases id h.2 with ⟨h0, h1⟩ | ⟨g, cap, cur, hv, hge, hg, hnc, hcm, hr⟩
  · refine ⟨Option.none, 0, by rw [h0, h1], ?_, by omega, Nat.zero_le _⟩
    rw [h1] at hl; rw [List.length_eq_zero_iff.1 hl]; intro k x hk; simp at hk
  · subst hv
    exact ⟨_, cap, rfl, RdS_own h, hnc, hcm⟩

set_option maxRecDepth 100000 in
set_option maxHeartbeats 1000000 in
theorem lot_Take (s : ByteArray) (hs : s.size ≤ 90000) (w : World) : Calls Try.prog 52 #[.string s] w (TakePost w (takeL s.data.toList)) := by
  have hn1 := rNum_len (s.data.toList, 0)
  have e1 : s.data.toList.length = s.size := rfl
  have HNW := Lib.hid (pack_New s w)
  have hnu := fun (W : World) (h : Rdr 59 w.heap.size (s.data.toList, 0) W) => pack_Num_at w.heap.size (s.data.toList, 0) (by simp only; omega) W h
  have hback := PackP.rNum_back s.data.toList
  unfold takeL
  simp only
  rcases hnr : PackP.rNum (s.data.toList, 0) with ⟨n, li, er⟩
  rw [hnr] at hnu hn1
  simp only at hnu hn1 ⊢
  have HNU := Lib.hid hnu
  clear hnu
  by_cases he : er = 0
  case neg =>
    rw [if_pos he]
    clear hback hnr
    go_enter Try.func52, Try.ntmps52
    go_wp2_with (first
      | (go_at_call 29; with_reducible refine (HNW.out).mono ?_; rintro e w1 ⟨rfl, q1, g1⟩)
      | (go_at_call 44; with_reducible refine (HNU.out _ q1).mono ?_; rintro e w2 ⟨rfl, q2, g2⟩)
      | (go_at_call 32; with_reducible refine (pack_Err _ _ _ q2).mono ?_; rintro e w3 ⟨rfl, rfl⟩))
    go_ret2
    exact TakePost.none ((below_grown g1).grown g2 (Nat.le_of_lt q1.lt) (by intro k h; cases h; exact Nat.le_refl _))
  subst he
  rw [if_neg (by simp)]
  obtain ⟨_, h0, _⟩ := hback li n hnr
  clear hback hnr
  obtain ⟨N, rfl⟩ := Int.eq_ofNat_of_zero_le h0
  rw [Int.toNat_natCast]
  by_cases hb : 256 < (N : Int)
  · rw [if_pos hb]
    go_enter Try.func52, Try.ntmps52
    go_wp2_with (first
      | (go_at_call 29; with_reducible refine (HNW.out).mono ?_; rintro e w1 ⟨rfl, q1, g1⟩)
      | (go_at_call 44; with_reducible refine (HNU.out _ q1).mono ?_; rintro e w2 ⟨rfl, q2, g2⟩)
      | (go_at_call 32; with_reducible refine (pack_Err _ _ _ q2).mono ?_; rintro e w3 ⟨rfl, rfl⟩))
    go_ret2
    exact TakePost.none ((below_grown g1).grown g2 (Nat.le_of_lt q1.lt) (by intro k h; cases h; exact Nat.le_refl _))
  rw [if_neg hb]
  have hN : N ≤ 256 := by omega
  have hd : decide ((256 : Int) < (N : Int)) = false := decide_eq_false hb
  have hll : li.length ≤ 90000 := by omega
  obtain ⟨i0, hi, hz0, hz1, hz2⟩ := info_parts' info_span
  have HI := Lib.hid (And.intro hi (And.intro hz0 (And.intro hz1 hz2)))
  generalize hR0 : (if PackP.rEnd (readN N (li, 0)).2 ≠ 0 then (([] : List Sp), PackP.rEnd (readN N (li, 0)).2) else if mayAll (recs N (li, 0)) = true then (recs N (li, 0), 0) else ([], 1)) = R0
  have HR0 := Lib.hid hR0
  clear hi hz0 hz1 hz2 hn1 e1 h0 hs hb hR0
  go_enter Try.func52, Try.ntmps52
  go_wp2_with (first
    | (go_at_call 29; with_reducible refine (HNW.out).mono ?_; rintro e w1 ⟨rfl, q1, g1⟩)
    | (go_at_call 44; with_reducible refine (HNU.out _ q1).mono ?_; rintro e w2 ⟨rfl, q2, g2⟩)
    | (go_at_call 32; with_reducible refine (pack_Err _ _ _ q2).mono ?_; rintro e w3 ⟨rfl, rfl⟩))
  have B2 := (below_grown g1).grown g2 (Nat.le_of_lt q1.lt) (by intro k h; cases h; exact Nat.le_refl _)
  have hz1 := q1.lt
  have hz2 := g2.size
  go_loopw [6, 22] (fun v i wr => ∃ k : Nat, k ≤ N ∧ i = .int .i64 k ∧ wr.ownsRow w1.heap.size 23 9 v k ((recs k (li, 0)).flatMap spCells) ∧ Rdr 59 w.heap.size (readN k (li, 0)).2 wr ∧ Below w.heap.size w wr ∧ w1.heap.size ≤ wr.heap.size) (fun _ i _ => N - (intOf i).toNat)
  case atStart => exact ⟨0, by omega, rfl, World.ownsRow_nil _ _ _ _, q2, B2, hz2⟩
  case round =>
    obtain ⟨k, hk, rfl, hown, qr, hbl, hwz⟩ := hrel
    have HO := Lib.hid hown
    clear hown
    by_cases hlt : k < N
    · have hrl := readN_len k (li, 0)
      have hRD := code_Read w.heap.size (readN k (li, 0)).2 (by simp only at hrl; omega) wr qr
      have hsu := recs_succ k (li, 0)
      have hr2 : (readN (k + 1) (li, 0)).2 = (CodeP.rSp (readN k (li, 0)).2).2 := rfl
      obtain ⟨x, hx⟩ : ∃ x, (CodeP.rSp (readN k (li, 0)).2).1 = x := ⟨_, rfl⟩
      rw [hx] at hRD hsu
      unfold spV at hRD
      rw [← hr2] at hRD
      have HRD := Lib.hid hRD
      have HSU := Lib.hid hsu
      have hi1 : (k : Int) < (N : Int) := by omega
      clear hRD hsu hr2 hx hrl
      go_wp2_with (first
        | (go_at_call 46; with_reducible refine (HRD.out).mono ?_; rintro e w3 ⟨rfl, q3, g3⟩; have O3 := own_rd HO.out g3 hz1)
        | (at_builtin; refine wpList_append_one rfl _ _ _ (by rfl) w1.heap.size 23 i0 _ 9 88 Try.underlying24 HI.out.1 HI.out.2.1 HI.out.2.2.1 HI.out.2.2.2 rfl (by decide) (by decide) _ _ _ (by rfl) w3 O3 _ (w3.heap.size) rfl (by rfl) (by rfl) (by simp [Value.oneCell']) (by omega) (by have := g3.size; omega) ?_; intro g cap w4 hA; have B4 := hA.below _ (Below.refl _ w3)))
      refine ⟨⟨k + 1, by omega, by go_num, ?_, (B4.block w.heap.size hz1).trans q3, ?_, ?_⟩, by simp [intOf]; omega⟩
      · have h := hA.own
        rw [HSU.out, List.flatMap_append]
        simpa [spCells, spB] using h
      · exact (hbl.grown g3 hbl.size (by intro k h; cases h; exact Nat.le_refl _)).trans (B4.mono (by omega))
      · have h1 := B4.size
        have h2 := g3.size
        omega
    · obtain rfl : k = N := by omega
      have hR := HR0.out
      clear HR0
      obtain ⟨A, c, rfl, hrd, hnc, hcm⟩ := own_RdS HO.out (recs_length k (li, 0))
      have hrok := recs_Ok k (li, 0)
      have hrt := lot_right A c (recs k (li, 0)) (by rw [recs_length]; unfold maxLen; omega) hrok.1 wr hrd
      rw [recs_length] at hrt
      have hend := pack_End w.heap.size (readN k (li, 0)).2 wr qr
      have HRL := Lib.hid (recs_length k (li, 0))
      have HRR := Lib.hid hrd
      obtain ⟨E, hE⟩ : ∃ E, PackP.rEnd (readN k (li, 0)).2 = E := ⟨_, rfl⟩
      rw [hE] at hend hR
      clear hE qr hrok hrd
      generalize recs k (li, 0) = R at hrt HRL HRR hR
      by_cases he : E ≠ 0
      · rw [if_pos he] at hR
        subst hR
        have HE := Lib.hid hend
        clear hend hrt
        go_wp2_with (go_at_call 34; with_reducible refine (HE.out).mono ?_; rintro e w5 ⟨rfl, rfl⟩)
        go_ret2
        exact TakePost.none hbl
      · obtain rfl : E = 0 := Classical.not_not.1 he
        rw [if_neg (by simp)] at hR
        have HE := Lib.hid hend
        rcases hm : mayAll R with _ | _
        · rw [hm] at hrt hR
          rw [if_neg (by simp)] at hR
          subst hR
          have HRT := Lib.hid hrt
          clear hend hrt he hm
          go_wp2_with (first
            | (go_at_call 34; with_reducible refine (HE.out).mono ?_; rintro e w5 ⟨rfl, rfl⟩)
            | (go_at_call 86; with_reducible refine (HRT.out).mono ?_; rintro e w6 ⟨rfl, b6⟩))
          go_ret2
          exact TakePost.none (hbl.trans (b6.mono hbl.size))
        · rw [hm] at hrt hR
          rw [if_pos rfl] at hR
          subst hR
          have HRT := Lib.hid hrt
          clear hend hrt he hm
          go_wp2_with (first
            | (go_at_call 34; with_reducible refine (HE.out).mono ?_; rintro e w5 ⟨rfl, rfl⟩)
            | (go_at_call 86; with_reducible refine (HRT.out).mono ?_; rintro e w6 ⟨rfl, b6⟩))
          go_ret2
          exact ⟨A, c, by rw [HRL.out]; rfl, (HRR.out.below b6).more b6.size, by rw [HRL.out]; exact hnc, hcm, hbl.trans (b6.mono hbl.size)⟩
end Go.Proofs.Ytkhnmdmpkedifaa
namespace Go.Proofs.Ytkhnmdmpkedifaa
open Go.ChangeShapes Go.WideShapes Go.ChangeAt Go.RowKit Go.Deep

theorem rNum_bad {r r' : PackP.St} {n : Int} (h : PackP.rNum r = (n, r')) (he : r'.2 ≠ 0) : n = 0 := by
  unfold PackP.rNum at h
  simp only at h
  split at h
  · cases h; rfl
  · split at h
    all_goals first
      | (cases h; rfl)
      | (cases h; exact absurd (by assumption) he)
      | (cases h; simp at he)
theorem rEnd_err (l : List UInt8) (e : Int) (h : e ≠ 0) : PackP.rEnd (l, e) = e := by unfold PackP.rEnd; simp [h]
theorem takeL_go {s : List UInt8} {N : Nat} {r : PackP.St} (h : PackP.rNum (s, 0) = ((N : Int), r)) (hc : r.2 ≠ 0 ∨ ¬ 256 < (N : Int)) :
    takeL s = if PackP.rEnd (readN N r).2 ≠ 0 then (([] : List Sp), PackP.rEnd (readN N r).2) else if mayAll (recs N r) = true then (recs N r, 0) else ([], 1) := by
  unfold takeL
  simp only [h, Int.toNat_natCast]
  by_cases he : r.2 ≠ 0
  · have h0 := rNum_bad h he
    obtain rfl : N = 0 := by omega
    obtain ⟨l, e⟩ := r
    have e1 : (readN 0 (l, e)).2 = (l, e) := rfl
    rw [if_pos he, e1, rEnd_err l e he, if_pos he]
  · rw [if_neg he, if_neg (hc.resolve_left he)]

set_option maxRecDepth 100000 in
set_option maxHeartbeats 1000000 in
theorem ref11_Take (s : ByteArray) (hs : s.size ≤ 90000) (w : World) : Calls Try.prog 53 #[.string s] w (TakePost w (takeL s.data.toList)) := by
  have hn1 := rNum_len (s.data.toList, 0)
  have e1 : s.data.toList.length = s.size := rfl
  have hnu := fun (W : World) (h : Rdr 55 w.heap.size (s.data.toList, 0) W) => ref5_Num w.heap.size (s.data.toList, 0) (by simp only; omega) W h
  have hback := PackP.rNum_back s.data.toList
  have HQ := Lib.hid (Rdr.new 55 s w)
  have htk := @takeL_go s.data.toList
  rcases hnr : PackP.rNum (s.data.toList, 0) with ⟨n, li, er⟩
  rw [hnr] at hnu hn1
  simp only at hnu hn1
  have hpos : 0 ≤ n := by
    by_cases he : er = 0
    · subst he; exact (hback li n hnr).2.1
    · have := rNum_bad hnr he; omega
  obtain ⟨N, rfl⟩ := Int.eq_ofNat_of_zero_le hpos
  have HNU := Lib.hid hnu
  have hll : li.length ≤ 90000 := by omega
  have hN0 : er ≠ 0 → N = 0 := fun he => by have := rNum_bad hnr he; omega
  have htk := fun hc => htk hnr hc
  obtain ⟨i0, hi, hz0, hz1, hz2⟩ := info_parts' info_span
  have HI := Lib.hid (And.intro hi (And.intro hz0 (And.intro hz1 hz2)))
  clear hi hz0 hz1 hz2 hn1 e1 hnu hback hpos
  by_cases hb : er = 0 ∧ 256 < (N : Int)
  · obtain ⟨rfl, hb⟩ := hb
    have ht : takeL s.data.toList = ([], 12) := by
      unfold takeL
      simp only [hnr]
      rw [if_neg (by simp), if_pos hb]
    rw [ht]
    clear ht htk hnr hN0
    go_enter Try.func53, Try.ntmps53
    go_wp2_with (go_at_call 45; with_reducible refine (HNU.out _ HQ.out).mono ?_; rintro e w2 ⟨rfl, q2, g2⟩; have k1 := q2.c1)
    go_ret2
    exact TakePost.none (((Below.refl _ w).alloc (Nat.le_refl _) _).grown g2 (by simp) (by intro k h; cases h; exact Nat.le_refl _))
  have HR0 := Lib.hid (htk (if he : er = 0 then .inr (fun h => hb ⟨he, h⟩) else .inl he)).symm
  clear htk hnr
  generalize takeL s.data.toList = R0 at HR0 ⊢
  have hN : N ≤ 256 := by
    by_cases he : er = 0
    · have : ¬ 256 < (N : Int) := fun h => hb ⟨he, h⟩
      omega
    · have := hN0 he; omega
  by_cases he : er = 0
  · subst he
    have hd : decide ((256 : Int) < (N : Int)) = false := by rw [decide_eq_false_iff_not]; omega
    clear hb hN0
    go_enter Try.func53, Try.ntmps53
    go_wp2_with (go_at_call 45; with_reducible refine (HNU.out _ HQ.out).mono ?_; rintro e w2 ⟨rfl, q2, g2⟩; have k1 := q2.c1)
    have B2 := ((Below.refl _ w).alloc (Nat.le_refl _) (.cells #[.string s, .int .i64 0] 55)).grown g2 (by simp) (by intro k h; cases h; exact Nat.le_refl _)
    have hz2 := g2.size
    rw [World.size_alloc] at hz2
    go_loopw [6, 7] (fun v i wr => ∃ k : Nat, k ≤ N ∧ i = .int .i64 k ∧ wr.ownsRow (w.heap.size + 1) 23 9 v k ((recs k (li, 0)).flatMap spCells) ∧ Rdr 55 w.heap.size (readN k (li, 0)).2 wr ∧ Below w.heap.size w wr ∧ w.heap.size + 1 ≤ wr.heap.size) (fun _ i _ => N - (intOf i).toNat)
    case atStart => exact ⟨0, by omega, rfl, World.ownsRow_nil _ _ _ _, q2, B2, hz2⟩
    case round =>
      obtain ⟨k, hk, rfl, hown, qr, hbl, hwz⟩ := hrel
      have HO := Lib.hid hown
      clear hown
      by_cases hlt : k < N
      · have hrl := readN_len k (li, 0)
        have hRD := ref9_Read w.heap.size (readN k (li, 0)).2 (by simp only at hrl; omega) wr qr
        have hsu := recs_succ k (li, 0)
        have hr2 : (readN (k + 1) (li, 0)).2 = (CodeP.rSp (readN k (li, 0)).2).2 := rfl
        obtain ⟨x, hx⟩ : ∃ x, (CodeP.rSp (readN k (li, 0)).2).1 = x := ⟨_, rfl⟩
        rw [hx] at hRD hsu
        unfold spV at hRD
        rw [← hr2] at hRD
        have HRD := Lib.hid hRD
        have HSU := Lib.hid hsu
        have hi1 : (k : Int) < (N : Int) := by omega
        clear hRD hsu hr2 hx hrl
        go_wp2_with (first
          | (go_at_call 47; with_reducible refine (HRD.out).mono ?_; rintro e w3 ⟨rfl, q3, g3⟩; have O3 := own_rd HO.out g3 (Nat.lt_succ_self _))
          | (at_builtin; refine wpList_append_one rfl _ _ _ (by rfl) (w.heap.size + 1) 23 i0 _ 9 88 Try.underlying24 HI.out.1 HI.out.2.1 HI.out.2.2.1 HI.out.2.2.2 rfl (by decide) (by decide) _ _ _ (by rfl) w3 O3 _ (w3.heap.size) rfl (by rfl) (by rfl) (by simp [Value.oneCell']) (by omega) (by have := g3.size; omega) ?_; intro g cap w4 hA; have B4 := hA.below _ (Below.refl _ w3)))
        refine ⟨⟨k + 1, by omega, by go_num, ?_, (B4.block w.heap.size (Nat.lt_succ_self _)).trans q3, ?_, ?_⟩, by simp [intOf]; omega⟩
        · have h := hA.own
          rw [HSU.out, List.flatMap_append]
          simpa [spCells, spB] using h
        · exact (hbl.grown g3 hbl.size (by intro k h; cases h; exact Nat.le_refl _)).trans (B4.mono (by omega))
        · have h1 := B4.size
          have h2 := g3.size
          omega
      · obtain rfl : k = N := by omega
        have hR := HR0.out
        clear HR0
        obtain ⟨A, c, rfl, hrd, hnc, hcm⟩ := own_RdS HO.out (recs_length k (li, 0))
        have HOK := Lib.hid (recs_Ok k (li, 0)).1
        have hend := ref5_End w.heap.size (readN k (li, 0)).2 wr qr
        have HRL := Lib.hid (recs_length k (li, 0))
        have HRR := Lib.hid hrd
        obtain ⟨E, hE⟩ : ∃ E, PackP.rEnd (readN k (li, 0)).2 = E := ⟨_, rfl⟩
        rw [hE] at hend hR
        clear hE qr hrd HO
        generalize recs k (li, 0) = R at HOK HRL HRR hR
        by_cases he : E ≠ 0
        · rw [if_pos he] at hR
          subst hR
          have HE := Lib.hid hend
          clear hend
          go_wp2_with (go_at_call 35; with_reducible refine (HE.out).mono ?_; rintro e w5 ⟨rfl, rfl⟩)
          go_ret2
          exact TakePost.none hbl
        · obtain rfl : E = 0 := Classical.not_not.1 he
          rw [if_neg (by simp)] at hR
          have HE := Lib.hid hend
          have HRS := Lib.hid hR
          clear hend he hR
          go_wp2_with (go_at_call 35; with_reducible refine (HE.out).mono ?_; rintro e w5 ⟨rfl, rfl⟩)
          go_loopw [9] (fun i wq => ∃ j : Nat, j ≤ k ∧ i = .int .i64 j ∧ mayAll (R.take j) = true ∧ Below wr.heap.size wr wq) (fun i _ => k - (intOf i).toNat)
          case atStart => exact ⟨0, by omega, rfl, rfl, Below.refl _ _⟩
          case round =>
            obtain ⟨j, hj, rfl, hmay, hbq⟩ := hrel
            have HMY := Lib.hid hmay
            clear hmay
            by_cases hjt : j < k
            · obtain ⟨f, hf⟩ : ∃ f, R[j]? = some f := ⟨R[j]'(by rw [HRL.out]; exact hjt), List.getElem?_eq_getElem _⟩
              obtain ⟨ad, rfl, hadl, c0, c1, c2, c3, c4, c5, c6, c7, c8⟩ := HRR.out.below hbq j f hf
              have hma := ref9_May f (HOK.out f (List.mem_of_getElem? hf))
              unfold CodeP.may at hma
              have hi1 : (j : Int) < (k : Int) := by omega
              rcases hq : CodeP.mayB (spP f) with _ | _
              · have hbad := mayAll_bad hf hq
                rw [hq, if_neg (by simp)] at hma
                have HM := Lib.hid hma
                have hR := HRS.out
                rw [hbad, if_neg (by simp)] at hR
                subst hR
                clear hma hf hq hbad HRS
                go_wp2_with (go_at_call 23; with_reducible refine (HM.out _).mono ?_; rintro e w6 ⟨rfl, b6⟩)
                go_ret2
                exact TakePost.none (hbl.trans ((hbq.trans (b6.mono hbq.size)).mono hbl.size))
              · have HGO := Lib.hid (mayAll_take hf HMY.out hq)
                rw [hq, if_pos rfl] at hma
                have HM := Lib.hid hma
                clear hma hf hq
                go_wp2_with (go_at_call 23; with_reducible refine (HM.out _).mono ?_; rintro e w6 ⟨rfl, b6⟩)
                exact ⟨⟨j + 1, by omega, by go_num, HGO.out, hbq.trans (b6.mono hbq.size)⟩, by simp [intOf]; omega⟩
            · obtain rfl : j = k := by omega
              have hmay := HMY.out
              rw [show j = R.length from HRL.out.symm, List.take_length] at hmay
              have hR := HRS.out
              rw [hmay, if_pos rfl] at hR
              subst hR
              clear hmay HRS
              go_wp2_with fail
              go_ret2
              exact ⟨A, c, by rw [HRL.out]; rfl, (HRR.out.below hbq).more hbq.size, by rw [HRL.out]; exact hnc, hcm, hbl.trans (hbq.mono hbl.size)⟩
  · have hee : (er == 0) = false := by rw [beq_eq_false_iff_ne]; exact he
    clear hb hN0
    go_enter Try.func53, Try.ntmps53
    go_wp2_with (go_at_call 45; with_reducible refine (HNU.out _ HQ.out).mono ?_; rintro e w2 ⟨rfl, q2, g2⟩; have k1 := q2.c1)
    have B2 := ((Below.refl _ w).alloc (Nat.le_refl _) (.cells #[.string s, .int .i64 0] 55)).grown g2 (by simp) (by intro k h; cases h; exact Nat.le_refl _)
    have hz2 := g2.size
    rw [World.size_alloc] at hz2
    go_loopw [6, 7] (fun v i wr => ∃ k : Nat, k ≤ N ∧ i = .int .i64 k ∧ wr.ownsRow (w.heap.size + 1) 23 9 v k ((recs k (li, er)).flatMap spCells) ∧ Rdr 55 w.heap.size (readN k (li, er)).2 wr ∧ Below w.heap.size w wr ∧ w.heap.size + 1 ≤ wr.heap.size) (fun _ i _ => N - (intOf i).toNat)
    case atStart => exact ⟨0, by omega, rfl, World.ownsRow_nil _ _ _ _, q2, B2, hz2⟩
    case round =>
      obtain ⟨k, hk, rfl, hown, qr, hbl, hwz⟩ := hrel
      have HO := Lib.hid hown
      clear hown
      by_cases hlt : k < N
      · have hrl := readN_len k (li, er)
        have hRD := ref9_Read w.heap.size (readN k (li, er)).2 (by simp only at hrl; omega) wr qr
        have hsu := recs_succ k (li, er)
        have hr2 : (readN (k + 1) (li, er)).2 = (CodeP.rSp (readN k (li, er)).2).2 := rfl
        obtain ⟨x, hx⟩ : ∃ x, (CodeP.rSp (readN k (li, er)).2).1 = x := ⟨_, rfl⟩
        rw [hx] at hRD hsu
        unfold spV at hRD
        rw [← hr2] at hRD
        have HRD := Lib.hid hRD
        have HSU := Lib.hid hsu
        have hi1 : (k : Int) < (N : Int) := by omega
        clear hRD hsu hr2 hx hrl
        go_wp2_with (first
          | (go_at_call 47; with_reducible refine (HRD.out).mono ?_; rintro e w3 ⟨rfl, q3, g3⟩; have O3 := own_rd HO.out g3 (Nat.lt_succ_self _))
          | (at_builtin; refine wpList_append_one rfl _ _ _ (by rfl) (w.heap.size + 1) 23 i0 _ 9 88 Try.underlying24 HI.out.1 HI.out.2.1 HI.out.2.2.1 HI.out.2.2.2 rfl (by decide) (by decide) _ _ _ (by rfl) w3 O3 _ (w3.heap.size) rfl (by rfl) (by rfl) (by simp [Value.oneCell']) (by omega) (by have := g3.size; omega) ?_; intro g cap w4 hA; have B4 := hA.below _ (Below.refl _ w3)))
        refine ⟨⟨k + 1, by omega, by go_num, ?_, (B4.block w.heap.size (Nat.lt_succ_self _)).trans q3, ?_, ?_⟩, by simp [intOf]; omega⟩
        · have h := hA.own
          rw [HSU.out, List.flatMap_append]
          simpa [spCells, spB] using h
        · exact (hbl.grown g3 hbl.size (by intro k h; cases h; exact Nat.le_refl _)).trans (B4.mono (by omega))
        · have h1 := B4.size
          have h2 := g3.size
          omega
      · obtain rfl : k = N := by omega
        have hR := HR0.out
        clear HR0
        obtain ⟨A, c, rfl, hrd, hnc, hcm⟩ := own_RdS HO.out (recs_length k (li, er))
        have HOK := Lib.hid (recs_Ok k (li, er)).1
        have hend := ref5_End w.heap.size (readN k (li, er)).2 wr qr
        have HRL := Lib.hid (recs_length k (li, er))
        have HRR := Lib.hid hrd
        obtain ⟨E, hE⟩ : ∃ E, PackP.rEnd (readN k (li, er)).2 = E := ⟨_, rfl⟩
        rw [hE] at hend hR
        clear hE qr hrd HO
        generalize recs k (li, er) = R at HOK HRL HRR hR
        by_cases he : E ≠ 0
        · rw [if_pos he] at hR
          subst hR
          have HE := Lib.hid hend
          clear hend
          go_wp2_with (go_at_call 35; with_reducible refine (HE.out).mono ?_; rintro e w5 ⟨rfl, rfl⟩)
          go_ret2
          exact TakePost.none hbl
        · obtain rfl : E = 0 := Classical.not_not.1 he
          rw [if_neg (by simp)] at hR
          have HE := Lib.hid hend
          have HRS := Lib.hid hR
          clear hend he hR
          go_wp2_with (go_at_call 35; with_reducible refine (HE.out).mono ?_; rintro e w5 ⟨rfl, rfl⟩)
          go_loopw [9] (fun i wq => ∃ j : Nat, j ≤ k ∧ i = .int .i64 j ∧ mayAll (R.take j) = true ∧ Below wr.heap.size wr wq) (fun i _ => k - (intOf i).toNat)
          case atStart => exact ⟨0, by omega, rfl, rfl, Below.refl _ _⟩
          case round =>
            obtain ⟨j, hj, rfl, hmay, hbq⟩ := hrel
            have HMY := Lib.hid hmay
            clear hmay
            by_cases hjt : j < k
            · obtain ⟨f, hf⟩ : ∃ f, R[j]? = some f := ⟨R[j]'(by rw [HRL.out]; exact hjt), List.getElem?_eq_getElem _⟩
              obtain ⟨ad, rfl, hadl, c0, c1, c2, c3, c4, c5, c6, c7, c8⟩ := HRR.out.below hbq j f hf
              have hma := ref9_May f (HOK.out f (List.mem_of_getElem? hf))
              unfold CodeP.may at hma
              have hi1 : (j : Int) < (k : Int) := by omega
              rcases hq : CodeP.mayB (spP f) with _ | _
              · have hbad := mayAll_bad hf hq
                rw [hq, if_neg (by simp)] at hma
                have HM := Lib.hid hma
                have hR := HRS.out
                rw [hbad, if_neg (by simp)] at hR
                subst hR
                clear hma hf hq hbad HRS
                go_wp2_with (go_at_call 23; with_reducible refine (HM.out _).mono ?_; rintro e w6 ⟨rfl, b6⟩)
                go_ret2
                exact TakePost.none (hbl.trans ((hbq.trans (b6.mono hbq.size)).mono hbl.size))
              · have HGO := Lib.hid (mayAll_take hf HMY.out hq)
                rw [hq, if_pos rfl] at hma
                have HM := Lib.hid hma
                clear hma hf hq
                go_wp2_with (go_at_call 23; with_reducible refine (HM.out _).mono ?_; rintro e w6 ⟨rfl, b6⟩)
                exact ⟨⟨j + 1, by omega, by go_num, HGO.out, hbq.trans (b6.mono hbq.size)⟩, by simp [intOf]; omega⟩
            · obtain rfl : j = k := by omega
              have hmay := HMY.out
              rw [show j = R.length from HRL.out.symm, List.take_length] at hmay
              have hR := HRS.out
              rw [hmay, if_pos rfl] at hR
              subst hR
              clear hmay HRS
              go_wp2_with fail
              go_ret2
              exact ⟨A, c, by rw [HRL.out]; rfl, (HRR.out.below hbq).more hbq.size, by rw [HRL.out]; exact hnc, hcm, hbl.trans (hbq.mono hbl.size)⟩
end Go.Proofs.Ytkhnmdmpkedifaa
namespace Go.Proofs.Ytkhnmdmpkedifaa
open Go.ChangeShapes Go.WideShapes Go.ChangeAt Go.RowKit Go.Deep

theorem info_spans : (Try.prog.info? 24).map (fun i => (i.zero, i.size, i.bytes)) = some (some (.slice none 0 0), 1, 24) := by kernel_rfl
/-- chunk k of records cut into lots of m -/
def chunk (m : Nat) (l : List Sp) (k : Nat) : List Sp := (l.drop (k * m)).take m
/-- the slice of chunk k of a slice at ad, with capacity c -/
def chunkV (ad : Addr) (c m n k : Nat) : Value := .slice (some (ad.add (k * m * 9))) (min m (n - k * m)) (c - k * m)
theorem chunk_length (m : Nat) (l : List Sp) (k : Nat) : (chunk m l k).length = min m (l.length - k * m) := by unfold chunk; rw [List.length_take, List.length_drop]

set_option maxRecDepth 100000 in
theorem ref11_Cut_go (ad : Addr) (c : Nat) (l : List Sp) (hlc : l.length ≤ c) (hc : c ≤ maxLen) (hl : l.length ≤ 20) (m : Nat) (hm : 1 ≤ m) (hm2 : (m : Int) ≤ 9223372036854775807) (w : World) :
    Calls Try.prog 55 #[.slice (some ad) l.length c, .int .i64 (m : Int)] w fun e w' => ∃ K v, (K * m < l.length + m ∧ l.length ≤ K * m) ∧ e = .returned v ∧ w'.ownsRow w.heap.size 24 1 v K ((List.range K).map (chunkV ad c m l.length)) ∧ Below w.heap.size w w' := by
  unfold maxLen at hc
  obtain ⟨i0, hi, hz0, hz1, hz2⟩ := info_parts' info_spans
  have HI := Lib.hid (And.intro hi (And.intro hz0 (And.intro hz1 hz2)))
  clear hi hz0 hz1 hz2
  go_enter Try.func55, Try.ntmps55
  go_wp2_with fail
  go_loopw [5, 6] (fun v i wr => ∃ k p : Nat, p = min (k * m) l.length ∧ (p < l.length → p = k * m) ∧ k * m < l.length + m ∧ k ≤ 20 ∧ i = .int .i64 p ∧ wr.ownsRow w.heap.size 24 1 v k ((List.range k).map (chunkV ad c m l.length)) ∧ Below w.heap.size w wr) (fun _ i _ => l.length - (intOf i).toNat)
  case atStart => exact ⟨0, 0, by omega, fun _ => by omega, by omega, by omega, rfl, World.ownsRow_nil _ _ _ _, Below.refl _ _⟩
  case round =>
    obtain ⟨k, p, hp, hpk, hkm, hk20, rfl, hown, hb⟩ := hrel
    have HO := Lib.hid hown
    clear hown
    by_cases hlt : p < l.length
    · have hpe := hpk hlt
      obtain ⟨q, hq⟩ : ∃ q : Nat, q = min m (l.length - p) := ⟨_, rfl⟩
      have hmin : min (m : Int) ((l.length : Int) - (p : Int)) = (q : Int) := by omega
      have hq1 : 1 ≤ q := by omega
      have hpq : p + q ≤ l.length := by omega
      have hi1 : (p : Int) < (l.length : Int) := by omega
      have hi0 : (0 : Int) ≤ (p : Int) := by omega
      have hi2 : (p : Int) ≤ (p : Int) + (q : Int) := by omega
      have hi3 : (p : Int) + (q : Int) ≤ (c : Int) := by omega
      have hpe2 : (k + 1) * m = k * m + m := Nat.succ_mul k m
      have hkk : k ≤ k * m := Nat.le_mul_of_pos_right k (by omega)
      have hfin : p + q = min ((k + 1) * m) l.length ∧ (p + q < l.length → p + q = (k + 1) * m) ∧ (k + 1) * m < l.length + m ∧ k + 1 ≤ 20 := by omega
      have HFIN := Lib.hid hfin
      have HPE := Lib.hid hpe
      have HQ := Lib.hid hq
      clear hp hpk hpe hq hpe2 hkk hfin hkm
      go_wp2_with (at_builtin; refine wpList_append_one rfl _ _ _ (by rfl) w.heap.size 24 i0 _ 1 24 Try.underlying82 HI.out.1 HI.out.2.1 HI.out.2.2.1 HI.out.2.2.2 rfl (by decide) (by decide) _ _ _ (by rfl) wr HO.out _ (wr.heap.size) rfl (by rfl) (by rfl) (by simp [Value.oneCell']) (by omega) hb.size ?_; intro g cap w4 hA; have B4 := hA.below _ hb)
      refine ⟨⟨k + 1, p + q, HFIN.out.1, HFIN.out.2.1, HFIN.out.2.2.1, HFIN.out.2.2.2, congrArg (Value.int .i64) (by omega), ?_, B4⟩, by simp [intOf]; omega⟩
      have h := hA.own
      rw [List.range_succ, List.map_append]
      have hv : chunkV ad c m l.length k = .slice (some (ad.add (p * 9))) q (c - p) := by
        unfold chunkV
        rw [← HPE.out, ← HQ.out]
      simpa [hv] using h
    · go_wp2_with fail
      go_ret
      exact ⟨k, _, ⟨hkm, by omega⟩, rfl, HO.out, hb⟩

set_option maxRecDepth 100000 in
theorem ref11_Cut_whole (ad : Addr) (c : Nat) (l : List Sp) (hlc : l.length ≤ c) (hc : c ≤ maxLen) (hl : l.length ≤ 20) (hm : 1 ≤ l.length) (sz : Int) (hsz : sz < 1) (w : World) :
    Calls Try.prog 55 #[.slice (some ad) l.length c, .int .i64 sz] w fun e w' => ∃ K v, (K * l.length < l.length + l.length ∧ l.length ≤ K * l.length) ∧ e = .returned v ∧ w'.ownsRow w.heap.size 24 1 v K ((List.range K).map (chunkV ad c l.length l.length)) ∧ Below w.heap.size w w' := by
  unfold maxLen at hc
  obtain ⟨i0, hi, hz0, hz1, hz2⟩ := info_parts' info_spans
  have HI := Lib.hid (And.intro hi (And.intro hz0 (And.intro hz1 hz2)))
  clear hi hz0 hz1 hz2
  have hd : decide (sz < 1) = true := decide_eq_true hsz
  go_enter Try.func55, Try.ntmps55
  go_wp2_with fail
  clear hd hsz
  go_loopw [5, 6] (fun v i wr => ∃ k p : Nat, p = min (k * l.length) l.length ∧ (p < l.length → p = k * l.length) ∧ k * l.length < l.length + l.length ∧ k ≤ 20 ∧ i = .int .i64 p ∧ wr.ownsRow w.heap.size 24 1 v k ((List.range k).map (chunkV ad c l.length l.length)) ∧ Below w.heap.size w wr) (fun _ i _ => l.length - (intOf i).toNat)
  case atStart => exact ⟨0, 0, by omega, fun _ => by omega, by omega, by omega, rfl, World.ownsRow_nil _ _ _ _, Below.refl _ _⟩
  case round =>
    obtain ⟨k, p, hp, hpk, hkm, hk20, rfl, hown, hb⟩ := hrel
    have HO := Lib.hid hown
    clear hown
    by_cases hlt : p < l.length
    · have hpe := hpk hlt
      obtain ⟨q, hq⟩ : ∃ q : Nat, q = min l.length (l.length - p) := ⟨_, rfl⟩
      have hmin : min (l.length : Int) ((l.length : Int) - (p : Int)) = (q : Int) := by omega
      have hq1 : 1 ≤ q := by omega
      have hpq : p + q ≤ l.length := by omega
      have hi1 : (p : Int) < (l.length : Int) := by omega
      have hi0 : (0 : Int) ≤ (p : Int) := by omega
      have hi2 : (p : Int) ≤ (p : Int) + (q : Int) := by omega
      have hi3 : (p : Int) + (q : Int) ≤ (c : Int) := by omega
      have hpe2 : (k + 1) * l.length = k * l.length + l.length := Nat.succ_mul k l.length
      have hkk : k ≤ k * l.length := Nat.le_mul_of_pos_right k (by omega)
      have hfin : p + q = min ((k + 1) * l.length) l.length ∧ (p + q < l.length → p + q = (k + 1) * l.length) ∧ (k + 1) * l.length < l.length + l.length ∧ k + 1 ≤ 20 := by omega
      have HFIN := Lib.hid hfin
      have HPE := Lib.hid hpe
      have HQ := Lib.hid hq
      clear hp hpk hpe hq hpe2 hkk hfin hkm
      go_wp2_with (at_builtin; refine wpList_append_one rfl _ _ _ (by rfl) w.heap.size 24 i0 _ 1 24 Try.underlying82 HI.out.1 HI.out.2.1 HI.out.2.2.1 HI.out.2.2.2 rfl (by decide) (by decide) _ _ _ (by rfl) wr HO.out _ (wr.heap.size) rfl (by rfl) (by rfl) (by simp [Value.oneCell']) (by omega) hb.size ?_; intro g cap w4 hA; have B4 := hA.below _ hb)
      refine ⟨⟨k + 1, p + q, HFIN.out.1, HFIN.out.2.1, HFIN.out.2.2.1, HFIN.out.2.2.2, congrArg (Value.int .i64) (by omega), ?_, B4⟩, by simp [intOf]; omega⟩
      have h := hA.own
      rw [List.range_succ, List.map_append]
      have hv : chunkV ad c l.length l.length k = .slice (some (ad.add (p * 9))) q (c - p) := by
        unfold chunkV
        rw [← HPE.out, ← HQ.out]
      simpa [hv] using h
    · go_wp2_with fail
      go_ret
      exact ⟨k, _, ⟨hkm, by omega⟩, rfl, HO.out, hb⟩
theorem ref11_Cut_nil (A : Option Addr) (c : Nat) (sz : Int) (w : World) :
    Calls Try.prog 55 #[.slice A 0 c, .int .i64 sz] w fun e w' => e = .returned (.slice none 0 0) ∧ w = w' := by
  by_cases h : sz < 1
  · go_enter Try.func55, Try.ntmps55
    go_wp2_with fail
    go_loopw [5, 6] (fun v i wr => v = .slice none 0 0 ∧ i = .int .i64 0 ∧ w = wr) (fun _ _ _ => 0)
    case atStart => exact ⟨rfl, rfl, rfl⟩
    case round =>
      obtain ⟨rfl, rfl, rfl⟩ := hrel
      go_wp2_with fail
      go_ret
      exact ⟨rfl, rfl⟩
  · go_enter Try.func55, Try.ntmps55
    go_wp2_with fail
    go_loopw [5, 6] (fun v i wr => v = .slice none 0 0 ∧ i = .int .i64 0 ∧ w = wr) (fun _ _ _ => 0)
    case atStart => exact ⟨rfl, rfl, rfl⟩
    case round =>
      obtain ⟨rfl, rfl, rfl⟩ := hrel
      go_wp2_with fail
      go_ret
      exact ⟨rfl, rfl⟩
end Go.Proofs.Ytkhnmdmpkedifaa
