/- The statements of layer 2 (crc): the walks of what must come, of CrcIs and of CrcParts. -/
import Derived.Test.YtaocmepffhochaaCrcB
namespace Go.Proofs.Ytaocmepffhochaa
open Go.ChangeShapes Go.WideShapes Go.ChangeAt Go.RowKit Go.Deep

theorem crc_Sum1 (s : ByteArray) (hs : s.size ≤ maxLen) (w : World) :
    Calls Try.prog 14 #[.slice (some ⟨w.heap.size, 0, none⟩) 1 1] (w.alloc (.cells #[.string s] 9)) fun e w' => e = .returned (.int .i64 (crcN s.data.toList)) ∧ Below w.heap.size w w' := by
  refine (crc_Sum [s] w.heap.size 1 (by simp) (by simpa using hs) _ (by simp) (fun k x hk => ?_)).mono fun e w' ⟨he, hb⟩ => ⟨?_, ?_⟩
  · rw [cell_of_row _ _ _ _ 9 _ (heap_alloc_new w _)]
    obtain ⟨h1, h2⟩ := List.getElem?_eq_some_iff.1 hk
    simp at h1
    subst h1
    simp at h2
    subst h2
    rfl
  · rw [he]; simp [catL]
  · exact below_step hb (below_alloc' _ (Below.refl _ _))
theorem crc_Sum2 (s t : ByteArray) (hs : s.size ≤ maxLen) (ht : t.size ≤ maxLen) (w : World) :
    Calls Try.prog 14 #[.slice (some ⟨w.heap.size, 0, none⟩) 2 2] (w.alloc (.cells #[.string s, .string t] 9)) fun e w' => e = .returned (.int .i64 (crcN (s.data.toList ++ t.data.toList))) ∧ Below w.heap.size w w' := by
  refine (crc_Sum [s, t] w.heap.size 2 (by simp) (by simpa using ⟨hs, ht⟩) _ (by simp) (fun k x hk => ?_)).mono fun e w' ⟨he, hb⟩ => ⟨?_, ?_⟩
  · rw [cell_of_row _ _ _ _ 9 _ (heap_alloc_new w _)]
    obtain ⟨h1, h2⟩ := List.getElem?_eq_some_iff.1 hk
    simp at h1
    have h3 : k = 0 ∨ k = 1 := by omega
    rcases h3 with rfl | rfl <;> simp at h2 <;> subst h2 <;> rfl
  · rw [he]; simp [catL]
  · exact below_step hb (below_alloc' _ (Below.refl _ _))
theorem crc_Sum3 (s t u : ByteArray) (hs : s.size ≤ maxLen) (ht : t.size ≤ maxLen) (hu : u.size ≤ maxLen) (w : World) :
    Calls Try.prog 14 #[.slice (some ⟨w.heap.size, 0, none⟩) 3 3] (w.alloc (.cells #[.string s, .string t, .string u] 9)) fun e w' => e = .returned (.int .i64 (crcN (s.data.toList ++ (t.data.toList ++ u.data.toList)))) ∧ Below w.heap.size w w' := by
  refine (crc_Sum [s, t, u] w.heap.size 3 (by simp) (by simpa using ⟨hs, ht, hu⟩) _ (by simp) (fun k x hk => ?_)).mono fun e w' ⟨he, hb⟩ => ⟨?_, ?_⟩
  · rw [cell_of_row _ _ _ _ 9 _ (heap_alloc_new w _)]
    obtain ⟨h1, h2⟩ := List.getElem?_eq_some_iff.1 hk
    simp at h1
    have h3 : k = 0 ∨ k = 1 ∨ k = 2 := by omega
    rcases h3 with rfl | rfl | rfl <;> simp at h2 <;> subst h2 <;> rfl
  · rw [he]; simp [catL]
  · exact below_step hb (below_alloc' _ (Below.refl _ _))

theorem aw1 : crcN [49, 50, 51, 52, 53, 54, 55, 56, 57] = 3808858755 := by decide +kernel
theorem aw2 : moreN (crcN [49, 50, 51, 52]) [53, 54, 55, 56, 57] = 3808858755 := by decide +kernel
theorem law02_awake (w : World) : Calls Try.prog 19 #[] w fun e w' => e = .returned (.bool true) ∧ Below w.heap.size w w' := by
  have a1 := aw1
  have a2 := aw2
  go_enter Try.func19, Try.ntmps19
  go_wp2_with fail
  refine (crc_Sum1 ⟨#[49, 50, 51, 52, 53, 54, 55, 56, 57]⟩ (by decide) _).mono ?_
  rintro e w1 ⟨rfl, hb1⟩
  go_wp2_with fail
  refine (crc_Slow ⟨#[49, 50, 51, 52, 53, 54, 55, 56, 57]⟩ (by decide) _).mono ?_
  rintro e w2 ⟨rfl, hb2⟩
  go_wp2_with fail
  refine (crc_Sum_nil _).mono ?_
  rintro e w3 ⟨rfl, rfl⟩
  go_wp2_with fail
  refine (crc_Sum1 ⟨#[49, 50, 51, 52]⟩ (by decide) _).mono ?_
  rintro e w4 ⟨rfl, hb4⟩
  go_wp2_with fail
  refine (crc_More _ ⟨#[53, 54, 55, 56, 57]⟩ (by decide) _).mono ?_
  rintro e w5 ⟨rfl, hb5⟩
  go_wp2_with fail
  go_ret
  exact ⟨rfl, by (repeat (first | assumption | exact Below.refl _ _ | refine below_step (by assumption) ?_ | refine below_alloc' _ ?_ | refine below_drewN ?_ _ | refine Below.drew ?_))⟩

set_option maxHeartbeats 1000000 in
theorem law02_CrcIs (n : Int) (s : ByteArray) (hs : s.size ≤ maxLen) (w : World) :
    Calls Try.prog 3 #[.int .i64 n, .string s] w fun e w' => e = .returned (.bool true) ∧ Below w.heap.size w w' := by
  have HS := Lib.hid hs
  clear hs
  rcases Nat.lt_or_ge 1024 s.size with h | h
  · go_enter Try.func3, Try.ntmps3
    go_wp2_with fail
    refine (law02_awake _).mono ?_
    rintro e w1 ⟨rfl, hb1⟩
    go_wp2_with fail
    go_ret
    exact ⟨rfl, by (repeat (first | assumption | exact Below.refl _ _ | refine below_step (by assumption) ?_ | refine below_alloc' _ ?_ | refine below_drewN ?_ _ | refine Below.drew ?_))⟩
  · go_enter Try.func3, Try.ntmps3
    go_wp2_with (first
      | (go_at_call 14; refine (crc_Sum1 _ HS.out _).mono ?_; rintro e w1 ⟨rfl, hb1⟩)
      | (go_at_call 15; refine (gossamerref02_Sum _ HS.out _).mono ?_; rintro e w1 ⟨rfl, rfl⟩)
      | (go_at_call 16; refine (crc_Slow _ HS.out _).mono ?_; rintro e w1 ⟨rfl, hb1⟩)
      | (go_at_call 17; refine (crc_More _ _ HS.out _).mono ?_; rintro e w1 ⟨rfl, hb1⟩)
      | (go_at_call 18; refine (gossamerref02_More _ _ HS.out _).mono ?_; rintro e w1 ⟨rfl, rfl⟩)
      | (go_at_call 19; refine (law02_awake _).mono ?_; rintro e w1 ⟨rfl, hb1⟩))
    go_ret
    exact ⟨rfl, by (repeat (first | assumption | exact Below.refl _ _ | refine below_step (by assumption) ?_ | refine below_alloc' _ ?_ | refine below_drewN ?_ _ | refine Below.drew ?_))⟩
end Go.Proofs.Ytaocmepffhochaa
