/- The statements of layer 2 (crc): the walk of CrcParts. -/
import Derived.Test.YtaocmepffhochaaLaw02
namespace Go.Proofs.Ytaocmepffhochaa
open Go.ChangeShapes Go.WideShapes Go.ChangeAt Go.RowKit Go.Deep

theorem ba_app (a b : ByteArray) : (a ++ b).data.toList = a.data.toList ++ b.data.toList := by rw [ByteArray.data_append, Array.toList_append]
theorem ba_size (a : ByteArray) : a.size = a.data.toList.length := rfl

set_option maxHeartbeats 1000000 in
theorem law02_CrcParts_short (a b c : ByteArray) (ha : a.size ≤ 1024) (hb : b.size ≤ 1024) (hc : c.size ≤ 1024) (w : World) :
    Calls Try.prog 4 #[.string a, .string b, .string c] w fun e w' => e = .returned (.bool true) ∧ Below w.heap.size w w' := by
  have za : a.size ≤ maxLen := by unfold maxLen; omega
  have zb : b.size ≤ maxLen := by unfold maxLen; omega
  have zc : c.size ≤ maxLen := by unfold maxLen; omega
  have zbc : (b ++ c).size ≤ maxLen := by unfold maxLen; rw [ByteArray.size_append]; omega
  have zabc : (a ++ b ++ c).size ≤ maxLen := by unfold maxLen; rw [ByteArray.size_append, ByteArray.size_append]; omega
  have h1 := Lib.hid (crc_Slow (a ++ b ++ c) zabc)
  have h2 := Lib.hid (crc_Sum3 a b c za zb zc)
  have h3 := Lib.hid (crc_Sum1 (a ++ b ++ c) zabc)
  have h4 := Lib.hid (crc_Sum1 a za)
  have h5 := Lib.hid (crc_More (crcN a.data.toList) (b ++ c) zbc)
  have h6 := Lib.hid (crc_More (crcN (a ++ b ++ c).data.toList) ⟨#[]⟩ (by decide))
  have e1 : crcN (a.data.toList ++ (b.data.toList ++ c.data.toList)) = crcN (a ++ b ++ c).data.toList := by rw [ba_app, ba_app, List.append_assoc]
  have e2 : moreN (crcN a.data.toList) (b ++ c).data.toList = crcN (a ++ b ++ c).data.toList := by rw [moreN_crcN, ba_app, ba_app, ba_app, List.append_assoc]
  have e3 : moreN (crcN (a ++ b ++ c).data.toList) (⟨#[]⟩ : ByteArray).data.toList = crcN (a ++ b ++ c).data.toList := by rw [moreN_crcN]; exact congrArg crcN (List.append_nil _)
  clear za zb zc zbc zabc
  generalize crcN (a ++ b ++ c).data.toList = n at h1 h3 h6 e1 e2 e3
  go_enter Try.func4, Try.ntmps4
  go_wp2_with fail
  refine (h1.out _).mono ?_
  rintro e w1 ⟨rfl, hb1⟩
  go_wp2_with fail
  refine (h2.out _).mono ?_
  rintro e w2 ⟨rfl, hb2⟩
  go_wp2_with fail
  refine (h3.out _).mono ?_
  rintro e w3 ⟨rfl, hb3⟩
  go_wp2_with fail
  refine (h4.out _).mono ?_
  rintro e w4 ⟨rfl, hb4⟩
  go_wp2_with fail
  refine (h5.out _).mono ?_
  rintro e w5 ⟨rfl, hb5⟩
  go_wp2_with fail
  refine (h6.out _).mono ?_
  rintro e w6 ⟨rfl, hb6⟩
  go_wp2_with fail
  refine (law02_awake _).mono ?_
  rintro e w7 ⟨rfl, hb7⟩
  go_wp2_with fail
  go_ret
  exact ⟨rfl, by (repeat (first | assumption | exact Below.refl _ _ | refine below_step (by assumption) ?_ | refine below_alloc' _ ?_ | refine below_drewN ?_ _ | refine Below.drew ?_))⟩

theorem law02_CrcParts_long (a b c : ByteArray) (h : ¬ (a.size ≤ 1024 ∧ b.size ≤ 1024 ∧ c.size ≤ 1024)) (w : World) :
    Calls Try.prog 4 #[.string a, .string b, .string c] w fun e w' => e = .returned (.bool true) ∧ Below w.heap.size w w' := by
  by_cases h1 : a.size ≤ 1024
  · by_cases h2 : b.size ≤ 1024
    · have h3 : ¬ c.size ≤ 1024 := fun h3 => h ⟨h1, h2, h3⟩
      clear h
      go_enter Try.func4, Try.ntmps4
      go_wp2_with (go_at_call 19; refine (law02_awake _).mono ?_; rintro e w1 ⟨rfl, hb1⟩)
      go_ret
      exact ⟨rfl, by (repeat (first | assumption | exact Below.refl _ _ | refine below_step (by assumption) ?_ | refine below_alloc' _ ?_ | refine below_drewN ?_ _ | refine Below.drew ?_))⟩
    · clear h
      go_enter Try.func4, Try.ntmps4
      go_wp2_with (go_at_call 19; refine (law02_awake _).mono ?_; rintro e w1 ⟨rfl, hb1⟩)
      go_ret
      exact ⟨rfl, by (repeat (first | assumption | exact Below.refl _ _ | refine below_step (by assumption) ?_ | refine below_alloc' _ ?_ | refine below_drewN ?_ _ | refine Below.drew ?_))⟩
  · clear h
    go_enter Try.func4, Try.ntmps4
    go_wp2_with (go_at_call 19; refine (law02_awake _).mono ?_; rintro e w1 ⟨rfl, hb1⟩)
    go_ret
    exact ⟨rfl, by (repeat (first | assumption | exact Below.refl _ _ | refine below_step (by assumption) ?_ | refine below_alloc' _ ?_ | refine below_drewN ?_ _ | refine Below.drew ?_))⟩
theorem law02_CrcParts (a b c : ByteArray) (w : World) :
    Calls Try.prog 4 #[.string a, .string b, .string c] w fun e w' => e = .returned (.bool true) ∧ Below w.heap.size w w' := by
  by_cases h : a.size ≤ 1024 ∧ b.size ≤ 1024 ∧ c.size ≤ 1024
  · exact law02_CrcParts_short a b c h.1 h.2.1 h.2.2 w
  · exact law02_CrcParts_long a b c h w
end Go.Proofs.Ytaocmepffhochaa
