/- Walks of layer 1 (vari) and of its reference: the number that bytes begin with. -/
import Derived.Test.YtkhnmdmpkedifaaVari
namespace Go.Proofs.Ytkhnmdmpkedifaa
open Go.ChangeShapes Go.WideShapes Go.ChangeAt Go.RowKit Go.Deep

theorem pow128 (k : Nat) : 128 ^ k = 2 ^ (7 * k) := by rw [Nat.pow_mul]
theorem andNot128 (c : Nat) (h : c < 256) : bits .andNot .u8 (c : Int) 128 = ((c % 128 : Nat) : Int) := by
  rw [show (128 : Int) = ((128 : Nat) : Int) from rfl, u8_andNot_nat _ _ h (by omega)]
  rw [show (255 - 128 : Nat) = 127 from rfl, nat_mask7]
theorem or_step (acc c k : Nat) (ha : acc < 128 ^ k) (hc : c < 128) (hk : k ≤ 9) :
    bits .or .u64 ((acc : Nat) : Int) (IntKind.u64.wrap ((c : Int) * 2 ^ (7 * (k : Int)).toNat)) = (((acc + c * 128 ^ k) % 18446744073709551616 : Nat) : Int) := by
  have e0 : (7 * (k : Int)).toNat = 7 * k := by omega
  have e1 : (c : Int) * 2 ^ (7 * (k : Int)).toNat = ((c * 128 ^ k : Nat) : Int) := by rw [e0, pow128]; simp
  rw [e1, wrap_u64]
  have h9 : 128 ^ k ≤ 9223372036854775808 := Nat.le_trans (Nat.pow_le_pow_right (by omega) hk) (by decide)
  have e2 : ((c * 128 ^ k : Nat) : Int) % 18446744073709551616 = ((c * 128 ^ k % 18446744073709551616 : Nat) : Int) := by omega
  rw [e2, u64_or_nat _ _ (by omega) (by omega), Nat.or_comm]
  have hm : c * 128 ^ k % 18446744073709551616 % 2 ^ (7 * k) = 0 := by
    rw [pow128]
    have : 2 ^ (7 * k) ∣ 18446744073709551616 := by
      rw [show (18446744073709551616 : Nat) = 2 ^ 64 from rfl]
      exact Nat.pow_dvd_pow 2 (by omega)
    rw [Nat.mod_mod_of_dvd _ this, Nat.mul_mod_left]
  rw [nat_join (7 * k) _ acc hm (by rw [← pow128]; exact ha)]
  have hx : c * 128 ^ k % 18446744073709551616 + acc < 18446744073709551616 := by
    rcases Nat.lt_or_ge k 9 with h8 | h8
    · have h7 : 128 ^ k ≤ 128 ^ 8 := Nat.pow_le_pow_right (by omega) (by omega)
      have : c * 128 ^ k ≤ 127 * 128 ^ 8 := Nat.mul_le_mul (by omega) h7
      have := Nat.mod_le (c * 128 ^ k) 18446744073709551616
      omega
    · obtain rfl : k = 9 := by omega
      omega
  refine congrArg _ ?_
  have e5 : (acc + c * 128 ^ k) % 18446744073709551616 = (c * 128 ^ k % 18446744073709551616 + acc) % 18446744073709551616 := by omega
  rw [e5, Nat.mod_eq_of_lt hx]
theorem take_cons (f k acc : Nat) (l : List UInt8) (c : UInt8) (h : l[k]? = some c) : VariP.takeF (f + 1) k acc (l.drop k) =
    if 128 ≤ c.toNat then VariP.takeF f (k + 1) (acc + c.toNat % 128 * 128 ^ k) (l.drop (k + 1))
    else if (c.toNat = 0 ∧ 0 < k) ∨ (k = 9 ∧ 1 < c.toNat) then (0, 0, 2) else (acc + c.toNat % 128 * 128 ^ k, k + 1, 0) := by
  obtain ⟨hk, rfl⟩ := List.getElem?_eq_some_iff.1 h
  rw [List.drop_eq_getElem_cons hk, VariP.takeF]
theorem take_short (f k acc : Nat) (l : List UInt8) (h : l.length ≤ k) : VariP.takeF (f + 1) k acc (l.drop k) = (0, 0, 3) := by
  rw [List.drop_eq_nil_of_le h, VariP.takeF]
theorem or_all (acc c k : Nat) (ha : acc < 128 ^ k) (hc : c < 256) (hk : k ≤ 9) :
    bits .or .u64 ((acc : Int) % 18446744073709551616) (IntKind.u64.wrap (IntKind.u64.wrap (bits .andNot .u8 (c : Int) 128) * 2 ^ (7 * k))) = (((acc + c % 128 * 128 ^ k) % 18446744073709551616 : Nat) : Int) := by
  have h9 : 128 ^ k ≤ 9223372036854775808 := Nat.le_trans (Nat.pow_le_pow_right (by omega) hk) (by decide)
  rw [andNot128 c hc, wrap_u64 ((c % 128 : Nat) : Int), show ((c % 128 : Nat) : Int) % 18446744073709551616 = ((c % 128 : Nat) : Int) by omega, show (acc : Int) % 18446744073709551616 = (acc : Int) by omega]
  have := or_step acc (c % 128) k ha (by omega) hk
  rw [show (7 * (k : Int)).toNat = 7 * k by omega] at this
  exact this
theorem acc_lt (acc c k : Nat) (ha : acc < 128 ^ k) : acc + c % 128 * 128 ^ k < 128 ^ (k + 1) := by
  rw [Nat.pow_succ]
  have : (c % 128 + 1) * 128 ^ k ≤ 128 * 128 ^ k := Nat.mul_le_mul_right _ (by omega)
  rw [Nat.add_mul] at this
  omega
theorem acc_ok (acc c k : Nat) (ha : acc < 128 ^ k) (hk : k ≤ 9) (hc : c < 128) (h : ¬ (k = 9 ∧ 1 < c)) : (acc + c % 128 * 128 ^ k) % 18446744073709551616 = acc + c % 128 * 128 ^ k := by
  refine Nat.mod_eq_of_lt ?_
  rcases Nat.lt_or_ge k 9 with h9 | h9
  · have h1 := acc_lt acc c k ha
    have h2 : 128 ^ (k + 1) ≤ 128 ^ 9 := Nat.pow_le_pow_right (by omega) (by omega)
    omega
  · obtain rfl : k = 9 := by omega
    have : c ≤ 1 := by omega
    have h3 : c % 128 * 128 ^ 9 ≤ 1 * 128 ^ 9 := Nat.mul_le_mul_right _ (by omega)
    omega
/-- what a taking tells -/
def tkV (t : Nat × Nat × Int) : Value := .tuple #[.int .u64 (t.1 : Int), .int .i64 (t.2.1 : Int), .int .i64 t.2.2]

set_option maxRecDepth 100000 in
theorem vari_take (s : ByteArray) (lim : Nat) (hlim : lim ≤ 10) (hs : s.size ≤ maxLen) (w : World) :
    Calls Try.prog 102 #[.string s, .int .i64 (lim : Int)] w fun e w' => e = .returned (tkV (VariP.take lim s.data.toList)) ∧ w = w' := by
  unfold maxLen at hs
  go_enter Try.func102, Try.ntmps102
  go_wp2
  go_step3
  go_wp2
  go_step3
  go_wp2
  go_loop [7, 8, 12] (fun u z i => ∃ (k acc : Nat), k ≤ lim ∧ k ≤ s.size ∧ i = .int .i64 k ∧ z = .int .i64 0 ∧ u = .int .u64 ((acc % 18446744073709551616 : Nat) : Int) ∧ acc < 128 ^ k ∧ VariP.take lim s.data.toList = VariP.takeF (lim - k) k acc (s.data.toList.drop k)) (fun _ _ i => lim - (intOf i).toNat)
  case atStart => exact ⟨0, 0, by omega, by omega, rfl, rfl, rfl, by simp, by simp [VariP.take]⟩
  case round =>
    obtain ⟨k, acc, hk, hks, rfl, rfl, rfl, hacc, ht⟩ := hrel
    by_cases hlt : k < lim
    · have HF := Lib.hid (show lim - k = (lim - (k + 1)) + 1 by omega)
      by_cases hsz : k < s.size
      · have hcons := take_cons (lim - (k + 1)) k acc s.data.toList s[k] (by rw [List.getElem?_eq_getElem (by simpa using hsz)]; rfl)
        have HO := Lib.hid (or_all acc s[k].toNat k hacc s[k].toNat_lt (by omega))
        have HL := Lib.hid (acc_lt acc s[k].toNat k hacc)
        have HOK := Lib.hid (acc_ok acc s[k].toNat k hacc (by omega))
        have HC := Lib.hid hcons
        have HT := Lib.hid ht
        clear ht hcons hacc
        by_cases hc : 128 ≤ s[k].toNat
        · go_wp2
          refine ⟨⟨k + 1, _, by omega, by omega, by go_num, rfl, by rw [HO.out], HL.out, ?_⟩, by simp [intOf]; omega⟩
          rw [HT.out, HF.out, HC.out, if_pos hc]
        · have hb : s[k].toNat < 128 := by omega
          have HB := Lib.hid (if_neg hc ▸ HC.out)
          by_cases h0 : s[k].toNat = 0
          · have H0 := Lib.hid h0
            have hz : ((s[k].toNat : Int) == 0) = true := by rw [beq_iff_eq]; omega
            clear h0
            by_cases hk0 : 0 < k
            · go_wp2
              go_ret3
              refine ⟨ret_val ?_, rfl⟩
              rw [HT.out, HF.out, HC.out, if_neg (by omega), if_pos (.inl ⟨H0.out, hk0⟩)]
              rfl
            · have hn1 : ¬ (1 : Int) < (s[k].toNat : Int) := by have := H0.out; omega
              go_wp2
              go_ret3
              refine ⟨ret_val ?_, rfl⟩
              rw [HT.out, HF.out, HC.out, if_neg (by omega), if_neg (by omega)]
              have h1 := HOK.out hb (by omega)
              have h2 := HO.out
              rw [h1] at h2
              unfold tkV
              rw [← h2]
              rfl
          · have hz : ((s[k].toNat : Int) == 0) = false := by rw [beq_eq_false_iff_ne]; omega
            by_cases h9 : k = 9
            · have H9 := Lib.hid h9
              have h9b : ((k : Int) == 9) = true := by rw [beq_iff_eq]; omega
              clear h9
              by_cases hn1 : 1 < s[k].toNat
              · go_wp2
                go_ret3
                refine ⟨ret_val ?_, rfl⟩
                rw [HT.out, HF.out, HC.out, if_neg (by omega), if_pos (.inr ⟨H9.out, hn1⟩)]
                rfl
              · go_wp2
                go_ret3
                refine ⟨ret_val ?_, rfl⟩
                rw [HT.out, HF.out, HC.out, if_neg (by omega), if_neg (by omega)]
                have h1 := HOK.out hb (by omega)
                have h2 := HO.out
                rw [h1] at h2
                unfold tkV
                rw [← h2]
                rfl
            · have h9b : ((k : Int) == 9) = false := by rw [beq_eq_false_iff_ne]; omega
              go_wp2
              go_ret3
              refine ⟨ret_val ?_, rfl⟩
              rw [HT.out, HF.out, HC.out, if_neg (by omega), if_neg (by omega)]
              have h1 := HOK.out hb (by omega)
              have h2 := HO.out
              rw [h1] at h2
              unfold tkV
              rw [← h2]
              rfl
      · have HT := Lib.hid ht
        clear ht hacc
        go_wp2
        go_ret3
        refine ⟨ret_val ?_, rfl⟩
        rw [HT.out, HF.out, take_short _ _ _ _ (by have : s.data.toList.length = s.size := rfl; omega)]
        rfl
    · have HT := Lib.hid ht
      clear ht hacc
      go_wp2
      go_ret3
      refine ⟨ret_val ?_, rfl⟩
      rw [HT.out, show lim - k = 0 by omega]
      rfl
end Go.Proofs.Ytkhnmdmpkedifaa
