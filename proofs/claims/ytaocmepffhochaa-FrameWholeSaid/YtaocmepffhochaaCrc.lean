/- Walks of layer 2 (crc) and of its reference. -/
import Derived.Test.YtaocmepffhochaaKit
import Derived.Test.YtaocmepffhochaaRegion
import Derived.Test.YtaocmepffhochaaStr
import Derived.Test.YtaocmepffhochaaCrcP
namespace Go.Proofs.Ytaocmepffhochaa
open Go.ChangeShapes Go.WideShapes Go.ChangeAt Go.RowKit Go.Deep

theorem bv_xor (a b : BitVec 32) : bits .xor .u32 (a.toNat : Int) (b.toNat : Int) = ((a ^^^ b).toNat : Int) := by
  rw [u32_xor_nat _ _ a.isLt b.isLt, BitVec.toNat_xor]
theorem bv_byte (b : UInt8) : (b.toNat : Int) = ((BitVec.ofNat 32 b.toNat).toNat : Int) := by
  have := b.toNat_lt
  rw [BitVec.toNat_ofNat, Nat.mod_eq_of_lt (by omega)]
theorem bv_shr (a : BitVec 32) (k : Nat) : ((a >>> k).toNat : Int) = (a.toNat : Int) / (2 ^ k : Nat) := by
  rw [BitVec.toNat_ushiftRight, Nat.shiftRight_eq_div_pow]; rfl
theorem step_odd (c : BitVec 32) (h : c.toNat % 2 = 1) : CrcP.step c = (c >>> 1) ^^^ CrcP.poly := by
  unfold CrcP.step
  have : c.getLsbD 0 = true := by rw [BitVec.getLsbD, Nat.testBit_zero]; simpa using h
  rw [this]; rfl
theorem step_ev (c : BitVec 32) (h : c.toNat % 2 = 0) : CrcP.step c = c >>> 1 := by
  unfold CrcP.step
  have : c.getLsbD 0 = false := by rw [BitVec.getLsbD, Nat.testBit_zero]; simp; omega
  rw [this]; simp
theorem half_toNat (c : BitVec 32) : (c.toNat : Int) / (2 : Int) = ((c >>> 1).toNat : Int) := by
  have := c.isLt
  rw [BitVec.toNat_ushiftRight, Nat.shiftRight_eq_div_pow]; omega
theorem low_bit (c : BitVec 32) : bits .and .u32 (c.toNat : Int) 1 = ((c.toNat % 2 : Nat) : Int) := by
  rw [show (1 : Int) = ((1 : Nat) : Int) from rfl, u32_and_nat _ _ c.isLt (by omega), nat_mask1]
theorem xor_poly (c : BitVec 32) : bits .xor .u32 ((c.toNat : Int) / 2) 2197175160 = (((c >>> 1) ^^^ CrcP.poly).toNat : Int) := by
  rw [half_toNat, show (2197175160 : Int) = (CrcP.poly.toNat : Int) from rfl, bv_xor]
theorem crc_step_eq (c : BitVec 32) : bits .xor .u32 ((c.toNat : Int) / 2) (bits .and .u32 2197175160 (-bits .and .u32 (c.toNat : Int) 1 % 4294967296)) = ((CrcP.step c).toNat : Int) := by
  rw [low_bit]
  rcases Nat.mod_two_eq_zero_or_one c.toNat with h | h
  · rw [h, step_ev c h, half_toNat]
    have e : bits .and .u32 2197175160 (-((0 : Nat) : Int) % 4294967296) = (((0 : BitVec 32)).toNat : Int) := by decide +kernel
    rw [e, bv_xor]
    simp
  · rw [h, step_odd c h]
    have e : bits .and .u32 2197175160 (-((1 : Nat) : Int) % 4294967296) = 2197175160 := by decide +kernel
    rw [e, xor_poly]

theorem crc_step (c : BitVec 32) (w : World) :
    Calls Try.prog 56 #[.int .u32 (c.toNat : Int)] w fun e w' => e = .returned (.int .u32 ((CrcP.step c).toNat : Int)) ∧ w = w' := by
  have hc := c.isLt
  go_enter Try.func56, Try.ntmps56
  go_wp2
  go_ret
  exact ⟨ret_int (crc_step_eq c), rfl⟩

theorem ref_eight2 (c : BitVec 32) (w : World) :
    Calls Try.prog 43 #[.int .u32 (c.toNat : Int)] w fun e w' => e = .returned (.int .u32 ((CrcP.steps 8 c).toNat : Int)) ∧ w = w' := by
  go_enter Try.func43, Try.ntmps43
  go_wp2
  go_loop [0, 3] (fun u i => ∃ k : Nat, k ≤ 8 ∧ i = .int .i64 k ∧ u = .int .u32 ((CrcP.steps k c).toNat : Int)) (fun _ i => 8 - (intOf i).toNat)
  case atStart => exact ⟨0, by omega, rfl, rfl⟩
  case round =>
    obtain ⟨k, hk, rfl, rfl⟩ := hrel
    have hs := Lib.hid (CrcP.steps_succ' k c)
    generalize hd : CrcP.steps k c = d at hs ⊢
    have HD := Lib.hid hd
    clear hd
    have hl := d.isLt
    by_cases ho : d.toNat % 2 = 1
    · have H := Lib.hid (step_odd d ho)
      go_wp2
      · exact ⟨⟨k + 1, by omega, by go_num, by rw [xor_poly, hs.out, H.out]⟩, by simp [intOf]; omega⟩
      · obtain rfl : k = 8 := by omega
        go_ret
        exact ⟨by rw [HD.out]; rfl, rfl⟩
    · have H := Lib.hid (step_ev d (by omega))
      go_wp2
      · exact ⟨⟨k + 1, by omega, by go_num, by rw [half_toNat, hs.out, H.out]⟩, by simp [intOf]; omega⟩
      · obtain rfl : k = 8 := by omega
        go_ret
        exact ⟨by rw [HD.out]; rfl, rfl⟩

theorem crc_steps (c : BitVec 32) (n : Nat) (hn : n ≤ 8) (w : World) :
    Calls Try.prog 41 #[.int .u32 (c.toNat : Int), .int .i64 (n : Int)] w fun e w' => e = .returned (.int .u32 ((CrcP.steps n c).toNat : Int)) ∧ w = w' := by
  go_enter Try.func41, Try.ntmps41
  go_wp2
  go_loop [0, 6] (fun u i => ∃ k : Nat, k ≤ n ∧ i = .int .i64 k ∧ u = .int .u32 ((CrcP.steps k c).toNat : Int)) (fun _ i => n - (intOf i).toNat)
  case atStart => exact ⟨0, by omega, rfl, rfl⟩
  case round =>
    obtain ⟨k, hk, rfl, rfl⟩ := hrel
    have hs := Lib.hid (CrcP.steps_succ' k c)
    generalize hd : CrcP.steps k c = d at hs ⊢
    have HD := Lib.hid hd
    clear hd
    go_wp2_with (go_at_call 56; refine (crc_step _ _).mono ?_; rintro e w1 ⟨rfl, rfl⟩)
    · exact ⟨⟨k + 1, by omega, by go_num, by rw [hs.out]⟩, by simp [intOf]; omega⟩
    · obtain rfl : k = n := by omega
      go_ret
      exact ⟨by rw [HD.out]; rfl, rfl⟩
theorem crc_steps_at (x : Int) (y : Int) (c : BitVec 32) (n : Nat) (hx : x = (c.toNat : Int)) (hy : y = (n : Int)) (hn : n ≤ 8) (w : World) :
    Calls Try.prog 41 #[.int .u32 x, .int .i64 y] w fun e w' => e = .returned (.int .u32 ((CrcP.steps n c).toNat : Int)) ∧ w = w' := by
  subst hx hy; exact crc_steps c n hn w

/-- the table -/
def tab (k : Nat) : Int := ((CrcP.steps 4 (BitVec.ofNat 32 k)).toNat : Int)
theorem crc_steps4 (k : Nat) (hk : k < 16) (x : Int) (hx : x = (k : Int)) (w : World) :
    Calls Try.prog 41 #[.int .u32 x, .int .i64 4] w fun e w' => e = .returned (.int .u32 (tab k)) ∧ w = w' :=
  crc_steps_at x 4 (BitVec.ofNat 32 k) 4 (by subst hx; rw [BitVec.toNat_ofNat, Nat.mod_eq_of_lt (by omega)]) rfl (by omega) w
def tabV : Value := .agg #[.int .u32 (tab 0), .int .u32 (tab 1), .int .u32 (tab 2), .int .u32 (tab 3), .int .u32 (tab 4), .int .u32 (tab 5), .int .u32 (tab 6), .int .u32 (tab 7), .int .u32 (tab 8), .int .u32 (tab 9), .int .u32 (tab 10), .int .u32 (tab 11), .int .u32 (tab 12), .int .u32 (tab 13), .int .u32 (tab 14), .int .u32 (tab 15)]
set_option maxHeartbeats 1000000 in
theorem crc_table (w : World) : Calls Try.prog 57 #[] w fun e w' => e = .returned tabV ∧ Below w.heap.size w w' := by
  go_enter Try.func57, Try.ntmps57
  go_wp2
  refine wp_loop_rounds 17 ?_
  rw [rounds_succ]
  go_wp2_with (go_at_call 41; refine (crc_steps4 0 (by omega) _ rfl _).mono ?_; rintro e w1 ⟨rfl, rfl⟩)
  rw [rounds_succ]
  go_wp2_with (go_at_call 41; refine (crc_steps4 1 (by omega) _ rfl _).mono ?_; rintro e w1 ⟨rfl, rfl⟩)
  rw [rounds_succ]
  go_wp2_with (go_at_call 41; refine (crc_steps4 2 (by omega) _ rfl _).mono ?_; rintro e w1 ⟨rfl, rfl⟩)
  rw [rounds_succ]
  go_wp2_with (go_at_call 41; refine (crc_steps4 3 (by omega) _ rfl _).mono ?_; rintro e w1 ⟨rfl, rfl⟩)
  rw [rounds_succ]
  go_wp2_with (go_at_call 41; refine (crc_steps4 4 (by omega) _ rfl _).mono ?_; rintro e w1 ⟨rfl, rfl⟩)
  rw [rounds_succ]
  go_wp2_with (go_at_call 41; refine (crc_steps4 5 (by omega) _ rfl _).mono ?_; rintro e w1 ⟨rfl, rfl⟩)
  rw [rounds_succ]
  go_wp2_with (go_at_call 41; refine (crc_steps4 6 (by omega) _ rfl _).mono ?_; rintro e w1 ⟨rfl, rfl⟩)
  rw [rounds_succ]
  go_wp2_with (go_at_call 41; refine (crc_steps4 7 (by omega) _ rfl _).mono ?_; rintro e w1 ⟨rfl, rfl⟩)
  rw [rounds_succ]
  go_wp2_with (go_at_call 41; refine (crc_steps4 8 (by omega) _ rfl _).mono ?_; rintro e w1 ⟨rfl, rfl⟩)
  rw [rounds_succ]
  go_wp2_with (go_at_call 41; refine (crc_steps4 9 (by omega) _ rfl _).mono ?_; rintro e w1 ⟨rfl, rfl⟩)
  rw [rounds_succ]
  go_wp2_with (go_at_call 41; refine (crc_steps4 10 (by omega) _ rfl _).mono ?_; rintro e w1 ⟨rfl, rfl⟩)
  rw [rounds_succ]
  go_wp2_with (go_at_call 41; refine (crc_steps4 11 (by omega) _ rfl _).mono ?_; rintro e w1 ⟨rfl, rfl⟩)
  rw [rounds_succ]
  go_wp2_with (go_at_call 41; refine (crc_steps4 12 (by omega) _ rfl _).mono ?_; rintro e w1 ⟨rfl, rfl⟩)
  rw [rounds_succ]
  go_wp2_with (go_at_call 41; refine (crc_steps4 13 (by omega) _ rfl _).mono ?_; rintro e w1 ⟨rfl, rfl⟩)
  rw [rounds_succ]
  go_wp2_with (go_at_call 41; refine (crc_steps4 14 (by omega) _ rfl _).mono ?_; rintro e w1 ⟨rfl, rfl⟩)
  rw [rounds_succ]
  go_wp2_with (go_at_call 41; refine (crc_steps4 15 (by omega) _ rfl _).mono ?_; rintro e w1 ⟨rfl, rfl⟩)
  rw [rounds_succ]
  go_wp2
  refine bodyPost_ret (v := tabV) (by simp [results, Try.results57, go_sem, tabV]) rfl ⟨rfl, ?_⟩
  exact ((Below.refl _ _).alloc (Nat.le_refl _) _).alloc (by simp) _
end Go.Proofs.Ytaocmepffhochaa
