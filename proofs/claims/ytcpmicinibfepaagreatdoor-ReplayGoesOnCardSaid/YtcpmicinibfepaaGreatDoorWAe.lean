/- Walks of layer 2 (crc) and of its reference · Walks of layer 2 (crc): sums by the table, bit by bit, of parts, and the document's · The statements of layer 2 (crc): the walks of what must come, of CrcIs and of CrcParts. -/
import Derived.Test.YtcpmicinibfepaaGreatDoorWAb
import Derived.Test.YtcpmicinibfepaaGreatDoorWAc
import Derived.Test.YtcpmicinibfepaaGreatDoorWAd
import Derived.Test.YtcpmicinibfepaaGreatDoorWAa
namespace Go.Proofs.YtcpmicinibfepaaGreatDoor
open Go.ChangeShapes Go.WideShapes Go.ChangeAt Go.RowKit Go.Deep


theorem bv_xor (a b : BitVec 32) : bits .xor .u32 (a.toNat : Int) (b.toNat : Int) = ((a ^^^ b).toNat : Int) := by
  rw [u32_xor_nat _ _ a.isLt b.isLt, BitVec.toNat_xor]
theorem bv_byte (b : UInt8) : (b.toNat : Int) = ((BitVec.ofNat 32 b.toNat).toNat : Int) := by
  have := b.toNat_lt
  rw [BitVec.toNat_ofNat, Nat.mod_eq_of_lt (by omega)]
theorem bv_shr (a : BitVec 32) (k : Nat) : ((a >>> k).toNat : Int) = (a.toNat : Int) / (2 ^ k : Nat) := by
  rw [BitVec.toNat_ushiftRight, Nat.shiftRight_eq_div_pow]; rfl
theorem step_odd (c : BitVec 32) (h : c.toNat % 2 = 1) : CrcP.step c = (c >>> 1) ^^^ CrcP.poly := by
  unfold CrcP.step
  have : c.getLsbD 0 = true := by rw [BitVec.getLsbD, Nat.testBit_zero]; simpa using h
  rw [this]; rfl
theorem step_ev (c : BitVec 32) (h : c.toNat % 2 = 0) : CrcP.step c = c >>> 1 := by
  unfold CrcP.step
  have : c.getLsbD 0 = false := by rw [BitVec.getLsbD, Nat.testBit_zero]; simp; omega
  rw [this]; simp
theorem half_toNat (c : BitVec 32) : (c.toNat : Int) / (2 : Int) = ((c >>> 1).toNat : Int) := by
  have := c.isLt
  rw [BitVec.toNat_ushiftRight, Nat.shiftRight_eq_div_pow]; omega
theorem low_bit (c : BitVec 32) : bits .and .u32 (c.toNat : Int) 1 = ((c.toNat % 2 : Nat) : Int) := by
  rw [show (1 : Int) = ((1 : Nat) : Int) from rfl, u32_and_nat _ _ c.isLt (by omega), nat_mask1]
theorem xor_poly (c : BitVec 32) : bits .xor .u32 ((c.toNat : Int) / 2) 2197175160 = (((c >>> 1) ^^^ CrcP.poly).toNat : Int) := by
  rw [half_toNat, show (2197175160 : Int) = (CrcP.poly.toNat : Int) from rfl, bv_xor]
theorem crc_step_eq (c : BitVec 32) : bits .xor .u32 ((c.toNat : Int) / 2) (bits .and .u32 2197175160 (-bits .and .u32 (c.toNat : Int) 1 % 4294967296)) = ((CrcP.step c).toNat : Int) := by
  rw [low_bit]
  rcases Nat.mod_two_eq_zero_or_one c.toNat with h | h
  · rw [h, step_ev c h, half_toNat]
    have e : bits .and .u32 2197175160 (-((0 : Nat) : Int) % 4294967296) = (((0 : BitVec 32)).toNat : Int) := by decide +kernel
    rw [e, bv_xor]
    simp
  · rw [h, step_odd c h]
    have e : bits .and .u32 2197175160 (-((1 : Nat) : Int) % 4294967296) = 2197175160 := by decide +kernel
    rw [e, xor_poly]

theorem crc_step (c : BitVec 32) (w : World) :
    Calls Tryz.prog 123 #[.int .u32 (c.toNat : Int)] w fun e w' => e = .returned (.int .u32 ((CrcP.step c).toNat : Int)) ∧ w = w' := by
  have hc := c.isLt
  go_enter Tryz.func123, Tryz.ntmps123
  go_wp2
  go_ret
  exact ⟨ret_int (crc_step_eq c), rfl⟩

theorem ref_eight2 (c : BitVec 32) (w : World) :
    Calls Tryz.prog 108 #[.int .u32 (c.toNat : Int)] w fun e w' => e = .returned (.int .u32 ((CrcP.steps 8 c).toNat : Int)) ∧ w = w' := by
  go_enter Tryz.func108, Tryz.ntmps108
  go_wp2
  go_loop [0, 3] (fun u i => ∃ k : Nat, k ≤ 8 ∧ i = .int .i64 k ∧ u = .int .u32 ((CrcP.steps k c).toNat : Int)) (fun _ i => 8 - (intOf i).toNat)
  case atStart => exact ⟨0, by omega, rfl, rfl⟩
  case round =>
    obtain ⟨k, hk, rfl, rfl⟩ := hrel
    have hs := Lib.hid (CrcP.steps_succ' k c)
    generalize hd : CrcP.steps k c = d at hs ⊢
    have HD := Lib.hid hd
    clear hd
    have hl := d.isLt
    by_cases ho : d.toNat % 2 = 1
    · have H := Lib.hid (step_odd d ho)
      go_wp2
      · exact ⟨⟨k + 1, by omega, by go_num, by rw [xor_poly, hs.out, H.out]⟩, by simp [intOf]; omega⟩
      · obtain rfl : k = 8 := by omega
        go_ret
        exact ⟨by rw [HD.out]; rfl, rfl⟩
    · have H := Lib.hid (step_ev d (by omega))
      go_wp2
      · exact ⟨⟨k + 1, by omega, by go_num, by rw [half_toNat, hs.out, H.out]⟩, by simp [intOf]; omega⟩
      · obtain rfl : k = 8 := by omega
        go_ret
        exact ⟨by rw [HD.out]; rfl, rfl⟩

theorem crc_steps (c : BitVec 32) (n : Nat) (hn : n ≤ 8) (w : World) :
    Calls Tryz.prog 119 #[.int .u32 (c.toNat : Int), .int .i64 (n : Int)] w fun e w' => e = .returned (.int .u32 ((CrcP.steps n c).toNat : Int)) ∧ w = w' := by
  go_enter Tryz.func119, Tryz.ntmps119
  go_wp2
  go_loop [0, 6] (fun u i => ∃ k : Nat, k ≤ n ∧ i = .int .i64 k ∧ u = .int .u32 ((CrcP.steps k c).toNat : Int)) (fun _ i => n - (intOf i).toNat)
  case atStart => exact ⟨0, by omega, rfl, rfl⟩
  case round =>
    obtain ⟨k, hk, rfl, rfl⟩ := hrel
    have hs := Lib.hid (CrcP.steps_succ' k c)
    generalize hd : CrcP.steps k c = d at hs ⊢
    have HD := Lib.hid hd
    clear hd
    go_wp2_with (go_at_call 123; refine (crc_step _ _).mono ?_; rintro e w1 ⟨rfl, rfl⟩)
    · exact ⟨⟨k + 1, by omega, by go_num, by rw [hs.out]⟩, by simp [intOf]; omega⟩
    · obtain rfl : k = n := by omega
      go_ret
      exact ⟨by rw [HD.out]; rfl, rfl⟩
theorem crc_steps_at (x : Int) (y : Int) (c : BitVec 32) (n : Nat) (hx : x = (c.toNat : Int)) (hy : y = (n : Int)) (hn : n ≤ 8) (w : World) :
    Calls Tryz.prog 119 #[.int .u32 x, .int .i64 y] w fun e w' => e = .returned (.int .u32 ((CrcP.steps n c).toNat : Int)) ∧ w = w' := by
  subst hx hy; exact crc_steps c n hn w

/-- the table -/
def tab (k : Nat) : Int := ((CrcP.steps 4 (BitVec.ofNat 32 k)).toNat : Int)
theorem crc_steps4 (k : Nat) (hk : k < 16) (x : Int) (hx : x = (k : Int)) (w : World) :
    Calls Tryz.prog 119 #[.int .u32 x, .int .i64 4] w fun e w' => e = .returned (.int .u32 (tab k)) ∧ w = w' :=
  crc_steps_at x 4 (BitVec.ofNat 32 k) 4 (by subst hx; rw [BitVec.toNat_ofNat, Nat.mod_eq_of_lt (by omega)]) rfl (by omega) w
def tabV : Value := .agg #[.int .u32 (tab 0), .int .u32 (tab 1), .int .u32 (tab 2), .int .u32 (tab 3), .int .u32 (tab 4), .int .u32 (tab 5), .int .u32 (tab 6), .int .u32 (tab 7), .int .u32 (tab 8), .int .u32 (tab 9), .int .u32 (tab 10), .int .u32 (tab 11), .int .u32 (tab 12), .int .u32 (tab 13), .int .u32 (tab 14), .int .u32 (tab 15)]
set_option maxHeartbeats 1000000 in
theorem crc_table (w : World) : Calls Tryz.prog 109 #[] w fun e w' => e = .returned tabV ∧ Below w.heap.size w w' := by
  go_enter Tryz.func109, Tryz.ntmps109
  go_wp2
  refine wp_loop_rounds 17 ?_
  rw [rounds_succ]
  go_wp2_with (go_at_call 119; refine (crc_steps4 0 (by omega) _ rfl _).mono ?_; rintro e w1 ⟨rfl, rfl⟩)
  rw [rounds_succ]
  go_wp2_with (go_at_call 119; refine (crc_steps4 1 (by omega) _ rfl _).mono ?_; rintro e w1 ⟨rfl, rfl⟩)
  rw [rounds_succ]
  go_wp2_with (go_at_call 119; refine (crc_steps4 2 (by omega) _ rfl _).mono ?_; rintro e w1 ⟨rfl, rfl⟩)
  rw [rounds_succ]
  go_wp2_with (go_at_call 119; refine (crc_steps4 3 (by omega) _ rfl _).mono ?_; rintro e w1 ⟨rfl, rfl⟩)
  rw [rounds_succ]
  go_wp2_with (go_at_call 119; refine (crc_steps4 4 (by omega) _ rfl _).mono ?_; rintro e w1 ⟨rfl, rfl⟩)
  rw [rounds_succ]
  go_wp2_with (go_at_call 119; refine (crc_steps4 5 (by omega) _ rfl _).mono ?_; rintro e w1 ⟨rfl, rfl⟩)
  rw [rounds_succ]
  go_wp2_with (go_at_call 119; refine (crc_steps4 6 (by omega) _ rfl _).mono ?_; rintro e w1 ⟨rfl, rfl⟩)
  rw [rounds_succ]
  go_wp2_with (go_at_call 119; refine (crc_steps4 7 (by omega) _ rfl _).mono ?_; rintro e w1 ⟨rfl, rfl⟩)
  rw [rounds_succ]
  go_wp2_with (go_at_call 119; refine (crc_steps4 8 (by omega) _ rfl _).mono ?_; rintro e w1 ⟨rfl, rfl⟩)
  rw [rounds_succ]
  go_wp2_with (go_at_call 119; refine (crc_steps4 9 (by omega) _ rfl _).mono ?_; rintro e w1 ⟨rfl, rfl⟩)
  rw [rounds_succ]
  go_wp2_with (go_at_call 119; refine (crc_steps4 10 (by omega) _ rfl _).mono ?_; rintro e w1 ⟨rfl, rfl⟩)
  rw [rounds_succ]
  go_wp2_with (go_at_call 119; refine (crc_steps4 11 (by omega) _ rfl _).mono ?_; rintro e w1 ⟨rfl, rfl⟩)
  rw [rounds_succ]
  go_wp2_with (go_at_call 119; refine (crc_steps4 12 (by omega) _ rfl _).mono ?_; rintro e w1 ⟨rfl, rfl⟩)
  rw [rounds_succ]
  go_wp2_with (go_at_call 119; refine (crc_steps4 13 (by omega) _ rfl _).mono ?_; rintro e w1 ⟨rfl, rfl⟩)
  rw [rounds_succ]
  go_wp2_with (go_at_call 119; refine (crc_steps4 14 (by omega) _ rfl _).mono ?_; rintro e w1 ⟨rfl, rfl⟩)
  rw [rounds_succ]
  go_wp2_with (go_at_call 119; refine (crc_steps4 15 (by omega) _ rfl _).mono ?_; rintro e w1 ⟨rfl, rfl⟩)
  rw [rounds_succ]
  go_wp2
  refine bodyPost_ret (v := tabV) (by simp [results, Tryz.results109, go_sem, tabV]) rfl ⟨rfl, ?_⟩
  exact ((Below.refl _ _).alloc (Nat.le_refl _) _).alloc (by simp) _
end Go.Proofs.YtcpmicinibfepaaGreatDoor

namespace Go.Proofs.YtcpmicinibfepaaGreatDoor
open Go.ChangeShapes Go.WideShapes Go.ChangeAt Go.RowKit Go.Deep


theorem tab_step (d : BitVec 32) : bits .xor .u32 ((d.toNat : Int) / (16 : Int)) (tab (d.toNat % 16)) = ((CrcP.steps 4 d).toNat : Int) := by
  have e : (d.toNat : Int) / (16 : Int) = ((d >>> 4).toNat : Int) := by
    rw [BitVec.toNat_ushiftRight, Nat.shiftRight_eq_div_pow]; omega
  have e2 : BitVec.ofNat 32 (d.toNat % 16) = d &&& 15#32 := by
    apply BitVec.eq_of_toNat_eq
    rw [BitVec.toNat_and, BitVec.toNat_ofNat, show (15#32).toNat = 15 from rfl, nat_mask4, Nat.mod_eq_of_lt (by omega)]
  unfold tab
  rw [e, e2, bv_xor, ← CrcP.steps4]
theorem and15 (d : BitVec 32) : bits .and .u32 (d.toNat : Int) 15 = ((d.toNat % 16 : Nat) : Int) := by
  rw [show (15 : Int) = ((15 : Nat) : Int) from rfl, u32_and_nat _ _ d.isLt (by omega), nat_mask4]
theorem tab_cell (k : Nat) (h : k < 16) (W : World) (w1 : World) (hb : Below (w1.alloc (.cells #[.int .u32 (tab 0), .int .u32 (tab 1), .int .u32 (tab 2), .int .u32 (tab 3), .int .u32 (tab 4), .int .u32 (tab 5), .int .u32 (tab 6), .int .u32 (tab 7), .int .u32 (tab 8), .int .u32 (tab 9), .int .u32 (tab 10), .int .u32 (tab 11), .int .u32 (tab 12), .int .u32 (tab 13), .int .u32 (tab 14), .int .u32 (tab 15)] 141)).heap.size (w1.alloc (.cells #[.int .u32 (tab 0), .int .u32 (tab 1), .int .u32 (tab 2), .int .u32 (tab 3), .int .u32 (tab 4), .int .u32 (tab 5), .int .u32 (tab 6), .int .u32 (tab 7), .int .u32 (tab 8), .int .u32 (tab 9), .int .u32 (tab 10), .int .u32 (tab 11), .int .u32 (tab 12), .int .u32 (tab 13), .int .u32 (tab 14), .int .u32 (tab 15)] 141)) W) : W.cell? ⟨w1.heap.size, k, none⟩ = some (.int .u32 (tab k)) := by
  rw [hb.cell (p := ⟨w1.heap.size, k, none⟩) (by simp), cell_of_row _ _ _ _ 141 _ (heap_alloc_new w1 _)]
  have hk : k = 0 ∨ k = 1 ∨ k = 2 ∨ k = 3 ∨ k = 4 ∨ k = 5 ∨ k = 6 ∨ k = 7 ∨ k = 8 ∨ k = 9 ∨ k = 10 ∨ k = 11 ∨ k = 12 ∨ k = 13 ∨ k = 14 ∨ k = 15 := by omega
  rcases hk with rfl | rfl | rfl | rfl | rfl | rfl | rfl | rfl | rfl | rfl | rfl | rfl | rfl | rfl | rfl | rfl <;> rfl
theorem take_snoc (l : List UInt8) (k : Nat) (h : k < l.length) : l.take (k + 1) = l.take k ++ [l.getD k 0] := by
  rw [List.take_succ_eq_append_getElem h]; simp [List.getD, h]
theorem run_snoc (c : BitVec 32) (l : List UInt8) (k : Nat) (h : k < l.length) : CrcP.run c (l.take (k + 1)) = CrcP.byte (CrcP.run c (l.take k)) (l.getD k 0) := by
  rw [take_snoc l k h, CrcP.run_append]; rfl
theorem xor_byte (c : BitVec 32) (b : UInt8) : bits .xor .u32 (c.toNat : Int) (b.toNat : Int) = ((c ^^^ BitVec.ofNat 32 b.toNat).toNat : Int) := by
  rw [bv_byte, bv_xor]

set_option maxHeartbeats 1000000 in
theorem crc_run (c : BitVec 32) (s : ByteArray) (hs : s.size ≤ maxLen) (w : World) :
    Calls Tryz.prog 92 #[.int .u32 (c.toNat : Int), .string s] w fun e w' => e = .returned (.int .u32 ((CrcP.run c s.data.toList).toNat : Int)) ∧ Below w.heap.size w w' := by
  unfold maxLen at hs
  go_enter Tryz.func92, Tryz.ntmps92
  go_wp2_with (go_at_call 109; refine (crc_table _).mono ?_; rintro e w1 ⟨rfl, hb1⟩; unfold tabV)
  have hw1 := World.size_alloc w1 (.cells #[.int .u32 (tab 0), .int .u32 (tab 1), .int .u32 (tab 2), .int .u32 (tab 3), .int .u32 (tab 4), .int .u32 (tab 5), .int .u32 (tab 6), .int .u32 (tab 7), .int .u32 (tab 8), .int .u32 (tab 9), .int .u32 (tab 10), .int .u32 (tab 11), .int .u32 (tab 12), .int .u32 (tab 13), .int .u32 (tab 14), .int .u32 (tab 15)] 141)
  obtain ⟨hc, hb, hz⟩ := bytesWorld_facts (w1.alloc (.cells #[.int .u32 (tab 0), .int .u32 (tab 1), .int .u32 (tab 2), .int .u32 (tab 3), .int .u32 (tab 4), .int .u32 (tab 5), .int .u32 (tab 6), .int .u32 (tab 7), .int .u32 (tab 8), .int .u32 (tab 9), .int .u32 (tab 10), .int .u32 (tab 11), .int .u32 (tab 12), .int .u32 (tab 13), .int .u32 (tab 14), .int .u32 (tab 15)] 141)) 5 s
  have ht := fun (k : Nat) (h : k < 16) => tab_cell k h _ w1 hb
  have hbw := below_step hb (below_alloc' (.cells #[.int .u32 (tab 0), .int .u32 (tab 1), .int .u32 (tab 2), .int .u32 (tab 3), .int .u32 (tab 4), .int .u32 (tab 5), .int .u32 (tab 6), .int .u32 (tab 7), .int .u32 (tab 8), .int .u32 (tab 9), .int .u32 (tab 10), .int .u32 (tab 11), .int .u32 (tab 12), .int .u32 (tab 13), .int .u32 (tab 14), .int .u32 (tab 15)] 141) hb1)
  rw [hw1] at hc
  clear hw1 hb1
  generalize Lib.bytesWorld (w1.alloc (.cells #[.int .u32 (tab 0), .int .u32 (tab 1), .int .u32 (tab 2), .int .u32 (tab 3), .int .u32 (tab 4), .int .u32 (tab 5), .int .u32 (tab 6), .int .u32 (tab 7), .int .u32 (tab 8), .int .u32 (tab 9), .int .u32 (tab 10), .int .u32 (tab 11), .int .u32 (tab 12), .int .u32 (tab 13), .int .u32 (tab 14), .int .u32 (tab 15)] 141)) 5 s = w2 at hc hb hz ht hbw ⊢
  clear hb hz
  go_loop [0, 12] (fun u i => ∃ k : Nat, k ≤ s.size ∧ i = .int .i64 k ∧ u = .int .u32 ((CrcP.run c (s.data.toList.take k)).toNat : Int)) (fun _ i => s.size - (intOf i).toNat)
  case atStart => exact ⟨0, by omega, rfl, rfl⟩
  case round =>
    obtain ⟨k, hk, rfl, rfl⟩ := hrel
    have hck := hc k
    clear hc
    by_cases hlt : k < s.size
    · have hcc := hck hlt
      clear hck
      have hs2 := Lib.hid (run_snoc c s.data.toList k (by simpa using hlt))
      generalize s.data.toList.getD k 0 = b at hcc hs2
      generalize CrcP.run c (s.data.toList.take k) = d at hs2 ⊢
      have hx := xor_byte d b
      have hB := Lib.hid (show CrcP.byte d b = CrcP.steps 4 (CrcP.steps 4 (d ^^^ BitVec.ofNat 32 b.toNat)) by unfold CrcP.byte; rw [CrcP.steps8])
      generalize d ^^^ BitVec.ofNat 32 b.toNat = f at hx hB
      have hy := tab_step f
      have hya := and15 f
      have hyt := ht (f.toNat % 16) (by omega)
      have hym : f.toNat % 16 < 16 := by omega
      generalize f.toNat % 16 = m1 at hy hya hyt hym
      generalize CrcP.steps 4 f = g at hy hB
      have hv := tab_step g
      have hva := and15 g
      have hvt := ht (g.toNat % 16) (by omega)
      have hvm : g.toNat % 16 < 16 := by omega
      generalize g.toNat % 16 = m2 at hv hva hvt hvm
      generalize CrcP.steps 4 g = q at hv hB
      have b1 := b.toNat_lt
      have b2 := d.isLt
      have b3 := f.isLt
      have b4 := g.isLt
      have b5 := q.isLt
      clear ht
      go_wp2
      exact ⟨⟨k + 1, by omega, by go_num, by rw [hs2.out, hB.out]⟩, by simp [intOf]; omega⟩
    · go_wp2
      obtain rfl : k = s.size := by omega
      go_ret
      have hl : s.data.toList.take s.size = s.data.toList := List.take_of_length_le (by simp)
      exact ⟨by rw [hl]; rfl, hbw⟩

theorem ofInt_wrap (n : Int) : IntKind.u32.wrap n = ((BitVec.ofInt 32 n).toNat : Int) := by
  rw [IntKind.wrap_u32, BitVec.toNat_ofInt]; omega
theorem xor_all (c : BitVec 32) : bits .xor .u32 (c.toNat : Int) 4294967295 = ((c ^^^ CrcP.all).toNat : Int) := by
  rw [show (4294967295 : Int) = (CrcP.all.toNat : Int) from rfl, bv_xor]
theorem ofInt_toNat (c : BitVec 32) : BitVec.ofInt 32 (c.toNat : Int) = c := by
  apply BitVec.eq_of_toNat_eq
  rw [BitVec.toNat_ofInt]; have := c.isLt; omega
/-- the sum, as a number -/
def crcN (l : List UInt8) : Int := ((CrcP.sum l).toNat : Int)
def moreN (n : Int) (l : List UInt8) : Int := ((CrcP.more (BitVec.ofInt 32 n) l).toNat : Int)
theorem moreN_crcN (a b : List UInt8) : moreN (crcN a) b = crcN (a ++ b) := by
  unfold moreN crcN CrcP.sum; rw [ofInt_toNat, CrcP.more_append]
theorem moreN_zero (b : List UInt8) : moreN 0 b = crcN b := rfl
theorem crcN_nil : crcN [] = 0 := by decide
theorem crcN_bd (l : List UInt8) : 0 ≤ crcN l ∧ crcN l < 4294967296 := by unfold crcN; have := (CrcP.sum l).isLt; omega
theorem moreN_bd (n : Int) (l : List UInt8) : 0 ≤ moreN n l ∧ moreN n l < 4294967296 := by unfold moreN; have := (CrcP.more (BitVec.ofInt 32 n) l).isLt; omega

theorem crc_More (n : Int) (s : ByteArray) (hs : s.size ≤ maxLen) (w : World) :
    Calls Tryz.prog 79 #[.int .i64 n, .string s] w fun e w' => e = .returned (.int .i64 (moreN n s.data.toList)) ∧ Below w.heap.size w w' := by
  have h1 := crc_run (BitVec.ofInt 32 n ^^^ CrcP.all) s hs
  have e1 := ofInt_wrap n
  have e2 := xor_all (BitVec.ofInt 32 n)
  have e3 := xor_all (CrcP.run (BitVec.ofInt 32 n ^^^ CrcP.all) s.data.toList)
  have e4 := Lib.hid (show moreN n s.data.toList = ((CrcP.run (BitVec.ofInt 32 n ^^^ CrcP.all) s.data.toList ^^^ CrcP.all).toNat : Int) from rfl)
  have b4 := (CrcP.run (BitVec.ofInt 32 n ^^^ CrcP.all) s.data.toList ^^^ CrcP.all).isLt
  generalize CrcP.run (BitVec.ofInt 32 n ^^^ CrcP.all) s.data.toList ^^^ CrcP.all = z at e3 e4 b4
  generalize CrcP.run (BitVec.ofInt 32 n ^^^ CrcP.all) s.data.toList = y at h1 e3
  generalize BitVec.ofInt 32 n ^^^ CrcP.all = x at h1 e2
  generalize BitVec.ofInt 32 n = m at e1 e2
  have H1 := Lib.hid h1
  clear h1
  have b1 := m.isLt
  have b2 := x.isLt
  have b3 := y.isLt
  go_enter Tryz.func79, Tryz.ntmps79
  go_wp2_with fail
  refine (H1.out _).mono ?_
  rintro e w1 ⟨rfl, hb1⟩
  go_wp2_with fail
  go_ret
  exact ⟨ret_int e4.out.symm, hb1⟩

theorem gossamerref02_More (n : Int) (s : ByteArray) (hs : s.size ≤ maxLen) (w : World) :
    Calls Tryz.prog 90 #[.int .i64 n, .string s] w fun e w' => e = .returned (.int .i64 (moreN n s.data.toList)) ∧ w = w' := by
  unfold maxLen at hs
  have e1 := ofInt_wrap n
  have e2 := xor_all (BitVec.ofInt 32 n)
  have e4 := Lib.hid (show moreN n s.data.toList = ((CrcP.run (BitVec.ofInt 32 n ^^^ CrcP.all) s.data.toList ^^^ CrcP.all).toNat : Int) from rfl)
  generalize BitVec.ofInt 32 n ^^^ CrcP.all = x at e2 e4
  generalize BitVec.ofInt 32 n = m at e1 e2
  have b1 := m.isLt
  have b2 := x.isLt
  go_enter Tryz.func90, Tryz.ntmps90
  go_wp2_with fail
  go_loop [5, 6] (fun u i => ∃ k : Nat, k ≤ s.size ∧ i = .int .i64 k ∧ u = .int .u32 ((CrcP.run x (s.data.toList.take k)).toNat : Int)) (fun _ i => s.size - (intOf i).toNat)
  case atStart => exact ⟨0, by omega, rfl, rfl⟩
  case round =>
    obtain ⟨k, hk, rfl, rfl⟩ := hrel
    by_cases hlt : k < s.size
    · have hs2 := Lib.hid (run_snoc x s.data.toList k (by simpa using hlt))
      have hg := Lib.hid (show s.data.toList.getD k 0 = s[k] by rw [List.getD_eq_getElem?_getD, List.getElem?_eq_getElem (by simpa using hlt)]; rfl)
      generalize CrcP.run x (s.data.toList.take k) = d at hs2 ⊢
      have hx := xor_byte d s[k]
      have hB := Lib.hid (show CrcP.byte d s[k] = CrcP.steps 8 (d ^^^ BitVec.ofNat 32 s[k].toNat) from rfl)
      generalize d ^^^ BitVec.ofNat 32 s[k].toNat = f at hx hB
      have b1 := s[k].toNat_lt
      have b2 := d.isLt
      have b3 := f.isLt
      go_wp2_with (go_at_call 108; refine (ref_eight2 _ _).mono ?_; rintro e w1 ⟨rfl, rfl⟩)
      exact ⟨⟨k + 1, by omega, by go_num, by rw [hs2.out, hg.out, hB.out]⟩, by simp [intOf]; omega⟩
    · have hl : s.data.toList.take k = s.data.toList := List.take_of_length_le (by simp; omega)
      have HL := Lib.hid hl
      clear hl
      have hx := xor_all (CrcP.run x (s.data.toList.take k))
      generalize hz : CrcP.run x (s.data.toList.take k) ^^^ CrcP.all = z at hx
      have HZ := Lib.hid hz
      clear hz
      have b3 := z.isLt
      have b4 := (CrcP.run x (s.data.toList.take k)).isLt
      go_wp2_with fail
      go_ret
      exact ⟨ret_int (by rw [e4.out, ← HZ.out, HL.out]), rfl⟩
theorem gossamerref02_Sum (s : ByteArray) (hs : s.size ≤ maxLen) (w : World) :
    Calls Tryz.prog 73 #[.string s] w fun e w' => e = .returned (.int .i64 (crcN s.data.toList)) ∧ w = w' := by
  go_enter Tryz.func73, Tryz.ntmps73
  go_wp2_with (go_at_call 90; refine (gossamerref02_More _ _ hs _).mono ?_; rintro e w1 ⟨rfl, rfl⟩)
  go_ret
  exact ⟨rfl, rfl⟩

def catL (l : List ByteArray) : List UInt8 := (l.map (·.data.toList)).flatten
theorem catL_nil : catL [] = [] := rfl
theorem catL_snoc (l : List ByteArray) (k : Nat) (s : ByteArray) (h : l[k]? = some s) : catL (l.take (k + 1)) = catL (l.take k) ++ s.data.toList := by
  obtain ⟨hk, rfl⟩ := List.getElem?_eq_some_iff.1 h
  unfold catL
  rw [List.take_succ_eq_append_getElem hk]
  simp only [List.map_append, List.flatten_append, List.map_cons, List.map_nil, List.flatten_cons, List.flatten_nil, List.append_nil]
theorem sum_snoc (l : List ByteArray) (k : Nat) (s : ByteArray) (h : l[k]? = some s) : moreN (crcN (catL (l.take k))) s.data.toList = crcN (catL (l.take (k + 1))) := by
  rw [moreN_crcN, catL_snoc l k s h]
theorem crc_Sum_nil (w : World) :
    Calls Tryz.prog 57 #[.slice none 0 0] w fun e w' => e = .returned (.int .i64 0) ∧ w = w' := by
  go_enter Tryz.func57, Tryz.ntmps57
  go_wp2_with fail
  refine wp_loop_rounds 1 ?_
  rw [rounds_succ]
  go_wp2_with fail
  go_ret
  exact ⟨rfl, rfl⟩
theorem crc_Sum (l : List ByteArray) (b c : Nat) (hl : l.length ≤ 1000) (hs : ∀ s ∈ l, s.size ≤ maxLen) (w : World) (hbw : b < w.heap.size) (hc : ∀ k s, l[k]? = some s → w.cell? ⟨b, k, none⟩ = some (.string s)) :
    Calls Tryz.prog 57 #[.slice (some ⟨b, 0, none⟩) l.length c] w fun e w' => e = .returned (.int .i64 (crcN (catL l))) ∧ Below w.heap.size w w' := by
  have HS := Lib.hid hs
  have HC := Lib.hid hc
  clear hs hc
  go_enter Tryz.func57, Tryz.ntmps57
  go_wp2_with fail
  go_loopw [3, 8] (fun u i wr => ∃ k : Nat, k ≤ l.length ∧ i = .int .i64 k ∧ u = .int .i64 (crcN (catL (l.take k))) ∧ Below w.heap.size w wr) (fun _ i _ => l.length - (intOf i).toNat)
  case atStart => exact ⟨0, by omega, rfl, by rw [List.take_zero, catL_nil, crcN_nil], Below.refl _ _⟩
  case round =>
    obtain ⟨k, hk, rfl, rfl, hb⟩ := hrel
    by_cases hlt : k < l.length
    · obtain ⟨s, hk'⟩ : ∃ s, l[k]? = some s := ⟨l[k], List.getElem?_eq_getElem hlt⟩
      have hcell := (hb.cell (p := ⟨b, k, none⟩) hbw).trans (HC.out k s hk')
      have h1 := Lib.hid (crc_More (crcN (catL (l.take k))) s (HS.out _ (List.mem_of_getElem? hk')))
      have e1 := Lib.hid (sum_snoc l k s hk')
      clear hk'
      go_wp2_with fail
      refine (h1.out _).mono ?_
      rintro e w1 ⟨rfl, hb1⟩
      go_wp2_with fail
      exact ⟨⟨k + 1, by omega, by go_num, by rw [e1.out], below_step hb1 hb⟩, by simp [intOf]; omega⟩
    · have hl : l.take k = l := List.take_of_length_le (by omega)
      have HL := Lib.hid hl
      clear hl
      go_wp2_with fail
      go_ret
      exact ⟨ret_int (by rw [HL.out]), hb⟩
end Go.Proofs.YtcpmicinibfepaaGreatDoor

namespace Go.Proofs.YtcpmicinibfepaaGreatDoor
open Go.ChangeShapes Go.WideShapes Go.ChangeAt Go.RowKit Go.Deep


theorem crc_Sum1 (s : ByteArray) (hs : s.size ≤ maxLen) (w : World) :
    Calls Tryz.prog 57 #[.slice (some ⟨w.heap.size, 0, none⟩) 1 1] (w.alloc (.cells #[.string s] 9)) fun e w' => e = .returned (.int .i64 (crcN s.data.toList)) ∧ Below w.heap.size w w' := by
  refine (crc_Sum [s] w.heap.size 1 (by simp) (by simpa using hs) _ (by simp) (fun k x hk => ?_)).mono fun e w' ⟨he, hb⟩ => ⟨?_, ?_⟩
  · rw [cell_of_row _ _ _ _ 9 _ (heap_alloc_new w _)]
    obtain ⟨h1, h2⟩ := List.getElem?_eq_some_iff.1 hk
    simp at h1
    subst h1
    simp at h2
    subst h2
    rfl
  · rw [he]; simp [catL]
  · exact below_step hb (below_alloc' _ (Below.refl _ _))
theorem crc_Sum2 (s t : ByteArray) (hs : s.size ≤ maxLen) (ht : t.size ≤ maxLen) (w : World) :
    Calls Tryz.prog 57 #[.slice (some ⟨w.heap.size, 0, none⟩) 2 2] (w.alloc (.cells #[.string s, .string t] 9)) fun e w' => e = .returned (.int .i64 (crcN (s.data.toList ++ t.data.toList))) ∧ Below w.heap.size w w' := by
  refine (crc_Sum [s, t] w.heap.size 2 (by simp) (by simpa using ⟨hs, ht⟩) _ (by simp) (fun k x hk => ?_)).mono fun e w' ⟨he, hb⟩ => ⟨?_, ?_⟩
  · rw [cell_of_row _ _ _ _ 9 _ (heap_alloc_new w _)]
    obtain ⟨h1, h2⟩ := List.getElem?_eq_some_iff.1 hk
    simp at h1
    have h3 : k = 0 ∨ k = 1 := by omega
    rcases h3 with rfl | rfl <;> simp at h2 <;> subst h2 <;> rfl
  · rw [he]; simp [catL]
  · exact below_step hb (below_alloc' _ (Below.refl _ _))
theorem crc_Sum3 (s t u : ByteArray) (hs : s.size ≤ maxLen) (ht : t.size ≤ maxLen) (hu : u.size ≤ maxLen) (w : World) :
    Calls Tryz.prog 57 #[.slice (some ⟨w.heap.size, 0, none⟩) 3 3] (w.alloc (.cells #[.string s, .string t, .string u] 9)) fun e w' => e = .returned (.int .i64 (crcN (s.data.toList ++ (t.data.toList ++ u.data.toList)))) ∧ Below w.heap.size w w' := by
  refine (crc_Sum [s, t, u] w.heap.size 3 (by simp) (by simpa using ⟨hs, ht, hu⟩) _ (by simp) (fun k x hk => ?_)).mono fun e w' ⟨he, hb⟩ => ⟨?_, ?_⟩
  · rw [cell_of_row _ _ _ _ 9 _ (heap_alloc_new w _)]
    obtain ⟨h1, h2⟩ := List.getElem?_eq_some_iff.1 hk
    simp at h1
    have h3 : k = 0 ∨ k = 1 ∨ k = 2 := by omega
    rcases h3 with rfl | rfl | rfl <;> simp at h2 <;> subst h2 <;> rfl
  · rw [he]; simp [catL]
  · exact below_step hb (below_alloc' _ (Below.refl _ _))

theorem aw1 : crcN [49, 50, 51, 52, 53, 54, 55, 56, 57] = 3808858755 := by decide +kernel
theorem aw2 : moreN (crcN [49, 50, 51, 52]) [53, 54, 55, 56, 57] = 3808858755 := by decide +kernel
end Go.Proofs.YtcpmicinibfepaaGreatDoor
