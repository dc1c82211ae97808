/- Walks of layer 6 (frame) and of its reference: numbers as bytes, the greatest first. -/
import Derived.Test.YtcpmicinibfepaaGreatDoorWAb
import Derived.Test.YtcpmicinibfepaaGreatDoorWAe
import Derived.Test.YtcpmicinibfepaaGreatDoorWAf
import Derived.Test.YtcpmicinibfepaaGreatDoorWAa
namespace Go.Proofs.YtcpmicinibfepaaGreatDoor
open Go.ChangeShapes Go.WideShapes Go.ChangeAt Go.RowKit Go.Deep BigP


theorem u8_mod (n : Nat) : UInt8.ofNat (n % 256) = UInt8.ofNat n := by
  apply UInt8.toNat_inj.1
  simp
theorem ofNat_cast (n : Int) : UInt8.ofNat (n % 256).toNat = UInt8.ofNat (n % 256).toNat := rfl
theorem big4_list (u : Nat) : big 4 u = [UInt8.ofNat (u / 16777216 % 256), UInt8.ofNat (u / 65536 % 256), UInt8.ofNat (u / 256 % 256), UInt8.ofNat (u % 256)] := by
  simp only [big, List.nil_append, List.cons_append, Nat.div_div_eq_div_mul]
theorem big8_list (u : Nat) : big 8 u = [UInt8.ofNat (u / 72057594037927936 % 256), UInt8.ofNat (u / 281474976710656 % 256), UInt8.ofNat (u / 1099511627776 % 256), UInt8.ofNat (u / 4294967296 % 256), UInt8.ofNat (u / 16777216 % 256), UInt8.ofNat (u / 65536 % 256), UInt8.ofNat (u / 256 % 256), UInt8.ofNat (u % 256)] := by
  simp only [big, List.nil_append, List.cons_append, Nat.div_div_eq_div_mul]
theorem big8_list' (u : Nat) (hu : u < 18446744073709551616) : big 8 u = [UInt8.ofNat (u / 72057594037927936), UInt8.ofNat (u / 281474976710656 % 256), UInt8.ofNat (u / 1099511627776 % 256), UInt8.ofNat (u / 4294967296 % 256), UInt8.ofNat (u / 16777216 % 256), UInt8.ofNat (u / 65536 % 256), UInt8.ofNat (u / 256 % 256), UInt8.ofNat (u % 256)] := by
  rw [big8_list, show u / 72057594037927936 % 256 = u / 72057594037927936 by omega]
theorem big4_list' (u : Nat) (hu : u < 4294967296) : big 4 u = [UInt8.ofNat (u / 16777216), UInt8.ofNat (u / 65536 % 256), UInt8.ofNat (u / 256 % 256), UInt8.ofNat (u % 256)] := by
  rw [big4_list, show u / 16777216 % 256 = u / 16777216 by omega]

set_option maxRecDepth 100000 in
theorem frame_big4 (u : Nat) (_hu : u < 9223372036854775808) (w : World) :
    Calls Tryz.prog 56 #[.int .i64 (u : Int), .int .i64 4] w fun e w' => e = .returned (.string ⟨(big 4 u).toArray⟩) ∧ Below w.heap.size w w' := by
  have hmk : ∀ w : World, (Instr.makeSlice 110 (.int .i64 4) (.int .i64 4)).run Tryz.prog w = .ok (.slice (some ⟨w.heap.size, 0, none⟩) 4 4) (w.alloc (.cells #[.int .u8 0, .int .u8 0, .int .u8 0, .int .u8 0] 5)) := fun w => by kernel_rfl
  go_enter Tryz.func56, Tryz.ntmps56
  go_wp2
  refine wp_loop_rounds 5 ?_
  rw [rounds_succ]
  go_wp2
  rw [rounds_succ]
  go_wp2
  rw [rounds_succ]
  go_wp2
  rw [rounds_succ]
  go_wp2
  rw [rounds_succ]
  go_wp2
  go_ret
  exact ⟨by rw [big4_list]; rfl, by (repeat (first | assumption | exact Below.refl _ _ | refine below_step (by assumption) ?_ | refine below_alloc' _ ?_ | refine below_drewN ?_ _ | refine Below.drew ?_))⟩

@[go_sem] theorem run_string8 (w : World) (a b c d a1 b1 c1 d1 : Int) : (convert 110 9 (.slice (some ⟨w.heap.size, 0, none⟩) 8 8)).run Tryz.prog (w.alloc (.cells #[.int .u8 a, .int .u8 b, .int .u8 c, .int .u8 d, .int .u8 a1, .int .u8 b1, .int .u8 c1, .int .u8 d1] 5)) = .ok (.string ⟨#[UInt8.ofNat a.toNat, UInt8.ofNat b.toNat, UInt8.ofNat c.toNat, UInt8.ofNat d.toNat, UInt8.ofNat a1.toNat, UInt8.ofNat b1.toNat, UInt8.ofNat c1.toNat, UInt8.ofNat d1.toNat]⟩) (w.alloc (.cells #[.int .u8 a, .int .u8 b, .int .u8 c, .int .u8 d, .int .u8 a1, .int .u8 b1, .int .u8 c1, .int .u8 d1] 5)) :=
  run_string_ints (t := 5) w Tryz.underlying110 Tryz.underlying5 Tryz.underlying9 [a, b, c, d, a1, b1, c1, d1] 8
set_option maxRecDepth 100000 in
theorem frame_big8 (u : Nat) (hu : u < 9223372036854775808) (w : World) :
    Calls Tryz.prog 56 #[.int .i64 (u : Int), .int .i64 8] w fun e w' => e = .returned (.string ⟨(big 8 u).toArray⟩) ∧ Below w.heap.size w w' := by
  have hmk : ∀ w : World, (Instr.makeSlice 110 (.int .i64 8) (.int .i64 8)).run Tryz.prog w = .ok (.slice (some ⟨w.heap.size, 0, none⟩) 8 8) (w.alloc (.cells #[.int .u8 0, .int .u8 0, .int .u8 0, .int .u8 0, .int .u8 0, .int .u8 0, .int .u8 0, .int .u8 0] 5)) := fun w => by kernel_rfl
  go_enter Tryz.func56, Tryz.ntmps56
  go_wp2
  refine wp_loop_rounds 9 ?_
  rw [rounds_succ]
  go_wp2
  rw [rounds_succ]
  go_wp2
  rw [rounds_succ]
  go_wp2
  rw [rounds_succ]
  go_wp2
  rw [rounds_succ]
  go_wp2
  rw [rounds_succ]
  go_wp2
  rw [rounds_succ]
  go_wp2
  rw [rounds_succ]
  go_wp2
  rw [rounds_succ]
  go_wp2
  go_ret
  exact ⟨by rw [big8_list' u (by omega)]; rfl, by (repeat (first | assumption | exact Below.refl _ _ | refine below_step (by assumption) ?_ | refine below_alloc' _ ?_ | refine below_drewN ?_ _ | refine Below.drew ?_))⟩

theorem num_snoc (l : List UInt8) (k : Nat) (h : k < l.length) : num 0 (l.take (k + 1)) = num 0 (l.take k) * 256 + (l.getD k 0).toNat := by
  rw [take_snoc l k h, num_append]; rfl
theorem num_take_lt (l : List UInt8) (k : Nat) (h : k < l.length) (h8 : l.length ≤ 8) : num 0 (l.take k) < 256 ^ 7 := by
  have h1 := num_lt (l.take k)
  have h2 : 256 ^ (l.take k).length ≤ 256 ^ 7 := Nat.pow_le_pow_right (by omega) (by rw [List.length_take]; omega)
  omega
theorem num_lt8 (l : List UInt8) (h8 : l.length ≤ 8) : num 0 l < 18446744073709551616 := by
  have h1 := num_lt l
  have h2 : 256 ^ l.length ≤ 256 ^ 8 := Nat.pow_le_pow_right (by omega) h8
  omega
theorem sgn_wrap (u : Nat) (h : u < 18446744073709551616) : IntKind.i64.wrap (u : Int) = FrameP.sgn u := by
  rw [IntKind.wrap_i64]; unfold FrameP.sgn; split <;> omega
theorem sgn_wrap64 (u : Nat) (h : u < 18446744073709551616) : RowKit.wrap64 (u : Int) = FrameP.sgn u := by
  unfold RowKit.wrap64 FrameP.sgn; split <;> omega
theorem or_sgn (v c : Nat) (hv : v < 256 ^ 7) (hc : c < 256) : bits .or .i64 (RowKit.wrap64 ((v : Int) * 256)) (c : Int) = FrameP.sgn (v * 256 + c) := by
  show IntKind.i64.wrap ((BitVec.ofInt 64 (RowKit.wrap64 ((v : Int) * 256)) ||| BitVec.ofInt 64 (c : Int)).toNat : Int) = _
  have e1 : BitVec.ofInt 64 (RowKit.wrap64 ((v : Int) * 256)) = BitVec.ofNat 64 (v * 256) := by
    apply BitVec.eq_of_toNat_eq
    rw [BitVec.toNat_ofInt, BitVec.toNat_ofNat]
    unfold RowKit.wrap64
    omega
  rw [e1, BitVec.ofInt_natCast, BitVec.toNat_or, BitVec.toNat_ofNat, BitVec.toNat_ofNat, Nat.mod_eq_of_lt (by omega), Nat.mod_eq_of_lt (by omega), nat_join 8 _ _ (by omega) (by omega), sgn_wrap _ (by omega)]

set_option maxRecDepth 100000 in
theorem ref_back6 (s : ByteArray) (hs : s.size ≤ 8) (w : World) :
    Calls Tryz.prog 72 #[.string s] w fun e w' => e = .returned (.int .i64 (FrameP.sgn (num 0 s.data.toList))) ∧ w = w' := by
  go_enter Tryz.func72, Tryz.ntmps72
  go_wp2
  go_loop [3, 4] (fun uu i => ∃ k : Nat, k ≤ s.size ∧ i = .int .i64 k ∧ uu = .int .u64 (num 0 (s.data.toList.take k) : Nat)) (fun _ i => s.size - (intOf i).toNat)
  case atStart => exact ⟨0, by omega, rfl, rfl⟩
  case round =>
    obtain ⟨k, hk, rfl, rfl⟩ := hrel
    by_cases hlt : k < s.size
    · have hu := num_take_lt s.data.toList k (by simpa using hlt) (by simpa using hs)
      have hn := Lib.hid (num_snoc s.data.toList k (by simpa using hlt))
      have hg := Lib.hid (show s.data.toList.getD k 0 = s[k] by rw [List.getD_eq_getElem?_getD, List.getElem?_eq_getElem (by simpa using hlt)]; rfl)
      generalize num 0 (s.data.toList.take k) = v at hu hn ⊢
      have hb := s[k].toNat_lt
      go_wp2
      refine ⟨⟨k + 1, by omega, by go_num, ?_⟩, by simp [intOf]; omega⟩
      rw [hn.out, hg.out]
      first | go_num | (refine congrArg _ ?_; rw [wrap_u64]; omega) | (refine congrArg _ ?_; omega)
    · obtain rfl : k = s.size := by omega
      have hn := num_lt8 s.data.toList (by simpa using hs)
      have hl := Lib.hid (show s.data.toList.take s.size = s.data.toList from List.take_of_length_le (by simp))
      have hsg := Lib.hid (sgn_wrap64 _ hn)
      rw [hl.out]
      go_wp2
      go_ret
      exact ⟨ret_int hsg.out, rfl⟩

set_option maxRecDepth 100000 in
theorem frame_number (s : ByteArray) (hs : s.size ≤ 8) (w : World) :
    Calls Tryz.prog 91 #[.string s] w fun e w' => e = .returned (.int .i64 (FrameP.sgn (num 0 s.data.toList))) ∧ Below w.heap.size w w' := by
  go_enter Tryz.func91, Tryz.ntmps91
  go_wp2
  obtain ⟨hc, hb, hz⟩ := bytesWorld_facts w 5 s
  generalize Lib.bytesWorld w 5 s = w1 at hc hb hz ⊢
  have HZ := Lib.hid hz
  clear hz
  go_loop [3, 9] (fun uu i => ∃ k : Nat, k ≤ s.size ∧ i = .int .i64 k ∧ uu = .int .i64 (FrameP.sgn (num 0 (s.data.toList.take k)))) (fun _ i => s.size - (intOf i).toNat)
  case atStart => exact ⟨0, by omega, rfl, rfl⟩
  case round =>
    obtain ⟨k, hk, rfl, rfl⟩ := hrel
    have hck := hc k
    clear hc
    by_cases hlt : k < s.size
    · have hu := num_take_lt s.data.toList k (by simpa using hlt) (by simpa using hs)
      have hn := Lib.hid (num_snoc s.data.toList k (by simpa using hlt))
      have hcc := hck hlt
      have hb8 := (s.data.toList.getD k 0).toNat_lt
      have ho := Lib.hid (or_sgn (num 0 (s.data.toList.take k)) (s.data.toList.getD k 0).toNat hu hb8)
      have hsg := FrameP.sgn_of (num 0 (s.data.toList.take k)) (by omega)
      rw [hsg]
      clear hsg
      generalize (s.data.toList.getD k 0).toNat = c at hcc hb8 ho hn
      generalize num 0 (s.data.toList.take k) = v at hu ho hn ⊢
      clear hck
      go_wp2
      exact ⟨⟨k + 1, by omega, by go_num, by rw [hn.out, ← ho.out]⟩, by simp [intOf]; omega⟩
    · clear hck
      obtain rfl : k = s.size := by omega
      have hl := Lib.hid (show s.data.toList.take s.size = s.data.toList from List.take_of_length_le (by simp))
      rw [hl.out]
      go_wp2
      go_ret
      exact ⟨rfl, hb⟩
end Go.Proofs.YtcpmicinibfepaaGreatDoor
