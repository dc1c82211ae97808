/- Walks of layer 1 (vari) and of its reference: numbers as bytes · Walks of layer 1 (vari) and of its reference: the number that bytes begin with · Walks of layer 1 (vari) and of its reference: numbers taken, with a sign or not. -/
import Derived.Test.YtabccphcoojbjaaGreatDoorPAf
import Derived.Test.YtabccphcoojbjaaGreatDoorPAg
import Derived.Test.YtabccphcoojbjaaGreatDoorPAl
import Derived.Test.YtabccphcoojbjaaGreatDoorPAh
import Derived.Test.YtabccphcoojbjaaGreatDoorPAj
import Derived.Test.YtabccphcoojbjaaGreatDoorPAm
import Derived.Test.YtabccphcoojbjaaGreatDoorPAa
namespace Go.Proofs.YtabccphcoojbjaaGreatDoor
open Go.ChangeShapes Go.WideShapes Go.ChangeAt Go.RowKit Go.Deep


theorem put_small (u : Nat) (h : u < 128) : VariP.put u = [UInt8.ofNat u] := by
  unfold VariP.put; rw [show (10 : Nat) = 9 + 1 from rfl, VariP.putF, if_pos h]
theorem put_big (u : Nat) (h : 128 ≤ u) (hu : u < 18446744073709551616) : VariP.put u = UInt8.ofNat (u % 128 + 128) :: VariP.put (u / 128) := by
  have hd : u / 128 < 128 ^ 9 := by omega
  have := VariP.putF_more 9 (u / 128) hd (by omega) 1
  unfold VariP.put
  rw [this]
  show (if u < 128 then [UInt8.ofNat u] else UInt8.ofNat (u % 128 + 128) :: VariP.putF 9 (u / 128)) = _
  rw [if_neg (by omega)]
/-- bytes as values -/
abbrev B8 (b : UInt8) : Value := .int .u8 (b.toNat : Int)
theorem or_128 (u : Nat) : bits .or .u8 ((u : Int) % 256) 128 = ((u % 128 + 128 : Nat) : Int) := by
  have e : (u : Int) % 256 = ((u % 256 : Nat) : Int) := by omega
  rw [e, show (128 : Int) = ((128 : Nat) : Int) from rfl, u8_or_nat _ _ (by omega) (by omega)]
  have h : u % 256 = u % 128 + 128 * (u / 128 % 2) := by omega
  have h7 : u % 128 < 2 ^ 7 := by omega
  rcases Nat.mod_two_eq_zero_or_one (u / 128) with h0 | h0
  · rw [h0] at h
    rw [h, Nat.mul_zero, Nat.add_zero, Nat.or_comm, nat_join 7 128 (u % 128) (by omega) h7, Nat.add_comm]
  · rw [h0] at h
    have e3 : u % 256 = 128 ||| (u % 128) := by rw [nat_join 7 128 (u % 128) (by omega) h7]; omega
    rw [e3, Nat.or_comm, ← Nat.or_assoc, Nat.or_self, nat_join 7 128 (u % 128) (by omega) h7, Nat.add_comm]

theorem info_u8 : (Tryz.prog.info? 5).map (fun i => (i.zero, i.size, i.bytes)) = some (some (.int .u8 0), 1, 1) := by kernel_rfl

set_option maxHeartbeats 1000000 in
theorem own_snoc8 {w : World} {base : Nat} {t : TypeId} {g n cap : Nat} {l : List UInt8} {x : Int} {b : UInt8} (h : w.ownsRow base t 1 (.slice (some ⟨g, 0, none⟩) n cap) n (l.map B8 ++ (#[Value.int .u8 x] : Array Value).toList)) (hx : x = (b.toNat : Int)) :
    w.ownsRow base t 1 (.slice (some ⟨g, 0, none⟩) n cap) n ((l ++ [b]).map B8) := by
  rw [List.map_append, List.map_singleton]
  unfold B8 at *
  rw [← hx]; exact h
theorem ofNat_int (u : Nat) (h : u < 256) : (u : Int) = ((UInt8.ofNat u).toNat : Int) := by rw [UInt8.toNat_ofNat_of_lt' (by show _ < 256; omega)]
theorem run_string_own {w : World} {base : Nat} {t : TypeId} {g n cap : Nat} (L : List UInt8) (hn : n = L.length) (h : w.ownsRow base t 1 (.slice (some ⟨g, 0, none⟩) n cap) n (L.map B8)) :
    (convert 57 9 (.slice (some ⟨g, 0, none⟩) n cap)).run Tryz.prog w = .ok (.string ⟨L.toArray⟩) w := by
  subst hn
  refine run_string_of _ Tryz.underlying57 Tryz.underlying5 Tryz.underlying9 _ _ L (fun j b hj => ?_)
  exact h.cells (g := g) rfl j _ (by rw [List.getElem?_map, hj]; rfl)

set_option maxRecDepth 100000 in
theorem vari_put (u0 : Nat) (h0 : u0 < 18446744073709551616) (w : World) :
    Calls Tryz.prog 88 #[.int .u64 (u0 : Int)] w fun e w' => e = .returned (.string ⟨(VariP.put u0).toArray⟩) ∧ Below w.heap.size w w' := by
  obtain ⟨i0, hi, hz0, hz1, hz2⟩ := info_parts' info_u8
  have HI := Lib.hid (And.intro hi (And.intro hz0 (And.intro hz1 hz2)))
  clear hi hz0 hz1 hz2
  go_enter Tryz.func88, Tryz.ntmps88
  go_wp2
  go_loopw [0, 3] (fun uu v wr => ∃ (u : Nat) (l : List UInt8), uu = .int .u64 (u : Int) ∧ VariP.put u0 = l ++ VariP.put u ∧ u < 18446744073709551616 ∧ wr.ownsRow w.heap.size 5 1 v l.length (l.map B8) ∧ Below w.heap.size w wr) (fun uu _ _ => (intOf uu).toNat)
  case atStart => exact ⟨u0, [], rfl, rfl, h0, World.ownsRow_nil _ _ _ _, Below.refl _ _⟩
  case round =>
    obtain ⟨u, l, rfl, hp, hu, hown, hb⟩ := hrel
    have hl10 : l.length ≤ 10 := by
      have h1 := VariP.put_len u0
      rw [hp, List.length_append] at h1
      omega
    have HP := Lib.hid hp
    have HO := Lib.hid hown
    clear hp hown
    by_cases hlt : u < 128
    · go_wp2_with (at_builtin; go_must (refine wpList_append_one rfl _ _ _ (by rfl) w.heap.size 5 i0 _ 1 1 Tryz.underlying57 HI.out.1 HI.out.2.1 HI.out.2.2.1 HI.out.2.2.2 rfl (by decide) (by decide) _ _ _ (by rfl) wr HO.out _ _ rfl (by rfl) (by rfl) (by simp [Value.oneCell']) (by omega) hb.size ?_; intro g cap w1 hA); have hcv := run_string_own (n := l.length + 1) (l ++ [UInt8.ofNat u]) (by simp) (own_snoc8 hA.own (ofNat_int u (by omega))); clear HO)
      go_ret
      exact ⟨by rw [HP.out, put_small u hlt]; rfl, hA.below _ hb⟩
    · have ho := or_128 u
      go_wp2_with (at_builtin; go_must (refine wpList_append_one rfl _ _ _ (by rfl) w.heap.size 5 i0 _ 1 1 Tryz.underlying57 HI.out.1 HI.out.2.1 HI.out.2.2.1 HI.out.2.2.2 rfl (by decide) (by decide) _ _ _ (by rfl) wr HO.out _ _ rfl (by rfl) (by rfl) (by simp [Value.oneCell']) (by omega) hb.size ?_; intro g cap w1 hA))
      refine ⟨⟨u / 128, l ++ [UInt8.ofNat (u % 128 + 128)], by go_num, ?_, by omega, ?_, hA.below _ hb⟩, by simp [intOf]; omega⟩
      · rw [HP.out, put_big u (by omega) hu, List.append_assoc]; rfl
      · rw [List.length_append]
        exact own_snoc8 hA.own (by rw [← ofNat_int _ (by omega)]; omega)

theorem vari_Put_pos (n : Int) (h0 : 0 ≤ n) (h1 : I64 n) (w : World) :
    Calls Tryz.prog 61 #[.int .i64 n] w fun e w' => e = .returned (.string ⟨(VariP.put n.toNat).toArray⟩) ∧ Below w.heap.size w w' := by
  obtain ⟨m, rfl⟩ := Int.eq_ofNat_of_zero_le h0
  have hm : m < 9223372036854775808 := by unfold I64 at h1; omega
  have H := Lib.hid (vari_put m (by omega))
  clear h1 h0
  rw [Int.toNat_natCast]
  go_enter Tryz.func61, Tryz.ntmps61
  go_wp2_with (go_at_call 88; with_reducible refine (H.out _).mono ?_; rintro e w1 ⟨rfl, hb1⟩)
  go_ret
  exact ⟨rfl, by (repeat (first | assumption | exact Below.refl _ _ | refine below_step (by assumption) ?_ | refine below_alloc' _ ?_ | refine below_drewN ?_ _ | refine Below.drew ?_))⟩
theorem vari_Put_neg (n : Int) (h0 : n < 0) (w : World) :
    Calls Tryz.prog 61 #[.int .i64 n] w fun e w' => e = .returned (.string ⟨#[]⟩) ∧ Below w.heap.size w w' := by
  go_enter Tryz.func61, Tryz.ntmps61
  go_wp2_with fail
  go_ret
  exact ⟨rfl, by (repeat (first | assumption | exact Below.refl _ _ | refine below_step (by assumption) ?_ | refine below_alloc' _ ?_ | refine below_drewN ?_ _ | refine Below.drew ?_))⟩
/-- the bytes of a number; nothing: it is below 0 -/
def putB (n : Int) : ByteArray := ⟨(VariP.putI n).toArray⟩
theorem putB_pos (n : Int) (h : 0 ≤ n) : putB n = ⟨(VariP.put n.toNat).toArray⟩ := by unfold putB VariP.putI; rw [if_neg (by omega)]
theorem putB_neg (n : Int) (h : n < 0) : putB n = ⟨#[]⟩ := by unfold putB VariP.putI; rw [if_pos h]
theorem vari_Put (n : Int) (h1 : I64 n) (w : World) :
    Calls Tryz.prog 61 #[.int .i64 n] w fun e w' => e = .returned (.string (putB n)) ∧ Below w.heap.size w w' := by
  by_cases h : n < 0
  · rw [putB_neg n h]; exact vari_Put_neg n h w
  · rw [putB_pos n (by omega)]; exact vari_Put_pos n (by omega) h1 w

set_option maxRecDepth 100000 in
theorem ref_digits (u0 : Nat) (h0 : u0 < 18446744073709551616) (w : World) :
    Calls Tryz.prog 64 #[.int .u64 (u0 : Int)] w fun e w' => e = .returned (.string ⟨(VariP.put u0).toArray⟩) ∧ Below w.heap.size w w' := by
  go_enter Tryz.func64, Tryz.ntmps64
  go_wp2
  go_loopw [0, 3] (fun uu v wr => ∃ (u : Nat) (l : List UInt8), uu = .int .u64 (u : Int) ∧ v = .string ⟨l.toArray⟩ ∧ VariP.put u0 = l ++ VariP.put u ∧ u < 18446744073709551616 ∧ Below w.heap.size w wr) (fun uu _ _ => (intOf uu).toNat)
  case atStart => exact ⟨u0, [], rfl, rfl, rfl, h0, Below.refl _ _⟩
  case round =>
    obtain ⟨u, l, rfl, rfl, hp, hu, hb⟩ := hrel
    have hl10 : l.length ≤ 10 := by
      have h1 := VariP.put_len u0
      rw [hp, List.length_append] at h1
      omega
    have HP := Lib.hid hp
    clear hp
    by_cases hlt : u < 128
    · have hz : ((u : Int) / 128 == 0) = true := by rw [beq_iff_eq]; omega
      go_wp2
      go_ret
      exact ⟨by rw [HP.out, put_small u hlt, Nat.mod_eq_of_lt hlt]; exact ret_str (ba_append _ _), by (repeat (first | assumption | exact Below.refl _ _ | refine below_step (by assumption) ?_ | refine below_alloc' _ ?_ | refine below_drewN ?_ _ | refine Below.drew ?_))⟩
    · have hz : ((u : Int) / 128 == 0) = false := by rw [beq_eq_false_iff_ne]; omega
      go_wp2
      refine ⟨⟨u / 128, l ++ [UInt8.ofNat (u % 128 + 128)], by go_num, ?_, ?_, by omega, by (repeat (first | assumption | exact Below.refl _ _ | refine below_step (by assumption) ?_ | refine below_alloc' _ ?_ | refine below_drewN ?_ _ | refine Below.drew ?_))⟩, by simp [intOf]; omega⟩
      · rw [show UInt8.ofNat (u % 128) + 128 = UInt8.ofNat (u % 128 + 128) by rw [UInt8.ofNat_add]; rfl]
        exact congrArg Value.string (ba_append _ _)
      · rw [HP.out, put_big u (by omega) hu, List.append_assoc]; rfl

theorem ref_Put (n : Int) (h1 : I64 n) (w : World) :
    Calls Tryz.prog 31 #[.int .i64 n] w fun e w' => e = .returned (.string (putB n)) ∧ Below w.heap.size w w' := by
  by_cases h : n < 0
  · rw [putB_neg n h]
    go_enter Tryz.func31, Tryz.ntmps31
    go_wp2_with fail
    go_ret
    exact ⟨rfl, by (repeat (first | assumption | exact Below.refl _ _ | refine below_step (by assumption) ?_ | refine below_alloc' _ ?_ | refine below_drewN ?_ _ | refine Below.drew ?_))⟩
  · rw [putB_pos n (by omega)]
    obtain ⟨m, rfl⟩ := Int.eq_ofNat_of_zero_le (show 0 ≤ n by omega)
    have hm : m < 9223372036854775808 := by unfold I64 at h1; omega
    have H := Lib.hid (ref_digits m (by omega))
    clear h1 h
    rw [Int.toNat_natCast]
    go_enter Tryz.func31, Tryz.ntmps31
    go_wp2_with (go_at_call 64; with_reducible refine (H.out _).mono ?_; rintro e w1 ⟨rfl, hb1⟩)
    go_ret
    exact ⟨rfl, by (repeat (first | assumption | exact Below.refl _ _ | refine below_step (by assumption) ?_ | refine below_alloc' _ ?_ | refine below_drewN ?_ _ | refine Below.drew ?_))⟩
theorem xor_ones (x : Nat) (h : x < 18446744073709551616) : x ^^^ 18446744073709551615 = 18446744073709551615 - x := by
  have e := BitVec.xor_allOnes (x := BitVec.ofNat 64 x)
  have e2 := congrArg BitVec.toNat e
  rw [BitVec.toNat_xor, BitVec.toNat_not, BitVec.toNat_ofNat, BitVec.toNat_allOnes, Nat.mod_eq_of_lt (by omega)] at e2
  exact e2
theorem zig_bits (n : Int) (h : -9223372036854775808 ≤ n ∧ n ≤ 9223372036854775807) : bits .xor .u64 (IntKind.u64.wrap (IntKind.u64.wrap n * 2)) (IntKind.u64.wrap (n / 9223372036854775808)) = (VariP.zig n : Int) := by
  rw [wrap_u64, wrap_u64, wrap_u64]
  unfold VariP.zig
  by_cases h0 : 0 ≤ n
  · rw [if_pos h0]
    have e1 : n % 18446744073709551616 * 2 % 18446744073709551616 = (((2 * n).toNat : Nat) : Int) := by omega
    have e2 : n / 9223372036854775808 % 18446744073709551616 = ((0 : Nat) : Int) := by omega
    rw [e1, e2, u64_xor_nat _ _ (by omega) (by omega), Nat.xor_zero]
  · rw [if_neg h0]
    have e1 : n % 18446744073709551616 * 2 % 18446744073709551616 = (((2 * n + 18446744073709551616).toNat : Nat) : Int) := by omega
    have e2 : n / 9223372036854775808 % 18446744073709551616 = ((18446744073709551615 : Nat) : Int) := by omega
    rw [e1, e2, u64_xor_nat _ _ (by omega) (by omega), xor_ones _ (by omega)]
    omega

/-- the bytes of a number that may be below 0 -/
def sigB (n : Int) : ByteArray := ⟨(VariP.put (VariP.zig n)).toArray⟩
/-- the bytes of numbers, one behind the other -/
def putsL (l : List Int) : List UInt8 := (l.map VariP.putI).flatten
theorem putI_len (n : Int) : (VariP.putI n).length ≤ 10 := by
  unfold VariP.putI; split
  · simp
  · exact VariP.put_len _
theorem putsL_len (l : List Int) : (putsL l).length ≤ 10 * l.length := by
  unfold putsL
  induction l with
  | nil => simp
  | cons n l ih =>
    have h := putI_len n
    simp only [List.map_cons, List.flatten_cons, List.length_append, List.length_cons]
    omega
theorem putsL_snoc (l : List Int) (k : Nat) (n : Int) (h : l[k]? = some n) : putsL (l.take (k + 1)) = putsL (l.take k) ++ VariP.putI n := by
  obtain ⟨hk, rfl⟩ := List.getElem?_eq_some_iff.1 h
  unfold putsL
  rw [List.take_succ_eq_append_getElem hk]
  simp only [List.map_append, List.flatten_append, List.map_cons, List.map_nil, List.flatten_cons, List.flatten_nil, List.append_nil]
def putsB (l : List Int) : ByteArray := ⟨(putsL l).toArray⟩
theorem putsB_snoc (l : List Int) (k : Nat) (n : Int) (h : l[k]? = some n) : putsB (l.take k) ++ putB n = putsB (l.take (k + 1)) := by
  unfold putsB putB
  rw [ba_append, putsL_snoc l k n h]
theorem putsB_size (l : List Int) : (putsB l).size ≤ 10 * l.length := putsL_len l
theorem putB_size (n : Int) : (putB n).size ≤ 10 := putI_len n
theorem sigB_size (n : Int) : (sigB n).size ≤ 10 := VariP.put_len _

end Go.Proofs.YtabccphcoojbjaaGreatDoor

namespace Go.Proofs.YtabccphcoojbjaaGreatDoor
open Go.ChangeShapes Go.WideShapes Go.ChangeAt Go.RowKit Go.Deep


theorem pow128 (k : Nat) : 128 ^ k = 2 ^ (7 * k) := by rw [Nat.pow_mul]
theorem andNot128 (c : Nat) (h : c < 256) : bits .andNot .u8 (c : Int) 128 = ((c % 128 : Nat) : Int) := by
  rw [show (128 : Int) = ((128 : Nat) : Int) from rfl, u8_andNot_nat _ _ h (by omega)]
  rw [show (255 - 128 : Nat) = 127 from rfl, nat_mask7]
theorem or_step (acc c k : Nat) (ha : acc < 128 ^ k) (hc : c < 128) (hk : k ≤ 9) :
    bits .or .u64 ((acc : Nat) : Int) (IntKind.u64.wrap ((c : Int) * 2 ^ (7 * (k : Int)).toNat)) = (((acc + c * 128 ^ k) % 18446744073709551616 : Nat) : Int) := by
  have e0 : (7 * (k : Int)).toNat = 7 * k := by omega
  have e1 : (c : Int) * 2 ^ (7 * (k : Int)).toNat = ((c * 128 ^ k : Nat) : Int) := by rw [e0, pow128]; simp
  rw [e1, wrap_u64]
  have h9 : 128 ^ k ≤ 9223372036854775808 := Nat.le_trans (Nat.pow_le_pow_right (by omega) hk) (by decide)
  have e2 : ((c * 128 ^ k : Nat) : Int) % 18446744073709551616 = ((c * 128 ^ k % 18446744073709551616 : Nat) : Int) := by omega
  rw [e2, u64_or_nat _ _ (by omega) (by omega), Nat.or_comm]
  have hm : c * 128 ^ k % 18446744073709551616 % 2 ^ (7 * k) = 0 := by
    rw [pow128]
    have : 2 ^ (7 * k) ∣ 18446744073709551616 := by
      rw [show (18446744073709551616 : Nat) = 2 ^ 64 from rfl]
      exact Nat.pow_dvd_pow 2 (by omega)
    rw [Nat.mod_mod_of_dvd _ this, Nat.mul_mod_left]
  rw [nat_join (7 * k) _ acc hm (by rw [← pow128]; exact ha)]
  have hx : c * 128 ^ k % 18446744073709551616 + acc < 18446744073709551616 := by
    rcases Nat.lt_or_ge k 9 with h8 | h8
    · have h7 : 128 ^ k ≤ 128 ^ 8 := Nat.pow_le_pow_right (by omega) (by omega)
      have : c * 128 ^ k ≤ 127 * 128 ^ 8 := Nat.mul_le_mul (by omega) h7
      have := Nat.mod_le (c * 128 ^ k) 18446744073709551616
      omega
    · obtain rfl : k = 9 := by omega
      omega
  refine congrArg _ ?_
  have e5 : (acc + c * 128 ^ k) % 18446744073709551616 = (c * 128 ^ k % 18446744073709551616 + acc) % 18446744073709551616 := by omega
  rw [e5, Nat.mod_eq_of_lt hx]
theorem take_cons (f k acc : Nat) (l : List UInt8) (c : UInt8) (h : l[k]? = some c) : VariP.takeF (f + 1) k acc (l.drop k) =
    if 128 ≤ c.toNat then VariP.takeF f (k + 1) (acc + c.toNat % 128 * 128 ^ k) (l.drop (k + 1))
    else if (c.toNat = 0 ∧ 0 < k) ∨ (k = 9 ∧ 1 < c.toNat) then (0, 0, 2) else (acc + c.toNat % 128 * 128 ^ k, k + 1, 0) := by
  obtain ⟨hk, rfl⟩ := List.getElem?_eq_some_iff.1 h
  rw [List.drop_eq_getElem_cons hk, VariP.takeF]
theorem take_short (f k acc : Nat) (l : List UInt8) (h : l.length ≤ k) : VariP.takeF (f + 1) k acc (l.drop k) = (0, 0, 3) := by
  rw [List.drop_eq_nil_of_le h, VariP.takeF]
theorem or_all (acc c k : Nat) (ha : acc < 128 ^ k) (hc : c < 256) (hk : k ≤ 9) :
    bits .or .u64 ((acc : Int) % 18446744073709551616) (IntKind.u64.wrap (IntKind.u64.wrap (bits .andNot .u8 (c : Int) 128) * 2 ^ (7 * k))) = (((acc + c % 128 * 128 ^ k) % 18446744073709551616 : Nat) : Int) := by
  have h9 : 128 ^ k ≤ 9223372036854775808 := Nat.le_trans (Nat.pow_le_pow_right (by omega) hk) (by decide)
  rw [andNot128 c hc, wrap_u64 ((c % 128 : Nat) : Int), show ((c % 128 : Nat) : Int) % 18446744073709551616 = ((c % 128 : Nat) : Int) by omega, show (acc : Int) % 18446744073709551616 = (acc : Int) by omega]
  have := or_step acc (c % 128) k ha (by omega) hk
  rw [show (7 * (k : Int)).toNat = 7 * k by omega] at this
  exact this
theorem acc_lt (acc c k : Nat) (ha : acc < 128 ^ k) : acc + c % 128 * 128 ^ k < 128 ^ (k + 1) := by
  rw [Nat.pow_succ]
  have : (c % 128 + 1) * 128 ^ k ≤ 128 * 128 ^ k := Nat.mul_le_mul_right _ (by omega)
  rw [Nat.add_mul] at this
  omega
theorem acc_ok (acc c k : Nat) (ha : acc < 128 ^ k) (hk : k ≤ 9) (hc : c < 128) (h : ¬ (k = 9 ∧ 1 < c)) : (acc + c % 128 * 128 ^ k) % 18446744073709551616 = acc + c % 128 * 128 ^ k := by
  refine Nat.mod_eq_of_lt ?_
  rcases Nat.lt_or_ge k 9 with h9 | h9
  · have h1 := acc_lt acc c k ha
    have h2 : 128 ^ (k + 1) ≤ 128 ^ 9 := Nat.pow_le_pow_right (by omega) (by omega)
    omega
  · obtain rfl : k = 9 := by omega
    have : c ≤ 1 := by omega
    have h3 : c % 128 * 128 ^ 9 ≤ 1 * 128 ^ 9 := Nat.mul_le_mul_right _ (by omega)
    omega
/-- what a taking tells -/
def tkV (t : Nat × Nat × Int) : Value := .tuple #[.int .u64 (t.1 : Int), .int .i64 (t.2.1 : Int), .int .i64 t.2.2]

set_option maxRecDepth 100000 in
theorem vari_take (s : ByteArray) (lim : Nat) (hlim : lim ≤ 10) (hs : s.size ≤ maxLen) (w : World) :
    Calls Tryz.prog 93 #[.string s, .int .i64 (lim : Int)] w fun e w' => e = .returned (tkV (VariP.take lim s.data.toList)) ∧ w = w' := by
  unfold maxLen at hs
  go_enter Tryz.func93, Tryz.ntmps93
  go_wp2
  go_step3
  go_wp2
  go_step3
  go_wp2
  go_loop [7, 8, 12] (fun u z i => ∃ (k acc : Nat), k ≤ lim ∧ k ≤ s.size ∧ i = .int .i64 k ∧ z = .int .i64 0 ∧ u = .int .u64 ((acc % 18446744073709551616 : Nat) : Int) ∧ acc < 128 ^ k ∧ VariP.take lim s.data.toList = VariP.takeF (lim - k) k acc (s.data.toList.drop k)) (fun _ _ i => lim - (intOf i).toNat)
  case atStart => exact ⟨0, 0, by omega, by omega, rfl, rfl, rfl, by simp, by simp [VariP.take]⟩
  case round =>
    obtain ⟨k, acc, hk, hks, rfl, rfl, rfl, hacc, ht⟩ := hrel
    by_cases hlt : k < lim
    · have HF := Lib.hid (show lim - k = (lim - (k + 1)) + 1 by omega)
      by_cases hsz : k < s.size
      · have hcons := take_cons (lim - (k + 1)) k acc s.data.toList s[k] (by rw [List.getElem?_eq_getElem (by simpa using hsz)]; rfl)
        have HO := Lib.hid (or_all acc s[k].toNat k hacc s[k].toNat_lt (by omega))
        have HL := Lib.hid (acc_lt acc s[k].toNat k hacc)
        have HOK := Lib.hid (acc_ok acc s[k].toNat k hacc (by omega))
        have HC := Lib.hid hcons
        have HT := Lib.hid ht
        clear ht hcons hacc
        by_cases hc : 128 ≤ s[k].toNat
        · go_wp2
          refine ⟨⟨k + 1, _, by omega, by omega, by go_num, rfl, by rw [HO.out], HL.out, ?_⟩, by simp [intOf]; omega⟩
          rw [HT.out, HF.out, HC.out, if_pos hc]
        · have hb : s[k].toNat < 128 := by omega
          have HB := Lib.hid (if_neg hc ▸ HC.out)
          by_cases h0 : s[k].toNat = 0
          · have H0 := Lib.hid h0
            have hz : ((s[k].toNat : Int) == 0) = true := by rw [beq_iff_eq]; omega
            clear h0
            by_cases hk0 : 0 < k
            · go_wp2
              go_ret3
              refine ⟨ret_val ?_, rfl⟩
              rw [HT.out, HF.out, HC.out, if_neg (by omega), if_pos (.inl ⟨H0.out, hk0⟩)]
              rfl
            · have hn1 : ¬ (1 : Int) < (s[k].toNat : Int) := by have := H0.out; omega
              go_wp2
              go_ret3
              refine ⟨ret_val ?_, rfl⟩
              rw [HT.out, HF.out, HC.out, if_neg (by omega), if_neg (by omega)]
              have h1 := HOK.out hb (by omega)
              have h2 := HO.out
              rw [h1] at h2
              unfold tkV
              rw [← h2]
              rfl
          · have hz : ((s[k].toNat : Int) == 0) = false := by rw [beq_eq_false_iff_ne]; omega
            by_cases h9 : k = 9
            · have H9 := Lib.hid h9
              have h9b : ((k : Int) == 9) = true := by rw [beq_iff_eq]; omega
              clear h9
              by_cases hn1 : 1 < s[k].toNat
              · go_wp2
                go_ret3
                refine ⟨ret_val ?_, rfl⟩
                rw [HT.out, HF.out, HC.out, if_neg (by omega), if_pos (.inr ⟨H9.out, hn1⟩)]
                rfl
              · go_wp2
                go_ret3
                refine ⟨ret_val ?_, rfl⟩
                rw [HT.out, HF.out, HC.out, if_neg (by omega), if_neg (by omega)]
                have h1 := HOK.out hb (by omega)
                have h2 := HO.out
                rw [h1] at h2
                unfold tkV
                rw [← h2]
                rfl
            · have h9b : ((k : Int) == 9) = false := by rw [beq_eq_false_iff_ne]; omega
              go_wp2
              go_ret3
              refine ⟨ret_val ?_, rfl⟩
              rw [HT.out, HF.out, HC.out, if_neg (by omega), if_neg (by omega)]
              have h1 := HOK.out hb (by omega)
              have h2 := HO.out
              rw [h1] at h2
              unfold tkV
              rw [← h2]
              rfl
      · have HT := Lib.hid ht
        clear ht hacc
        go_wp2
        go_ret3
        refine ⟨ret_val ?_, rfl⟩
        rw [HT.out, HF.out, take_short _ _ _ _ (by have : s.data.toList.length = s.size := rfl; omega)]
        rfl
    · have HT := Lib.hid ht
      clear ht hacc
      go_wp2
      go_ret3
      refine ⟨ret_val ?_, rfl⟩
      rw [HT.out, show lim - k = 0 by omega]
      rfl
end Go.Proofs.YtabccphcoojbjaaGreatDoor

namespace Go.Proofs.YtabccphcoojbjaaGreatDoor
open Go.ChangeShapes Go.WideShapes Go.ChangeAt Go.RowKit Go.Deep


/-- what a taking tells, of numbers with a sign -/
def tkI (n : Int) (t : Nat × Nat × Int) : Value := .tuple #[.int .i64 n, .int .i64 (t.2.1 : Int), .int .i64 t.2.2]
theorem take_lt (lim : Nat) (h : lim = 9 ∨ lim = 10) (s : List UInt8) : (VariP.take lim s).1 < 18446744073709551616 ∧ (lim = 9 → (VariP.take lim s).1 < 9223372036854775808) := by
  rcases VariP.take_err lim s with h0 | ⟨h0, _, _⟩
  · rcases ht : VariP.take lim s with ⟨x, y, e⟩
    rw [ht] at h0
    simp only at h0
    subst h0
    obtain ⟨_, _, _, _, h5, h6⟩ := VariP.take_back lim h s x y ht
    exact ⟨h5, h6⟩
  · rw [h0]; omega
theorem xor_neg1 (x : Nat) (h : x < 9223372036854775808) : bits .xor .i64 (x : Int) (-1) = -(x : Int) - 1 := by
  show IntKind.i64.wrap ((BitVec.ofInt 64 (x : Int) ^^^ BitVec.ofInt 64 (-1)).toNat : Int) = _
  have e : BitVec.ofInt 64 (-1) = BitVec.allOnes 64 := by decide
  rw [e, BitVec.xor_allOnes, BitVec.toNat_not, BitVec.ofInt_natCast, BitVec.toNat_ofNat, Nat.mod_eq_of_lt (by omega), IntKind.wrap_i64]
  omega
theorem xor_0 (x : Nat) (h : x < 9223372036854775808) : bits .xor .i64 (x : Int) 0 = (x : Int) := by
  show IntKind.i64.wrap ((BitVec.ofInt 64 (x : Int) ^^^ BitVec.ofInt 64 0).toNat : Int) = _
  have e : BitVec.ofInt 64 0 = 0#64 := by decide
  rw [e, BitVec.xor_zero, BitVec.ofInt_natCast, BitVec.toNat_ofNat, Nat.mod_eq_of_lt (by omega), IntKind.wrap_i64]
  omega
theorem and_1 (u : Nat) (h : u < 18446744073709551616) : bits .and .u64 (u : Int) 1 = ((u % 2 : Nat) : Int) := by
  rw [show (1 : Int) = ((1 : Nat) : Int) from rfl, u64_and_nat _ _ h (by omega), nat_mask1]
theorem zag_bits (u : Nat) (h : u < 18446744073709551616) : bits .xor .i64 ((u : Int) / 2) (RowKit.wrap64 (-RowKit.wrap64 (bits .and .u64 (u : Int) 1))) = VariP.zag u := by
  have e0 : RowKit.wrap64 (-RowKit.wrap64 ((u % 2 : Nat) : Int)) = -((u % 2 : Nat) : Int) := by unfold RowKit.wrap64; omega
  rw [and_1 u h, e0, show (u : Int) / 2 = ((u / 2 : Nat) : Int) by omega]
  unfold VariP.zag
  rcases Nat.mod_two_eq_zero_or_one u with h0 | h0
  · rw [h0, if_pos rfl, show (-((0 : Nat) : Int)) = 0 from rfl, xor_0 _ (by omega)]
  · rw [h0, if_neg (by omega), show (-((1 : Nat) : Int)) = -1 from rfl, xor_neg1 _ (by omega)]

set_option maxRecDepth 100000 in
theorem vari_Take (s : ByteArray) (hs : s.size ≤ maxLen) (w : World) :
    Calls Tryz.prog 67 #[.string s] w fun e w' => e = .returned (tkI (VariP.take 9 s.data.toList).1 (VariP.take 9 s.data.toList)) ∧ w = w' := by
  have hl := (take_lt 9 (.inl rfl) s.data.toList).2 rfl
  have H := Lib.hid (vari_take s 9 (by omega) hs)
  unfold tkI
  unfold tkV at H
  generalize (VariP.take 9 s.data.toList).1 = u at hl H ⊢
  generalize (VariP.take 9 s.data.toList).2.1 = z at H ⊢
  generalize (VariP.take 9 s.data.toList).2.2 = er at H ⊢
  go_enter Tryz.func67, Tryz.ntmps67
  go_wp2_with fail
  refine (H.out _).mono ?_
  rintro e w1 ⟨rfl, rfl⟩
  go_wp2_with fail
  go_ret3
  exact ⟨rfl, rfl⟩

def lastI (o : Option Nat) : Int := match o with | some j => j | none => -1
theorem last_some_step (i f : Nat) (l : List UInt8) (c : UInt8) (h : l[i]? = some c) : VariP.lastF i (f + 1) (l.drop i) = if c.toNat < 128 then some i else VariP.lastF (i + 1) f (l.drop (i + 1)) := by
  obtain ⟨hk, rfl⟩ := List.getElem?_eq_some_iff.1 h
  rw [List.drop_eq_getElem_cons hk, VariP.lastF]
theorem last_none (i f : Nat) (l : List UInt8) (h : l.length ≤ i ∨ f = 0) : VariP.lastF i f (l.drop i) = none := by
  rcases h with h | h
  · rw [List.drop_eq_nil_of_le h]; cases f <;> rfl
  · subst h; rfl
set_option maxRecDepth 100000 in
theorem ref_last (s : ByteArray) (lim : Nat) (hlim : lim ≤ 10) (hs : s.size ≤ maxLen) (w : World) :
    Calls Tryz.prog 94 #[.string s, .int .i64 (lim : Int)] w fun e w' => e = .returned (.int .i64 (lastI (VariP.last s.data.toList lim))) ∧ w = w' := by
  unfold maxLen at hs
  go_enter Tryz.func94, Tryz.ntmps94
  go_wp2
  go_loop [5] (fun i => ∃ (k : Nat), k ≤ lim ∧ k ≤ s.size ∧ i = .int .i64 k ∧ VariP.last s.data.toList lim = VariP.lastF k (lim - k) (s.data.toList.drop k)) (fun i => lim - (intOf i).toNat)
  case atStart => exact ⟨0, by omega, by omega, rfl, by simp [VariP.last]⟩
  case round =>
    obtain ⟨k, hk, hks, rfl, ht⟩ := hrel
    have HT := Lib.hid ht
    clear ht
    by_cases hsz : k < s.size
    · by_cases hlt : k < lim
      · have HC := Lib.hid (last_some_step k (lim - (k + 1)) s.data.toList s[k] (by rw [List.getElem?_eq_getElem (by simpa using hsz)]; rfl))
        have HF := Lib.hid (show lim - k = (lim - (k + 1)) + 1 by omega)
        by_cases hc : s[k].toNat < 128
        · go_wp2
          go_ret
          exact ⟨ret_int (by rw [HT.out, HF.out, HC.out, if_pos hc]; rfl), rfl⟩
        · go_wp2
          exact ⟨⟨k + 1, by omega, by omega, by go_num, by rw [HT.out, HF.out, HC.out, if_neg hc]⟩, by simp [intOf]; omega⟩
      · go_wp2
        go_ret
        exact ⟨ret_int (by rw [HT.out, last_none _ _ _ (.inr (by omega))]; rfl), rfl⟩
    · go_wp2
      go_ret
      exact ⟨ret_int (by rw [HT.out, last_none _ _ _ (.inl (by have : s.data.toList.length = s.size := rfl; omega))]; rfl), rfl⟩

theorem value_drop (l : List UInt8) (m : Nat) (c : UInt8) (h : l[m]? = some c) : VariP.value (l.drop m) = VariP.value (l.drop (m + 1)) * 128 + c.toNat % 128 := by
  obtain ⟨hk, rfl⟩ := List.getElem?_eq_some_iff.1 h
  rw [List.drop_eq_getElem_cons hk, VariP.value]
theorem value_drop_le (l : List UInt8) (m : Nat) : VariP.value (l.drop m) ≤ VariP.value l := by
  induction m generalizing l with
  | zero => simp
  | succ m ih =>
    cases l with
    | nil => simp
    | cons c r =>
      have := ih r
      simp only [List.drop_succ_cons, VariP.value]
      omega
set_option maxRecDepth 100000 in
theorem ref_value (s : ByteArray) (hs : s.size ≤ 100000) (hv : VariP.value s.data.toList < 18446744073709551616) (w : World) :
    Calls Tryz.prog 95 #[.string s] w fun e w' => e = .returned (.int .u64 (VariP.value s.data.toList : Int)) ∧ w = w' := by
  go_enter Tryz.func95, Tryz.ntmps95
  go_wp2
  go_loop [3, 4] (fun u i => ∃ (j : Nat), j ≤ s.size ∧ i = .int .i64 ((j : Int) - 1) ∧ u = .int .u64 (VariP.value (s.data.toList.drop j) : Int)) (fun _ i => (intOf i + 1).toNat)
  case atStart => exact ⟨s.size, by omega, rfl, by rw [List.drop_eq_nil_of_le (by simp)]; rfl⟩
  case round =>
    obtain ⟨j, hj, rfl, rfl⟩ := hrel
    cases j with
    | zero =>
      have HE := Lib.hid (show VariP.value (s.data.toList.drop 0) = VariP.value s.data.toList from rfl)
      go_wp2
      go_ret
      exact ⟨rfl, rfl⟩
    | succ m =>
      have hm : m < s.size := by omega
      have HV := Lib.hid (value_drop s.data.toList m s[m] (by rw [List.getElem?_eq_getElem (by simpa using hm)]; rfl))
      have h1 := value_drop_le s.data.toList m
      have h2 := value_drop_le s.data.toList (m + 1)
      have h3 : VariP.value (s.data.toList.drop (m + 1)) * 128 + s[m].toNat % 128 < 18446744073709551616 := by rw [← HV.out]; omega
      generalize VariP.value (s.data.toList.drop (m + 1)) = v at HV h2 h3 ⊢
      rw [show (((m + 1 : Nat) : Int) - 1) = (m : Int) by omega]
      have hb := s[m].toNat_lt
      go_wp2
      exact ⟨⟨m, by omega, rfl, by rw [HV.out]; go_num⟩, by simp [intOf]⟩

theorem ex_take (s : ByteArray) (k : Nat) : (s.extract 0 k).data.toList = s.data.toList.take k := by
  rw [ByteArray.data_extract, Array.toList_extract]; simp [List.extract]
theorem getD_s (s : ByteArray) (j : Nat) (h : j < s.size) : s.data.toList.getD j 0 = s[j] := by
  rw [List.getD_eq_getElem?_getD, List.getElem?_eq_getElem (by simpa using h)]; rfl
set_option maxRecDepth 100000 in
theorem ref_Take (s : ByteArray) (hs : s.size ≤ 100000) (w : World) :
    Calls Tryz.prog 70 #[.string s] w fun e w' => e = .returned (tkI (VariP.take 9 s.data.toList).1 (VariP.take 9 s.data.toList)) ∧ w = w' := by
  have hl := take_lt 9 (.inl rfl) s.data.toList
  have h1 := VariP.take_last 9 (by omega) s.data.toList
  have hL := ref_last s 9 (by omega) (by unfold maxLen; omega)
  have hz : s.data.toList.length = s.size := rfl
  cases hc : VariP.last s.data.toList 9 with
  | none =>
    rw [hc] at h1 hL
    simp only [hz] at h1
    have HL := Lib.hid hL
    clear hL hl hc hz
    by_cases h9 : 9 ≤ s.size
    · rw [if_pos h9] at h1
      rw [h1]
      clear h1
      go_enter Tryz.func70, Tryz.ntmps70
      go_wp2_with fail
      refine (HL.out _).mono ?_
      unfold lastI
      rintro e w1 ⟨rfl, rfl⟩
      go_wp2_with fail
      go_ret3
      exact ⟨rfl, rfl⟩
    · rw [if_neg h9] at h1
      rw [h1]
      clear h1
      go_enter Tryz.func70, Tryz.ntmps70
      go_wp2_with fail
      refine (HL.out _).mono ?_
      unfold lastI
      rintro e w1 ⟨rfl, rfl⟩
      go_wp2_with fail
      go_ret3
      exact ⟨rfl, rfl⟩
  | some j =>
    obtain ⟨_, j1, j2, j3⟩ := VariP.lastF_some 9 0 s.data.toList j hc
    rw [Nat.sub_zero] at j2 j3
    have hj : j < s.size := j2
    rw [hc] at h1 hL
    simp only [getD_s s j hj] at h1 j3
    have HL := Lib.hid hL
    clear hL hc hz j2
    by_cases hb : s[j].toNat = 0 ∧ 0 < j
    · rw [if_pos (.inl hb)] at h1
      rw [h1]
      clear h1 hl
      have hz : ((s[j].toNat : Int) == 0) = true := by rw [beq_iff_eq]; omega
      have hj0 := hb.2
      clear hb
      go_enter Tryz.func70, Tryz.ntmps70
      go_wp2_with fail
      refine (HL.out _).mono ?_
      unfold lastI
      rintro e w1 ⟨rfl, rfl⟩
      go_wp2_with fail
      go_ret3
      exact ⟨rfl, rfl⟩
    · rw [if_neg (by omega)] at h1
      have hlt := hl.2 rfl
      rw [h1] at hlt ⊢
      clear h1 hl
      have hv := Lib.hid (ref_value (s.extract 0 (j + 1)) (by rw [ByteArray.size_extract]; omega) (by rw [ex_take]; simp only at hlt; omega))
      rw [ex_take] at hv
      unfold tkI
      simp only at hlt ⊢
      generalize VariP.value (s.data.toList.take (j + 1)) = v at hv hlt ⊢
      by_cases h0 : s[j].toNat = 0
      · have hz : ((s[j].toNat : Int) == 0) = true := by rw [beq_iff_eq]; omega
        have hj0 : j = 0 := by omega
        clear hb h0
        subst hj0
        go_enter Tryz.func70, Tryz.ntmps70
        go_wp2_with fail
        refine (HL.out _).mono ?_
        unfold lastI
        rintro e w1 ⟨rfl, rfl⟩
        go_wp2_with fail
        refine (hv.out _).mono ?_
        rintro e w1 ⟨rfl, rfl⟩
        go_wp2_with fail
        go_ret3
        exact ⟨rfl, rfl⟩
      · have hz : ((s[j].toNat : Int) == 0) = false := by rw [beq_eq_false_iff_ne]; omega
        clear hb h0
        go_enter Tryz.func70, Tryz.ntmps70
        go_wp2_with fail
        refine (HL.out _).mono ?_
        unfold lastI
        rintro e w1 ⟨rfl, rfl⟩
        go_wp2_with fail
        all_goals
          refine (hv.out _).mono ?_
          rintro e w1 ⟨rfl, rfl⟩
          go_wp2_with fail
          go_ret3
          exact ⟨rfl, rfl⟩

theorem zag_even (v : Nat) (h : v % 2 = 0) : VariP.zag v = (v : Int) / 2 := by unfold VariP.zag; rw [if_pos h]; omega
theorem zag_odd (v : Nat) (h : v % 2 = 1) : VariP.zag v = -((v : Int) / 2) - 1 := by unfold VariP.zag; rw [if_neg (by omega)]; omega
end Go.Proofs.YtabccphcoojbjaaGreatDoor
