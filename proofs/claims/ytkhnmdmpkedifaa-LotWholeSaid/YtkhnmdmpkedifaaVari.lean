/- Walks of layer 1 (vari) and of its reference: numbers as bytes. -/
import Derived.Test.YtkhnmdmpkedifaaKit
import Derived.Test.YtkhnmdmpkedifaaOpen
import Derived.Test.YtkhnmdmpkedifaaRegion
import Derived.Test.YtkhnmdmpkedifaaBits
import Derived.Test.YtkhnmdmpkedifaaStr
import Derived.Test.YtkhnmdmpkedifaaAppend
import Derived.Test.YtkhnmdmpkedifaaReads
import Derived.Test.YtkhnmdmpkedifaaVariP
namespace Go.Proofs.Ytkhnmdmpkedifaa
open Go.ChangeShapes Go.WideShapes Go.ChangeAt Go.RowKit Go.Deep

theorem put_small (u : Nat) (h : u < 128) : VariP.put u = [UInt8.ofNat u] := by
  unfold VariP.put; rw [show (10 : Nat) = 9 + 1 from rfl, VariP.putF, if_pos h]
theorem put_big (u : Nat) (h : 128 ≤ u) (hu : u < 18446744073709551616) : VariP.put u = UInt8.ofNat (u % 128 + 128) :: VariP.put (u / 128) := by
  have hd : u / 128 < 128 ^ 9 := by omega
  have := VariP.putF_more 9 (u / 128) hd (by omega) 1
  unfold VariP.put
  rw [this]
  show (if u < 128 then [UInt8.ofNat u] else UInt8.ofNat (u % 128 + 128) :: VariP.putF 9 (u / 128)) = _
  rw [if_neg (by omega)]
/-- bytes as values -/
abbrev B8 (b : UInt8) : Value := .int .u8 (b.toNat : Int)
theorem or_128 (u : Nat) : bits .or .u8 ((u : Int) % 256) 128 = ((u % 128 + 128 : Nat) : Int) := by
  have e : (u : Int) % 256 = ((u % 256 : Nat) : Int) := by omega
  rw [e, show (128 : Int) = ((128 : Nat) : Int) from rfl, u8_or_nat _ _ (by omega) (by omega)]
  have h : u % 256 = u % 128 + 128 * (u / 128 % 2) := by omega
  have h7 : u % 128 < 2 ^ 7 := by omega
  rcases Nat.mod_two_eq_zero_or_one (u / 128) with h0 | h0
  · rw [h0] at h
    rw [h, Nat.mul_zero, Nat.add_zero, Nat.or_comm, nat_join 7 128 (u % 128) (by omega) h7, Nat.add_comm]
  · rw [h0] at h
    have e3 : u % 256 = 128 ||| (u % 128) := by rw [nat_join 7 128 (u % 128) (by omega) h7]; omega
    rw [e3, Nat.or_comm, ← Nat.or_assoc, Nat.or_self, nat_join 7 128 (u % 128) (by omega) h7, Nat.add_comm]

theorem info_u8 : (Try.prog.info? 5).map (fun i => (i.zero, i.size, i.bytes)) = some (some (.int .u8 0), 1, 1) := by kernel_rfl

set_option maxHeartbeats 1000000 in
theorem own_snoc8 {w : World} {base : Nat} {t : TypeId} {g n cap : Nat} {l : List UInt8} {x : Int} {b : UInt8} (h : w.ownsRow base t 1 (.slice (some ⟨g, 0, none⟩) n cap) n (l.map B8 ++ (#[Value.int .u8 x] : Array Value).toList)) (hx : x = (b.toNat : Int)) :
    w.ownsRow base t 1 (.slice (some ⟨g, 0, none⟩) n cap) n ((l ++ [b]).map B8) := by
  rw [List.map_append, List.map_singleton]
  unfold B8 at *
  rw [← hx]; exact h
theorem ofNat_int (u : Nat) (h : u < 256) : (u : Int) = ((UInt8.ofNat u).toNat : Int) := by rw [UInt8.toNat_ofNat_of_lt' (by show _ < 256; omega)]
theorem run_string_own {w : World} {base : Nat} {t : TypeId} {g n cap : Nat} (L : List UInt8) (hn : n = L.length) (h : w.ownsRow base t 1 (.slice (some ⟨g, 0, none⟩) n cap) n (L.map B8)) :
    (convert 40 9 (.slice (some ⟨g, 0, none⟩) n cap)).run Try.prog w = .ok (.string ⟨L.toArray⟩) w := by
  subst hn
  refine run_string_of _ Try.underlying40 Try.underlying5 Try.underlying9 _ _ L (fun j b hj => ?_)
  exact h.cells (g := g) rfl j _ (by rw [List.getElem?_map, hj]; rfl)

set_option maxRecDepth 100000 in
theorem vari_put (u0 : Nat) (h0 : u0 < 18446744073709551616) (w : World) :
    Calls Try.prog 101 #[.int .u64 (u0 : Int)] w fun e w' => e = .returned (.string ⟨(VariP.put u0).toArray⟩) ∧ Below w.heap.size w w' := by
  obtain ⟨i0, hi, hz0, hz1, hz2⟩ := info_parts' info_u8
  have HI := Lib.hid (And.intro hi (And.intro hz0 (And.intro hz1 hz2)))
  clear hi hz0 hz1 hz2
  go_enter Try.func101, Try.ntmps101
  go_wp2
  go_loopw [0, 3] (fun uu v wr => ∃ (u : Nat) (l : List UInt8), uu = .int .u64 (u : Int) ∧ VariP.put u0 = l ++ VariP.put u ∧ u < 18446744073709551616 ∧ wr.ownsRow w.heap.size 5 1 v l.length (l.map B8) ∧ Below w.heap.size w wr) (fun uu _ _ => (intOf uu).toNat)
  case atStart => exact ⟨u0, [], rfl, rfl, h0, World.ownsRow_nil _ _ _ _, Below.refl _ _⟩
  case round =>
    obtain ⟨u, l, rfl, hp, hu, hown, hb⟩ := hrel
    have hl10 : l.length ≤ 10 := by
      have h1 := VariP.put_len u0
      rw [hp, List.length_append] at h1
      omega
    have HP := Lib.hid hp
    have HO := Lib.hid hown
    clear hp hown
    by_cases hlt : u < 128
    · go_wp2_with (at_builtin; go_must (refine wpList_append_one rfl _ _ _ (by rfl) w.heap.size 5 i0 _ 1 1 Try.underlying40 HI.out.1 HI.out.2.1 HI.out.2.2.1 HI.out.2.2.2 rfl (by decide) (by decide) _ _ _ (by rfl) wr HO.out _ _ rfl (by rfl) (by rfl) (by simp [Value.oneCell']) (by omega) hb.size ?_; intro g cap w1 hA); have hcv := run_string_own (n := l.length + 1) (l ++ [UInt8.ofNat u]) (by simp) (own_snoc8 hA.own (ofNat_int u (by omega))); clear HO)
      go_ret
      exact ⟨by rw [HP.out, put_small u hlt]; rfl, hA.below _ hb⟩
    · have ho := or_128 u
      go_wp2_with (at_builtin; go_must (refine wpList_append_one rfl _ _ _ (by rfl) w.heap.size 5 i0 _ 1 1 Try.underlying40 HI.out.1 HI.out.2.1 HI.out.2.2.1 HI.out.2.2.2 rfl (by decide) (by decide) _ _ _ (by rfl) wr HO.out _ _ rfl (by rfl) (by rfl) (by simp [Value.oneCell']) (by omega) hb.size ?_; intro g cap w1 hA))
      refine ⟨⟨u / 128, l ++ [UInt8.ofNat (u % 128 + 128)], by go_num, ?_, by omega, ?_, hA.below _ hb⟩, by simp [intOf]; omega⟩
      · rw [HP.out, put_big u (by omega) hu, List.append_assoc]; rfl
      · rw [List.length_append]
        exact own_snoc8 hA.own (by rw [← ofNat_int _ (by omega)]; omega)

theorem vari_Put_pos (n : Int) (h0 : 0 ≤ n) (h1 : I64 n) (w : World) :
    Calls Try.prog 78 #[.int .i64 n] w fun e w' => e = .returned (.string ⟨(VariP.put n.toNat).toArray⟩) ∧ Below w.heap.size w w' := by
  obtain ⟨m, rfl⟩ := Int.eq_ofNat_of_zero_le h0
  have hm : m < 9223372036854775808 := by unfold I64 at h1; omega
  have H := Lib.hid (vari_put m (by omega))
  clear h1 h0
  rw [Int.toNat_natCast]
  go_enter Try.func78, Try.ntmps78
  go_wp2_with (go_at_call 101; with_reducible refine (H.out _).mono ?_; rintro e w1 ⟨rfl, hb1⟩)
  go_ret
  exact ⟨rfl, by (repeat (first | assumption | exact Below.refl _ _ | refine below_step (by assumption) ?_ | refine below_alloc' _ ?_ | refine below_drewN ?_ _ | refine Below.drew ?_))⟩
theorem vari_Put_neg (n : Int) (h0 : n < 0) (w : World) :
    Calls Try.prog 78 #[.int .i64 n] w fun e w' => e = .returned (.string ⟨#[]⟩) ∧ Below w.heap.size w w' := by
  go_enter Try.func78, Try.ntmps78
  go_wp2_with fail
  go_ret
  exact ⟨rfl, by (repeat (first | assumption | exact Below.refl _ _ | refine below_step (by assumption) ?_ | refine below_alloc' _ ?_ | refine below_drewN ?_ _ | refine Below.drew ?_))⟩
/-- the bytes of a number; nothing: it is below 0 -/
def putB (n : Int) : ByteArray := ⟨(VariP.putI n).toArray⟩
theorem putB_pos (n : Int) (h : 0 ≤ n) : putB n = ⟨(VariP.put n.toNat).toArray⟩ := by unfold putB VariP.putI; rw [if_neg (by omega)]
theorem putB_neg (n : Int) (h : n < 0) : putB n = ⟨#[]⟩ := by unfold putB VariP.putI; rw [if_pos h]
theorem vari_Put (n : Int) (h1 : I64 n) (w : World) :
    Calls Try.prog 78 #[.int .i64 n] w fun e w' => e = .returned (.string (putB n)) ∧ Below w.heap.size w w' := by
  by_cases h : n < 0
  · rw [putB_neg n h]; exact vari_Put_neg n h w
  · rw [putB_pos n (by omega)]; exact vari_Put_pos n (by omega) h1 w

set_option maxRecDepth 100000 in
theorem ref_digits (u0 : Nat) (h0 : u0 < 18446744073709551616) (w : World) :
    Calls Try.prog 96 #[.int .u64 (u0 : Int)] w fun e w' => e = .returned (.string ⟨(VariP.put u0).toArray⟩) ∧ Below w.heap.size w w' := by
  go_enter Try.func96, Try.ntmps96
  go_wp2
  go_loopw [0, 3] (fun uu v wr => ∃ (u : Nat) (l : List UInt8), uu = .int .u64 (u : Int) ∧ v = .string ⟨l.toArray⟩ ∧ VariP.put u0 = l ++ VariP.put u ∧ u < 18446744073709551616 ∧ Below w.heap.size w wr) (fun uu _ _ => (intOf uu).toNat)
  case atStart => exact ⟨u0, [], rfl, rfl, rfl, h0, Below.refl _ _⟩
  case round =>
    obtain ⟨u, l, rfl, rfl, hp, hu, hb⟩ := hrel
    have hl10 : l.length ≤ 10 := by
      have h1 := VariP.put_len u0
      rw [hp, List.length_append] at h1
      omega
    have HP := Lib.hid hp
    clear hp
    by_cases hlt : u < 128
    · have hz : ((u : Int) / 128 == 0) = true := by rw [beq_iff_eq]; omega
      go_wp2
      go_ret
      exact ⟨by rw [HP.out, put_small u hlt, Nat.mod_eq_of_lt hlt]; exact ret_str (ba_append _ _), by (repeat (first | assumption | exact Below.refl _ _ | refine below_step (by assumption) ?_ | refine below_alloc' _ ?_ | refine below_drewN ?_ _ | refine Below.drew ?_))⟩
    · have hz : ((u : Int) / 128 == 0) = false := by rw [beq_eq_false_iff_ne]; omega
      go_wp2
      refine ⟨⟨u / 128, l ++ [UInt8.ofNat (u % 128 + 128)], by go_num, ?_, ?_, by omega, by (repeat (first | assumption | exact Below.refl _ _ | refine below_step (by assumption) ?_ | refine below_alloc' _ ?_ | refine below_drewN ?_ _ | refine Below.drew ?_))⟩, by simp [intOf]; omega⟩
      · rw [show UInt8.ofNat (u % 128) + 128 = UInt8.ofNat (u % 128 + 128) by rw [UInt8.ofNat_add]; rfl]
        exact congrArg Value.string (ba_append _ _)
      · rw [HP.out, put_big u (by omega) hu, List.append_assoc]; rfl

theorem ref_Put (n : Int) (h1 : I64 n) (w : World) :
    Calls Try.prog 68 #[.int .i64 n] w fun e w' => e = .returned (.string (putB n)) ∧ Below w.heap.size w w' := by
  by_cases h : n < 0
  · rw [putB_neg n h]
    go_enter Try.func68, Try.ntmps68
    go_wp2_with fail
    go_ret
    exact ⟨rfl, by (repeat (first | assumption | exact Below.refl _ _ | refine below_step (by assumption) ?_ | refine below_alloc' _ ?_ | refine below_drewN ?_ _ | refine Below.drew ?_))⟩
  · rw [putB_pos n (by omega)]
    obtain ⟨m, rfl⟩ := Int.eq_ofNat_of_zero_le (show 0 ≤ n by omega)
    have hm : m < 9223372036854775808 := by unfold I64 at h1; omega
    have H := Lib.hid (ref_digits m (by omega))
    clear h1 h
    rw [Int.toNat_natCast]
    go_enter Try.func68, Try.ntmps68
    go_wp2_with (go_at_call 96; with_reducible refine (H.out _).mono ?_; rintro e w1 ⟨rfl, hb1⟩)
    go_ret
    exact ⟨rfl, by (repeat (first | assumption | exact Below.refl _ _ | refine below_step (by assumption) ?_ | refine below_alloc' _ ?_ | refine below_drewN ?_ _ | refine Below.drew ?_))⟩
theorem xor_ones (x : Nat) (h : x < 18446744073709551616) : x ^^^ 18446744073709551615 = 18446744073709551615 - x := by
  have e := BitVec.xor_allOnes (x := BitVec.ofNat 64 x)
  have e2 := congrArg BitVec.toNat e
  rw [BitVec.toNat_xor, BitVec.toNat_not, BitVec.toNat_ofNat, BitVec.toNat_allOnes, Nat.mod_eq_of_lt (by omega)] at e2
  exact e2
theorem zig_bits (n : Int) (h : -9223372036854775808 ≤ n ∧ n ≤ 9223372036854775807) : bits .xor .u64 (IntKind.u64.wrap (IntKind.u64.wrap n * 2)) (IntKind.u64.wrap (n / 9223372036854775808)) = (VariP.zig n : Int) := by
  rw [wrap_u64, wrap_u64, wrap_u64]
  unfold VariP.zig
  by_cases h0 : 0 ≤ n
  · rw [if_pos h0]
    have e1 : n % 18446744073709551616 * 2 % 18446744073709551616 = (((2 * n).toNat : Nat) : Int) := by omega
    have e2 : n / 9223372036854775808 % 18446744073709551616 = ((0 : Nat) : Int) := by omega
    rw [e1, e2, u64_xor_nat _ _ (by omega) (by omega), Nat.xor_zero]
  · rw [if_neg h0]
    have e1 : n % 18446744073709551616 * 2 % 18446744073709551616 = (((2 * n + 18446744073709551616).toNat : Nat) : Int) := by omega
    have e2 : n / 9223372036854775808 % 18446744073709551616 = ((18446744073709551615 : Nat) : Int) := by omega
    rw [e1, e2, u64_xor_nat _ _ (by omega) (by omega), xor_ones _ (by omega)]
    omega

/-- the bytes of a number that may be below 0 -/
def sigB (n : Int) : ByteArray := ⟨(VariP.put (VariP.zig n)).toArray⟩
theorem vari_PutSigned (n : Int) (h1 : I64 n) (w : World) :
    Calls Try.prog 95 #[.int .i64 n] w fun e w' => e = .returned (.string (sigB n)) ∧ Below w.heap.size w w' := by
  have H := Lib.hid (vari_put (VariP.zig n) (VariP.zig_lt n h1))
  have HZ := Lib.hid (zig_bits n h1)
  clear h1
  go_enter Try.func95, Try.ntmps95
  go_wp2_with fail
  rw [HZ.out]
  refine (H.out _).mono ?_
  rintro e w1 ⟨rfl, hb1⟩
  go_wp2_with fail
  go_ret
  exact ⟨rfl, hb1⟩

theorem ref_twice (n : Int) (h1 : I64 n) (w : World) :
    Calls Try.prog 97 #[.int .i64 n] w fun e w' => e = .returned (.int .u64 (VariP.zig n : Int)) ∧ w = w' := by
  unfold I64 at h1
  by_cases h : 0 ≤ n
  · go_enter Try.func97, Try.ntmps97
    go_wp2
    go_ret
    exact ⟨ret_int (by unfold VariP.zig; rw [if_pos h]; omega), rfl⟩
  · go_enter Try.func97, Try.ntmps97
    go_wp2
    go_ret
    exact ⟨ret_int (by unfold VariP.zig; rw [if_neg (by omega)]; omega), rfl⟩
theorem ref_PutSigned (n : Int) (h1 : I64 n) (w : World) :
    Calls Try.prog 69 #[.int .i64 n] w fun e w' => e = .returned (.string (sigB n)) ∧ Below w.heap.size w w' := by
  have H := Lib.hid (ref_digits (VariP.zig n) (VariP.zig_lt n h1))
  have H2 := Lib.hid (ref_twice n h1)
  clear h1
  go_enter Try.func69, Try.ntmps69
  go_wp2_with fail
  refine (H2.out _).mono ?_
  rintro e w1 ⟨rfl, rfl⟩
  go_wp2_with fail
  refine (H.out _).mono ?_
  rintro e w1 ⟨rfl, hb1⟩
  go_wp2_with fail
  go_ret
  exact ⟨rfl, hb1⟩

/-- the bytes of numbers, one behind the other -/
def putsL (l : List Int) : List UInt8 := (l.map VariP.putI).flatten
theorem putI_len (n : Int) : (VariP.putI n).length ≤ 10 := by
  unfold VariP.putI; split
  · simp
  · exact VariP.put_len _
theorem putsL_len (l : List Int) : (putsL l).length ≤ 10 * l.length := by
  unfold putsL
  induction l with
  | nil => simp
  | cons n l ih =>
    have h := putI_len n
    simp only [List.map_cons, List.flatten_cons, List.length_append, List.length_cons]
    omega
theorem putsL_snoc (l : List Int) (k : Nat) (n : Int) (h : l[k]? = some n) : putsL (l.take (k + 1)) = putsL (l.take k) ++ VariP.putI n := by
  obtain ⟨hk, rfl⟩ := List.getElem?_eq_some_iff.1 h
  unfold putsL
  rw [List.take_succ_eq_append_getElem hk]
  simp only [List.map_append, List.flatten_append, List.map_cons, List.map_nil, List.flatten_cons, List.flatten_nil, List.append_nil]
def putsB (l : List Int) : ByteArray := ⟨(putsL l).toArray⟩
theorem putsB_snoc (l : List Int) (k : Nat) (n : Int) (h : l[k]? = some n) : putsB (l.take k) ++ putB n = putsB (l.take (k + 1)) := by
  unfold putsB putB
  rw [ba_append, putsL_snoc l k n h]
theorem putsB_size (l : List Int) : (putsB l).size ≤ 10 * l.length := putsL_len l
theorem putB_size (n : Int) : (putB n).size ≤ 10 := putI_len n
theorem sigB_size (n : Int) : (sigB n).size ≤ 10 := VariP.put_len _
