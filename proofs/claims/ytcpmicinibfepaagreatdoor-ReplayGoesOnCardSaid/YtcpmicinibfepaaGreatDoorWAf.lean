/- Small laws on the walk's numbers: a number of 64 bits with its highest bit turned; its bytes. -/
import Derived.Test.YtcpmicinibfepaaGreatDoorWAb
namespace Go.Proofs.YtcpmicinibfepaaGreatDoor

theorem xor_top_nat (x : Nat) (h : x < 18446744073709551616) : x ^^^ 9223372036854775808 = if x < 9223372036854775808 then x + 9223372036854775808 else x - 9223372036854775808 := by
  have hm : (x ^^^ 9223372036854775808) % 2 ^ 63 = x % 2 ^ 63 := by
    rw [Nat.xor_mod_two_pow, show (9223372036854775808 : Nat) % 2 ^ 63 = 0 from rfl, Nat.xor_zero]
  have hd : (x ^^^ 9223372036854775808) / 2 ^ 63 = x / 2 ^ 63 ^^^ 1 := by
    rw [Nat.xor_div_two_pow, show (9223372036854775808 : Nat) / 2 ^ 63 = 1 from rfl]
  have hq : x / 2 ^ 63 = 0 ∨ x / 2 ^ 63 = 1 := by omega
  rcases hq with hq | hq <;> rw [hq] at hd
  · have : (0 ^^^ 1 : Nat) = 1 := rfl
    rw [this] at hd
    rw [if_pos (by omega)]; omega
  · have : (1 ^^^ 1 : Nat) = 0 := rfl
    rw [this] at hd
    rw [if_neg (by omega)]; omega
theorem wrap_u64 (n : Int) : IntKind.u64.wrap n = n % 18446744073709551616 := by simp [IntKind.wrap, IntKind.bits, IntKind.signed]
/-- a number of 64 bits with a sign as one without, in the same order -/
def up (n : Int) : Nat := (n + 9223372036854775808).toNat
theorem up_lt (n : Int) (h : -9223372036854775808 ≤ n ∧ n ≤ 9223372036854775807) : up n < 256 ^ 8 := by unfold up; omega
theorem xor_top (n : Int) (h : -9223372036854775808 ≤ n ∧ n ≤ 9223372036854775807) : bits .xor .u64 (IntKind.u64.wrap n) 9223372036854775808 = ((up n : Nat) : Int) := by
  have e : IntKind.u64.wrap n = (((n % 18446744073709551616).toNat : Nat) : Int) := by rw [wrap_u64]; omega
  rw [e, show (9223372036854775808 : Int) = ((9223372036854775808 : Nat) : Int) from rfl, u64_xor_nat _ _ (by omega) (by omega), xor_top_nat _ (by omega)]
  unfold up
  split <;> omega
theorem add_top (n : Int) (h : -9223372036854775808 ≤ n ∧ n ≤ 9223372036854775807) : IntKind.u64.wrap (IntKind.u64.wrap n + 9223372036854775808) = ((up n : Nat) : Int) := by
  rw [wrap_u64, wrap_u64]; unfold up; omega
/-- the number of eight bytes, back -/
def down (u : Nat) : Int := (u : Int) - 9223372036854775808
theorem down_up (n : Int) (h : -9223372036854775808 ≤ n ∧ n ≤ 9223372036854775807) : down (up n) = n := by unfold down up; omega
theorem up_down (u : Nat) : up (down u) = u := by unfold down up; omega
theorem xor_back (u : Nat) (h : u < 18446744073709551616) : RowKit.wrap64 (bits .xor .u64 (u : Int) 9223372036854775808) = down u := by
  rw [show (9223372036854775808 : Int) = ((9223372036854775808 : Nat) : Int) from rfl, u64_xor_nat _ _ (by omega) (by omega), xor_top_nat _ (by omega)]
  unfold down RowKit.wrap64
  split <;> omega
theorem sub_back (u : Nat) (h : u < 18446744073709551616) : RowKit.wrap64 (IntKind.u64.wrap ((u : Int) - 9223372036854775808)) = down u := by
  rw [wrap_u64]; unfold down RowKit.wrap64; omega
end Go.Proofs.YtcpmicinibfepaaGreatDoor
