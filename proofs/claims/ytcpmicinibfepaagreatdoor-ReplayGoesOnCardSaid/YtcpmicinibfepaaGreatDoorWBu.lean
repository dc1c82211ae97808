/- Walks of layer 3 (sat) and of its reference. -/
import Derived.Test.YtcpmicinibfepaaGreatDoorWAb
import Derived.Test.YtcpmicinibfepaaGreatDoorWAc
namespace Go.Proofs.YtcpmicinibfepaaGreatDoor
open Go.ChangeShapes Go.WideShapes Go.ChangeAt Go.RowKit Go.Deep


def clampS (n a b : Int) : Int := max a (min n b)
def addS (a b : Int) : Int := clampS (a + b) (-9223372036854775808) 9223372036854775807
def subS (a b : Int) : Int := clampS (a - b) (-9223372036854775808) 9223372036854775807
theorem wrap64_or (n : Int) (h : -18446744073709551616 ≤ n ∧ n < 18446744073709551616) : (wrap64 n = n ∧ -9223372036854775808 ≤ n ∧ n ≤ 9223372036854775807) ∨ (9223372036854775807 < n ∧ wrap64 n = n - 18446744073709551616) ∨ (n < -9223372036854775808 ∧ wrap64 n = n + 18446744073709551616) := by
  unfold wrap64; omega

def Sp.kept (x : Sp) : Sp := { x with du := clampS x.du 0 4611686018427387904 }


theorem sat_Clamp (n a b : Int) (w : World) :
    Calls Tryz.prog 35 #[.int .i64 n, .int .i64 a, .int .i64 b] w fun e w' => e = .returned (.int .i64 (clampS n a b)) ∧ w = w' := by
  go_enter Tryz.func35, Tryz.ntmps35
  go_wp2
  all_goals
    go_ret
    exact ⟨ret_int (by simp only [clampS]; omega), rfl⟩

theorem sat_Add (a b : Int) (ha : I64 a) (hb : I64 b) (w : World) :
    Calls Tryz.prog 55 #[.int .i64 a, .int .i64 b] w fun e w' => e = .returned (.int .i64 (addS a b)) ∧ w = w' := by
  have hw := Lib.hid (wrap64_or (a + b) (by unfold I64 at ha hb; omega))
  have hi := Lib.hid (And.intro ha hb)
  clear ha hb
  go_enter Tryz.func55, Tryz.ntmps55
  go_wp2
  all_goals
    go_ret
    exact ⟨ret_int (by have := hw.out; have := hi.out; unfold I64 at this; unfold addS clampS; omega), rfl⟩

def endS (x : Sp) : Int := addS x.st (clampS x.du 0 4611686018427387904)
theorem clamp_I64 (n a b : Int) (hn : I64 n) (ha : I64 a) (hb : I64 b) : I64 (clampS n a b) := by unfold I64 clampS at *; omega
theorem maxDur_I64 : I64 4611686018427387904 := by unfold I64; omega
theorem zero_I64 : I64 0 := by unfold I64; omega

end Go.Proofs.YtcpmicinibfepaaGreatDoor
