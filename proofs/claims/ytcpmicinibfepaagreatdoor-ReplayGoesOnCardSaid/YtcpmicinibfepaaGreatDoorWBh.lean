/- gossamerref01.SameTexts of equal texts. -/
import Derived.Test.YtcpmicinibfepaaGreatDoorWAj
import Derived.Test.YtcpmicinibfepaaGreatDoorWAc
namespace Go.Proofs.YtcpmicinibfepaaGreatDoor
open Go.ChangeShapes Go.WideShapes Go.ChangeAt Go.RowKit Go.Deep



set_option maxRecDepth 100000 in
theorem ref1_SameTx (A1 A2 : Option Addr) (c1 c2 : Nat) (l1 l2 : List ByteArray) (h1 : l1.length ≤ 1000) (h2 : l2.length ≤ 1000) (heq : l1 = l2) (w : World) (r1 : Rd w w.heap.size A1 (l1.map Value.string)) (r2 : Rd w w.heap.size A2 (l2.map Value.string)) :
    Calls Tryz.prog 34 #[.slice A1 l1.length c1, .slice A2 l2.length c2] w fun e w' => e = .returned (.bool true) ∧ Below w.heap.size w w' := by
  subst heq
  have R1 := Lib.hid r1
  have R2 := Lib.hid r2
  clear r1 r2
  go_enter Tryz.func34, Tryz.ntmps34
  go_wp2_with fail
  go_loopw [5] (fun vi wr => ∃ k : Nat, k ≤ l1.length ∧ vi = .int .i64 k ∧ Below w.heap.size w wr) (fun vi _ => l1.length - (intOf vi).toNat)
  case atStart => exact ⟨0, by omega, rfl, Below.refl _ _⟩
  case round =>
    obtain ⟨k, hk, rfl, hb⟩ := hrel
    by_cases hlt : k < l1.length
    · obtain ⟨f, hk'⟩ : ∃ f, l1[k]? = some f := ⟨l1[k], List.getElem?_eq_getElem hlt⟩
      have hm : (l1.map Value.string)[k]? = some (.string f) := by rw [List.getElem?_map, hk']; rfl
      obtain ⟨a1, rfl, b1, z1⟩ := (R1.out.below hb) k _ hm
      obtain ⟨a2, rfl, b2, z2⟩ := (R2.out.below hb) k _ hm
      have hi1 : (k : Int) < (l1.length : Int) := by omega
      clear hk' hm
      go_wp2_with fail
      go_quiet (fail)
      go_wp2_with fail
      refine ⟨⟨k + 1, by omega, by go_num, ?_⟩, by show l1.length - ((k : Int) + 1).toNat < l1.length - ((k : Int)).toNat; omega⟩
      (repeat (first | assumption | exact Below.refl _ _ | refine below_step (by assumption) ?_ | refine below_alloc' _ ?_ | refine below_drewN ?_ _ | refine Below.drew ?_))
    · have hi1 : ¬ (k : Int) < (l1.length : Int) := by omega
      go_wp2_with fail
      go_ret
      exact ⟨rfl, hb⟩
end Go.Proofs.YtcpmicinibfepaaGreatDoor
