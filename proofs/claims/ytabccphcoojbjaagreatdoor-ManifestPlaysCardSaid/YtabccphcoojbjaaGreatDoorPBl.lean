/- Layer 34, plain: what the document's Write does to its disk; both go the same way. -/
import Derived.Test.YtabccphcoojbjaaGreatDoorPBb
import Derived.Test.YtabccphcoojbjaaGreatDoorPBk
namespace Go.Proofs.YtabccphcoojbjaaGreatDoor
open Go.ChangeShapes Go.WideShapes Go.ChangeAt Go.RowKit Go.Deep DiskP ManP


def v1 (X : DS) : DS × Int := if 0 ≤ fndI X.fs newB then doX X 4 newB ⟨#[]⟩ 0 else (X, 0)
def v2 (X : DS) (b : ByteArray) : DS × Int := appendX (v1 X).1 newB b
def v3 (X : DS) (b : ByteArray) : DS × Int := doX (v2 X b).1 2 newB ⟨#[]⟩ 0
def v4 (X : DS) (b : ByteArray) : DS × Int := doX (v3 X b).1 3 newB mainB 0
def writeXB (X : DS) (b : ByteArray) : DS × Int := if (v1 X).2 ≠ 0 then v1 X else if (v2 X b).2 ≠ 0 then v2 X b else if (v3 X b).2 ≠ 0 then v3 X b else v4 X b
def writeX (X : DS) (m : Mn) : DS × Int := if mayM m then writeXB X (bytesM m) else (X, 1)
def readMX (X : DS) : Mn × Int := if (readX X mainB).2 ≠ 0 then ((0, 0), (readX X mainB).2) else takeM (readX X mainB).1.data.toList
section
variable {S X : DS}
theorem do4 (hs : Sorted S.fs) (h : Sim S X) : Sim (removeD S newB).1 (doX X 4 newB ⟨#[]⟩ 0).1 ∧ (doX X 4 newB ⟨#[]⟩ 0).2 = (removeD S newB).2 := by
  exact do_sim hs h 4 newB ⟨#[]⟩ 0 (by omega)
theorem do2 (hs : Sorted S.fs) (h : Sim S X) : Sim (syncD S newB).1 (doX X 2 newB ⟨#[]⟩ 0).1 ∧ (doX X 2 newB ⟨#[]⟩ 0).2 = (syncD S newB).2 := by
  exact do_sim hs h 2 newB ⟨#[]⟩ 0 (by omega)
theorem do3 (hs : Sorted S.fs) (h : Sim S X) : Sim (renameD S newB mainB).1 (doX X 3 newB mainB 0).1 ∧ (doX X 3 newB mainB 0).2 = (renameD S newB mainB).2 := by
  exact do_sim hs h 3 newB mainB 0 (by omega)
theorem v1_sim (hs : Sorted S.fs) (h : Sim S X) : Sim (w1 S).1 (v1 X).1 ∧ (v1 X).2 = (w1 S).2 := by
  unfold w1 v1
  cases hh : has S.fs newB with
  | true =>
    obtain ⟨f, _, _, _, h4⟩ := sim_has hs h.perm hh
    rw [if_pos rfl, if_pos (by unfold fndI; rw [if_pos h4]; omega)]
    exact do4 hs h
  | false =>
    have h4 := sim_not hs h.perm hh
    rw [if_neg (by simp), if_neg (by unfold fndI; rw [if_neg h4]; omega)]
    exact ⟨h, rfl⟩
theorem writeX_sim {R : Int} {i j : Nat} (hS : DInv R i j S) (h : Sim S X) (m : Mn) : Sim (writeD S m).1 (writeX X m).1 ∧ (writeX X m).2 = (writeD S m).2 := by
  unfold writeD writeX
  split
  · have hb : (bytesM m).size ≤ 100 := by have := bytesM_len m; omega
    obtain ⟨a1, e1⟩ := v1_sim hS.sorted h
    obtain ⟨a2, e2⟩ := append_sim (w1_inv hS).sorted a1 newB (bytesM m)
    obtain ⟨a3, e3⟩ := do2 (w2_inv hS hb).sorted a2
    obtain ⟨a4, e4⟩ := do3 (w3_inv hS hb).sorted a3
    have e2' : (v2 X (bytesM m)).2 = (w2 S (bytesM m)).2 := e2
    have e3' : (v3 X (bytesM m)).2 = (w3 S (bytesM m)).2 := e3
    have e4' : (v4 X (bytesM m)).2 = (w4 S (bytesM m)).2 := e4
    unfold writeB writeXB
    rw [e1, e2', e3']
    split
    · exact ⟨a1, e1⟩
    · split
      · exact ⟨a2, e2'⟩
      · split
        · exact ⟨a3, e3'⟩
        · exact ⟨a4, e4'⟩
  · exact ⟨h, rfl⟩
theorem readMX_sim (hs : Sorted S.fs) (h : Sim S X) : readMX X = readMD S := by
  unfold readMX readMD
  rw [read_sim hs h mainB]
end
/-! what holds of the document's disk on the way -/
theorem okx_of {R : Int} {i j : Nat} {S X : DS} (h : Sim S X) (hS : DInv R i j S) (hi : i ≤ 1000) (hj : j ≤ 1000) : OkX X := okX_of h (hS.ok hi hj)
theorem v1_ok {R : Int} {i j : Nat} {S X : DS} (h : Sim S X) (hS : DInv R i j S) (hi : i ≤ 900) (hj : j ≤ 900) : OkX (v1 X).1 := okx_of (v1_sim hS.sorted h).1 (w1_inv hS) (by omega) (by omega)
theorem v2_ok {R : Int} {i j : Nat} {S X : DS} (h : Sim S X) (hS : DInv R i j S) (hi : i ≤ 900) (hj : j ≤ 900) {b : ByteArray} (hb : b.size ≤ 100) : OkX (v2 X b).1 := okx_of (append_sim (w1_inv hS).sorted (v1_sim hS.sorted h).1 newB b).1 (w2_inv hS hb) (by omega) (by omega)
theorem v3_ok {R : Int} {i j : Nat} {S X : DS} (h : Sim S X) (hS : DInv R i j S) (hi : i ≤ 900) (hj : j ≤ 900) {b : ByteArray} (hb : b.size ≤ 100) : OkX (v3 X b).1 := okx_of (do2 (w2_inv hS hb).sorted (append_sim (w1_inv hS).sorted (v1_sim hS.sorted h).1 newB b).1).1 (w3_inv hS hb) (by omega) (by omega)
end Go.Proofs.YtabccphcoojbjaaGreatDoor
