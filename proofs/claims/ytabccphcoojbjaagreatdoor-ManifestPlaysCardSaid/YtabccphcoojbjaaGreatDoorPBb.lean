/- Layer 34, plain: what a write does to a disk, and what is read; the invariants. -/
import Derived.Test.YtabccphcoojbjaaGreatDoorPAe
import Derived.Test.YtabccphcoojbjaaGreatDoorPBa
namespace Go.Proofs.YtabccphcoojbjaaGreatDoor
open Go.ChangeShapes Go.WideShapes Go.ChangeAt Go.RowKit Go.Deep DiskP ManP


def mainB : ByteArray := ⟨#[109, 97, 105, 110]⟩
def newB : ByteArray := ⟨#[109, 97, 105, 110, 46, 110, 101, 119]⟩
theorem main_new : mainB ≠ newB := by decide
def w1 (S : DS) : DS × Int := if has S.fs newB then removeD S newB else (S, 0)
def w2 (S : DS) (b : ByteArray) : DS × Int := appendD (w1 S).1 newB b
def w3 (S : DS) (b : ByteArray) : DS × Int := syncD (w2 S b).1 newB
def w4 (S : DS) (b : ByteArray) : DS × Int := renameD (w3 S b).1 newB mainB
def writeB (S : DS) (b : ByteArray) : DS × Int := if (w1 S).2 ≠ 0 then w1 S else if (w2 S b).2 ≠ 0 then w2 S b else if (w3 S b).2 ≠ 0 then w3 S b else w4 S b
def bytesM (m : Mn) : ByteArray := ⟨(bodyM m ++ crc4 (bodyM m)).toArray⟩
def writeD (S : DS) (m : Mn) : DS × Int := if mayM m then writeB S (bytesM m) else (S, 1)
def readMD (S : DS) : Mn × Int := if (readD S mainB).2 ≠ 0 then ((0, 0), (readD S mainB).2) else takeM (readD S mainB).1.data.toList

/-! the invariants -/
theorem w1_inv {R : Int} {i j : Nat} {S : DS} (h : DInv R i j S) : DInv R (i + 1) j (w1 S).1 := by
  unfold w1
  split
  · exact (removeD_inv h newB).1
  · exact h.more (by omega) (by omega)
theorem w2_inv {R : Int} {i j : Nat} {S : DS} (h : DInv R i j S) {b : ByteArray} (hb : b.size ≤ 100) : DInv R (i + 2) (j + 2) (w2 S b).1 := (appendD_inv ((w1_inv h).more (Nat.le_refl _) (Nat.le_succ j)) newB b hb).1
theorem w3_inv {R : Int} {i j : Nat} {S : DS} (h : DInv R i j S) {b : ByteArray} (hb : b.size ≤ 100) : DInv R (i + 3) (j + 2) (w3 S b).1 := (syncD_inv (w2_inv h hb) newB).1
theorem w4_inv {R : Int} {i j : Nat} {S : DS} (h : DInv R i j S) {b : ByteArray} (hb : b.size ≤ 100) : DInv R (i + 4) (j + 2) (w4 S b).1 := (renameD_inv (w3_inv h hb) newB mainB).1
theorem writeB_inv {R : Int} {i j : Nat} {S : DS} (h : DInv R i j S) {b : ByteArray} (hb : b.size ≤ 100) : DInv R (i + 4) (j + 2) (writeB S b).1 := by
  unfold writeB
  split
  · exact (w1_inv h).more (by omega) (by omega)
  · split
    · exact (w2_inv h hb).more (by omega) (by omega)
    · split
      · exact (w3_inv h hb).more (by omega) (by omega)
      · exact w4_inv h hb
theorem putM_len (n : Int) : (VariP.putI n).length ≤ 10 := by
  unfold VariP.putI
  split
  · simp
  · exact VariP.put_len n.toNat
theorem bytesM_len (m : Mn) : (bytesM m).size ≤ 24 := by
  have a := putM_len m.1
  have b := putM_len m.2
  show (bodyM m ++ crc4 (bodyM m)).toArray.size ≤ 24
  rw [List.size_toArray, List.length_append, crc4_len]
  unfold bodyM
  rw [List.length_append]
  omega
theorem writeD_inv {R : Int} {i j : Nat} {S : DS} (h : DInv R i j S) (m : Mn) : DInv R (i + 4) (j + 2) (writeD S m).1 := by
  unfold writeD
  split
  · exact writeB_inv h (by have := bytesM_len m; omega)
  · exact h.more (by omega) (by omega)
end Go.Proofs.YtabccphcoojbjaaGreatDoor
