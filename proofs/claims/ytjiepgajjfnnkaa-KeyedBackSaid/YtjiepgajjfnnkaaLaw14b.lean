/- The statements of layer 14 (keyed): the walk of KeyedOrder. -/
import Derived.Test.YtjiepgajjfnnkaaLaw14
namespace Go.Proofs.Ytjiepgajjfnnkaa
open Go.ChangeShapes Go.WideShapes Go.ChangeAt Go.RowKit Go.Deep BigP

/-- a record's key; the key of what ends -/
def kOf (x : Sp) : ByteArray := ⟨(big 8 (up x.tr) ++ big 8 (up x.id)).toArray⟩
def eOf (n : Int) (x : Sp) : ByteArray := ⟨(big 8 (up n) ++ (kOf x).data.toList).toArray⟩
theorem kOf_size (x : Sp) : (kOf x).size = 16 := by
  show (big 8 (up x.tr) ++ big 8 (up x.id)).toArray.size = 16
  rw [List.size_toArray, List.length_append, big_length, big_length]
theorem toList_mk (l : List UInt8) : (⟨l.toArray⟩ : ByteArray).toList = l := by rw [ByteArray.toList_eq]
theorem less_big (n u v : Nat) (s t : List UInt8) (hu : u < 256 ^ n) (hv : v < 256 ^ n) : Op.bytesLess (big n u ++ s) (big n v ++ t) = (decide (u < v) || (decide (u = v) && Op.bytesLess s t)) :=
  big_less Op.bytesLess (fun x y a b => by simp only [Op.bytesLess]; rfl) n u v s t hu hv
theorem up_less (a b : Int) (ha : I64 a) (hb : I64 b) : decide (up a < up b) = decide (a < b) := by unfold I64 at ha hb; unfold up; rw [Bool.eq_iff_iff]; simp; omega
theorem up_eq (a b : Int) (ha : I64 a) (hb : I64 b) : decide (up a = up b) = decide (a = b) := by unfold I64 at ha hb; unfold up; rw [Bool.eq_iff_iff]; simp; omega
theorem key_less (a b : Sp) (ha : a.Ok) (hb : b.Ok) : Op.bytesLess (kOf a).toList (kOf b).toList = kbef a b := by
  unfold kOf
  rw [toList_mk, toList_mk, less_big 8 _ _ _ _ (up_lt _ ha.1) (up_lt _ hb.1)]
  have h := less_big 8 (up a.id) (up b.id) [] [] (up_lt _ ha.2.1) (up_lt _ hb.2.1)
  rw [List.append_nil, List.append_nil] at h
  rw [h, up_less _ _ ha.1 hb.1, up_eq _ _ ha.1 hb.1, up_less _ _ ha.2.1 hb.2.1, up_eq _ _ ha.2.1 hb.2.1]
  unfold kbef
  rw [Bool.eq_iff_iff]
  simp [Op.bytesLess]
theorem app_inj (a b s t : List UInt8) (h : a.length = b.length) : (a ++ s == b ++ t) = ((a == b) && (s == t)) := by
  rw [Bool.eq_iff_iff]
  simp only [Bool.and_eq_true, beq_iff_eq]
  exact ⟨fun e => List.append_inj e h, fun ⟨e1, e2⟩ => by rw [e1, e2]⟩
theorem big_eq (a b : Int) (ha : I64 a) (hb : I64 b) : (big 8 (up a) == big 8 (up b)) = decide (a = b) := by
  rw [← up_eq a b ha hb, Bool.eq_iff_iff]
  simp only [beq_iff_eq, decide_eq_true_eq]
  exact ⟨fun e => big_inj 8 _ _ (up_lt _ ha) (up_lt _ hb) e, fun e => by rw [e]⟩
theorem key_eq (a b : Sp) (ha : a.Ok) (hb : b.Ok) : ((kOf a).toList == (kOf b).toList) = kone a b := by
  unfold kOf
  rw [toList_mk, toList_mk, app_inj _ _ _ _ (by rw [big_length, big_length]), big_eq _ _ ha.1 hb.1, big_eq _ _ ha.2.1 hb.2.1]
  unfold kone
  rw [Bool.eq_iff_iff]; simp
theorem end_less1 (n m : Int) (a b : Sp) (hn : I64 n) (hm : I64 m) (h : n < m) : Op.bytesLess (eOf n a).toList (eOf m b).toList = true := by
  unfold eOf
  rw [toList_mk, toList_mk, less_big 8 _ _ _ _ (up_lt _ hn) (up_lt _ hm), up_less _ _ hn hm, up_eq _ _ hn hm, ← ByteArray.toList_eq, ← ByteArray.toList_eq]
  rw [Bool.eq_iff_iff]; simp; omega
theorem end_eq1 (n m : Int) (a b : Sp) (hn : I64 n) (hm : I64 m) (h : n < m) : ((eOf n a).toList == (eOf m b).toList) = false := by
  unfold eOf
  rw [toList_mk, toList_mk, app_inj _ _ _ _ (by rw [big_length, big_length]), big_eq _ _ hn hm, ← ByteArray.toList_eq, ← ByteArray.toList_eq]
  rw [Bool.eq_iff_iff]; simp; omega
theorem end_less2 (n m : Int) (a b : Sp) (hn : I64 n) (hm : I64 m) (h : n = m) : Op.bytesLess (eOf n a).toList (eOf m b).toList = Op.bytesLess (kOf a).toList (kOf b).toList := by
  unfold eOf
  rw [toList_mk, toList_mk, less_big 8 _ _ _ _ (up_lt _ hn) (up_lt _ hm), up_less _ _ hn hm, up_eq _ _ hn hm, ← ByteArray.toList_eq, ← ByteArray.toList_eq]
  subst h; simp
theorem end_eq2 (n m : Int) (a b : Sp) (hn : I64 n) (hm : I64 m) (h : n = m) : ((eOf n a).toList == (eOf m b).toList) = ((kOf a).toList == (kOf b).toList) := by
  unfold eOf
  rw [toList_mk, toList_mk, app_inj _ _ _ _ (by rw [big_length, big_length]), big_eq _ _ hn hm, ← ByteArray.toList_eq, ← ByteArray.toList_eq]
  subst h; simp
theorem end_less3 (n m : Int) (a b : Sp) (hn : I64 n) (hm : I64 m) (h : m < n) : Op.bytesLess (eOf n a).toList (eOf m b).toList = false := by
  unfold eOf
  rw [toList_mk, toList_mk, less_big 8 _ _ _ _ (up_lt _ hn) (up_lt _ hm), up_less _ _ hn hm, up_eq _ _ hn hm, ← ByteArray.toList_eq, ← ByteArray.toList_eq]
  rw [Bool.eq_iff_iff]; simp; omega
theorem end_eq3 (n m : Int) (a b : Sp) (hn : I64 n) (hm : I64 m) (h : m < n) : ((eOf n a).toList == (eOf m b).toList) = false := by
  unfold eOf
  rw [toList_mk, toList_mk, app_inj _ _ _ _ (by rw [big_length, big_length]), big_eq _ _ hn hm, ← ByteArray.toList_eq, ← ByteArray.toList_eq]
  rw [Bool.eq_iff_iff]; simp; omega
end Go.Proofs.Ytjiepgajjfnnkaa
