/- The statements of layer 14 (keyed): what is put together is split as it was (plain). -/
import Derived.Test.YtjiepgajjfnnkaaLaw14b
namespace Go.Proofs.Ytjiepgajjfnnkaa
open Go.ChangeShapes Go.WideShapes Go.ChangeAt Go.RowKit Go.Deep BigP

def kk (a b : Int) : ByteArray := ⟨(big 8 (up a) ++ big 8 (up b)).toArray⟩
def ee (n : Int) (s : ByteArray) : ByteArray := ⟨(big 8 (up n) ++ s.data.toList).toArray⟩
theorem ex_lo (s : ByteArray) : (s.extract 0 8).data.toList = s.data.toList.take 8 := by
  rw [ByteArray.data_extract, Array.toList_extract]; simp [List.extract]
theorem ex_hi (s : ByteArray) : (s.extract 8 s.size).data.toList = s.data.toList.drop 8 := by
  rw [ByteArray.data_extract, Array.toList_extract]
  have : s.size = s.data.toList.length := rfl
  rw [this, List.extract]
  exact List.take_of_length_le (by simp)
theorem kk_size (a b : Int) : (kk a b).size = 16 := by
  show (big 8 (up a) ++ big 8 (up b)).toArray.size = 16
  rw [List.size_toArray, List.length_append, big_length, big_length]
theorem ee_size (n : Int) (s : ByteArray) : (ee n s).size = 8 + s.size := by
  show (big 8 (up n) ++ s.data.toList).toArray.size = 8 + s.size
  rw [List.size_toArray, List.length_append, big_length]; rfl
theorem tk8 (a : Nat) (l : List UInt8) : (big 8 a ++ l).take 8 = big 8 a := by
  have := List.take_left (l₁ := big 8 a) (l₂ := l)
  rwa [big_length] at this
theorem dr8 (a : Nat) (l : List UInt8) : (big 8 a ++ l).drop 8 = l := by
  have := List.drop_left (l₁ := big 8 a) (l₂ := l)
  rwa [big_length] at this
theorem spA_kk (a b : Int) (ha : I64 a) : spA (kk a b) = a := by
  unfold spA; rw [if_pos (kk_size a b), ex_lo]
  show down (num 0 ((big 8 (up a) ++ big 8 (up b)).take 8)) = a
  rw [tk8, num_big_lt 8 _ (up_lt _ ha), down_up _ ha]
theorem spB_kk (a b : Int) (hb : I64 b) : spB (kk a b) = b := by
  unfold spB; rw [if_pos (kk_size a b), ex_hi]
  show down (num 0 ((big 8 (up a) ++ big 8 (up b)).drop 8)) = b
  rw [dr8, num_big_lt 8 _ (up_lt _ hb), down_up _ hb]
theorem seA_ee (n : Int) (s : ByteArray) (hn : I64 n) (hs : s.size = 16) : seA (ee n s) = n := by
  unfold seA; rw [if_pos (by rw [ee_size]; omega), ex_lo]
  show down (num 0 ((big 8 (up n) ++ s.data.toList).take 8)) = n
  rw [tk8, num_big_lt 8 _ (up_lt _ hn), down_up _ hn]
theorem ba_ext {a b : ByteArray} (h : a.data.toList = b.data.toList) : a = b := by
  cases a; cases b; simp only [ByteArray.mk.injEq]; exact Array.toList_inj.1 h
theorem seB_ee (n : Int) (s : ByteArray) (hs : s.size = 16) : seB (ee n s) = s := by
  unfold seB; rw [if_pos (by rw [ee_size]; omega)]
  apply ba_ext; rw [ex_hi]
  show (big 8 (up n) ++ s.data.toList).drop 8 = _
  rw [dr8]
theorem kk_split (s : ByteArray) (hs : s.size = 16) : kk (spA s) (spB s) = s := by
  apply ba_ext
  have hl : s.data.toList.length = 16 := hs
  show big 8 (up (spA s)) ++ big 8 (up (spB s)) = _
  unfold spA spB; rw [if_pos hs, if_pos hs, up_down, up_down, ex_lo, ex_hi, big_num' 8 _ (by simp; omega), big_num' 8 _ (by simp; omega), List.take_append_drop]
theorem ee_split (s : ByteArray) (hs : s.size = 24) : ee (seA s) (seB s) = s := by
  apply ba_ext
  have hl : s.data.toList.length = 24 := hs
  show big 8 (up (seA s)) ++ (seB s).data.toList = _
  unfold seA seB; rw [if_pos hs, if_pos hs, up_down, ex_lo, ex_hi, big_num' 8 _ (by simp; omega), List.take_append_drop]
theorem seB_size (s : ByteArray) : (seB s).size ≤ 16 := by
  unfold seB; split
  · rename_i h; rw [ByteArray.size_extract]; omega
  · decide
theorem num_I64 (l : List UInt8) (h : l.length ≤ 8) : I64 (down (num 0 l)) := by
  have := num_lt8 l h
  unfold I64 down; omega
theorem spA_I64 (s : ByteArray) : I64 (spA s) := by
  unfold spA; split
  · exact num_I64 _ (by rw [ex_lo]; simp; omega)
  · unfold I64; omega
theorem spB_I64 (s : ByteArray) : I64 (spB s) := by
  unfold spB; split
  · rename_i h
    have hl : s.data.toList.length = 16 := h
    exact num_I64 _ (by rw [ex_hi]; simp; omega)
  · unfold I64; omega
theorem seA_I64 (s : ByteArray) : I64 (seA s) := by
  unfold seA; split
  · exact num_I64 _ (by rw [ex_lo]; simp; omega)
  · unfold I64; omega
end Go.Proofs.Ytjiepgajjfnnkaa
