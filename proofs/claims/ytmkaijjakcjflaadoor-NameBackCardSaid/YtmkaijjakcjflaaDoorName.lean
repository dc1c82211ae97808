/- Walks of layer 8 (name): digits, with, Of. -/
import Derived.Test.YtmkaijjakcjflaaDoorNameP
import Derived.Test.YtmkaijjakcjflaaDoorKit
import Derived.Test.YtmkaijjakcjflaaDoorShelf
import Derived.Test.YtmkaijjakcjflaaDoorAppend
import Derived.Test.YtmkaijjakcjflaaDoorStr
import Derived.Test.YtmkaijjakcjflaaDoorOpen
import Derived.Lib.SmallJoins
namespace Go.Proofs.YtmkaijjakcjflaaDoor
open Go.ChangeShapes Go.WideShapes Go.ChangeAt Go.RowKit Go.Deep NameP Go.Sort

/-- the library's table of powers of ten reads as it was laid -/
def TabW (w : World) : Prop := Lib.TabIs Tryd.prog w "internal/strconv.uint64pow10" .u64 Lib.pow10Tab
theorem TabW.below {w w' : World} (h : TabW w) (hb : Below w.heap.size w w') : TabW w' :=
  Go.Joins.tab_stays (g := (Tryd.prog.globalNamed "internal/strconv.uint64pow10").getD 0) (by kernel_rfl) h hb (Nat.le_refl _)
theorem grow_below (w : World) (k : Nat) (os : Array Obj) : Below w.heap.size w (grow (w.drewN k) os) := by
  refine ⟨rfl, rfl, rfl, ?_, fun j hj => ?_⟩
  · simp [grow]
  · simp [grow, Array.getElem?_append, hj]
/-- bytes as a text -/
def S8 (l : List UInt8) : ByteArray := ⟨l.toArray⟩
theorem S8_size (l : List UInt8) : (S8 l).size = l.length := by show l.toArray.size = _; simp
theorem S8_nil : S8 [] = ⟨#[]⟩ := rfl
theorem S8_toList (l : List UInt8) : (S8 l).data.toList = l := by unfold S8; simp
theorem S8_back (s : ByteArray) : S8 s.data.toList = s := by unfold S8; cases s; simp
theorem S8_app (a b : List UInt8) : S8 a ++ S8 b = S8 (a ++ b) := ba_append a b
theorem S8_emp (l : List UInt8) : (S8 l).toList.isEmpty = l.isEmpty := by rw [Lib.toList_data, S8_toList]
theorem Itoa_any (n : Int) (hn : I64 n) (w : World) (ht : TabW w) : Calls Tryd.prog 24 #[.int .i64 n] w fun e w' => e = .returned (.string (S8 (Lib.itoa n))) ∧ Below w.heap.size w w' := by
  unfold I64 at hn
  refine (Tryd.strconv_Itoa n hn.1 hn.2 w ht).mono ?_
  rintro e w' ⟨rfl, k, os, rfl⟩
  exact ⟨rfl, grow_below w k os⟩

theorem name_digits (n : Int) (hn : I64 n) (w : World) (ht : TabW w) : Calls Tryd.prog 20 #[.int .i64 n] w fun e w' => e = .returned (.string (S8 (digS n))) ∧ Below w.heap.size w w' := by
  have HT := Lib.hid (Itoa_any n hn w ht)
  unfold I64 at hn
  by_cases h1 : n < 1
  · have e : digS n = [] := by unfold digS; rw [if_neg (by omega)]
    rw [e, S8_nil]
    clear e
    generalize S8 (Lib.itoa n) = t at HT
    go_enter Tryd.func20, Tryd.ntmps20
    go_wp2_with (go_at_call 24; (with_reducible refine (HT.out).mono ?_); rintro e w1 ⟨rfl, b1⟩)
    go_ret
    exact ⟨rfl, b1⟩
  · have e0 : Lib.itoa n = Lib.decDigits n.toNat := by unfold Lib.itoa; rw [if_neg (by omega)]
    have hl := dec_len n.toNat
    by_cases h2 : n ≤ 999999999999999999
    · have e : digS n = Lib.decDigits n.toNat := by unfold digS; rw [if_pos ⟨by omega, h2⟩]
      rw [e0] at HT
      rw [e]
      have hle := hl.2 (by omega)
      have hsz : (S8 (Lib.decDigits n.toNat)).size ≤ 18 := by rw [S8_size]; exact hle
      clear e e0 hl hle
      generalize S8 (Lib.decDigits n.toNat) = t at HT hsz ⊢
      go_enter Tryd.func20, Tryd.ntmps20
      go_wp2_with (go_at_call 24; (with_reducible refine (HT.out).mono ?_); rintro e w1 ⟨rfl, b1⟩)
      go_ret
      exact ⟨rfl, b1⟩
    · have e : digS n = [] := by unfold digS; rw [if_neg (fun h => h2 h.2)]
      rw [e, S8_nil]
      rw [e0] at HT
      have hle : ¬ (Lib.decDigits n.toNat).length ≤ 18 := fun h => by have := hl.1 h; omega
      have hsz : ¬ (S8 (Lib.decDigits n.toNat)).size ≤ 18 := by rw [S8_size]; exact hle
      clear e e0 hl hle
      generalize S8 (Lib.decDigits n.toNat) = t at HT hsz
      go_enter Tryd.func20, Tryd.ntmps20
      go_wp2_with (go_at_call 24; (with_reducible refine (HT.out).mono ?_); rintro e w1 ⟨rfl, b1⟩)
      go_ret
      exact ⟨rfl, b1⟩
theorem name_with (first : List UInt8) (hf : first.length ≤ 100) (n : Int) (hn : I64 n) (w : World) (ht : TabW w) : Calls Tryd.prog 16 #[.string (S8 first), .int .i64 n] w fun e w' => e = .returned (.string (S8 (withS first n))) ∧ Below w.heap.size w w' := by
  have HT := Lib.hid (name_digits n hn w ht)
  have hdl := digS_len n
  by_cases hd : digS n = []
  · have e : withS first n = [] := by unfold withS; rw [if_pos hd]
    rw [e, S8_nil]
    rw [hd, S8_nil] at HT
    clear e hd hdl
    go_enter Tryd.func16, Tryd.ntmps16
    go_wp2_with (go_at_call 20; (with_reducible refine (HT.out).mono ?_); rintro e w1 ⟨rfl, b1⟩)
    go_ret
    exact ⟨rfl, b1⟩
  · have e : withS first n = first ++ digS n := by unfold withS; rw [if_neg hd]
    rw [e, ← S8_app]
    have he : (S8 (digS n)).toList.isEmpty = false := by rw [S8_emp]; simpa using hd
    have hs1 : (S8 first).size ≤ 100 := by rw [S8_size]; exact hf
    have hs2 : (S8 (digS n)).size ≤ 18 := by rw [S8_size]; exact hdl
    clear e hd hdl hf
    generalize S8 (digS n) = t at HT he hs2 ⊢
    generalize S8 first = f at hs1 ⊢
    go_enter Tryd.func16, Tryd.ntmps16
    go_wp2_with (go_at_call 20; (with_reducible refine (HT.out).mono ?_); rintro e w1 ⟨rfl, b1⟩)
    go_ret
    exact ⟨rfl, b1⟩
theorem name_Of (kind n : Int) (hn : I64 n) (w : World) (ht : TabW w) : Calls Tryd.prog 9 #[.int .i64 kind, .int .i64 n] w fun e w' => e = .returned (.string (S8 (ofS kind n))) ∧ Below w.heap.size w w' := by
  have H1 := Lib.hid (name_with logS (by decide) n hn w ht)
  have H2 := Lib.hid (name_with imgS (by decide) n hn w ht)
  by_cases e1 : kind = 1
  · subst e1
    rw [show ofS 1 n = withS logS n by unfold ofS; rw [if_pos rfl]]
    go_enter Tryd.func9, Tryd.ntmps9
    go_wp2_with (go_at_call 16; refine (H1.out).mono ?_; rintro e w1 ⟨rfl, b1⟩)
    go_ret
    exact ⟨rfl, b1⟩
  by_cases e2 : kind = 2
  · subst e2
    rw [show ofS 2 n = withS imgS n by unfold ofS; rw [if_neg (by decide), if_pos rfl]]
    go_enter Tryd.func9, Tryd.ntmps9
    go_wp2_with (go_at_call 16; refine (H2.out).mono ?_; rintro e w1 ⟨rfl, b1⟩)
    go_ret
    exact ⟨rfl, b1⟩
  by_cases e3 : kind = 3
  · subst e3
    rw [show ofS 3 n = mainS by unfold ofS; rw [if_neg (by decide), if_neg (by decide), if_pos rfl]]
    go_enter Tryd.func9, Tryd.ntmps9
    go_wp2_with fail
    go_ret
    exact ⟨rfl, Below.refl _ _⟩
  by_cases e4 : kind = 4
  · subst e4
    rw [show ofS 4 n = freshS by unfold ofS; rw [if_neg (by decide), if_neg (by decide), if_neg (by decide), if_pos rfl]]
    go_enter Tryd.func9, Tryd.ntmps9
    go_wp2_with fail
    go_ret
    exact ⟨rfl, Below.refl _ _⟩
  rw [show ofS kind n = [] by unfold ofS; rw [if_neg e1, if_neg e2, if_neg e3, if_neg e4], S8_nil]
  go_enter Tryd.func9, Tryd.ntmps9
  go_wp2_with fail
  go_ret
  exact ⟨rfl, Below.refl _ _⟩
end Go.Proofs.YtmkaijjakcjflaaDoor
