/- Walks of layer 5 (pack): texts and flags read; a reader that is nil · Walks of layer 5's reference: what its reader reads · Walks of layer 5: flags, ends, parts written and read. -/
import Derived.Test.YtabccphcoojbjaaGreatDoorPAo
import Derived.Lib.SlicesS
import Derived.Test.YtabccphcoojbjaaGreatDoorPAm
namespace Go.Proofs.YtabccphcoojbjaaGreatDoor
open Go.ChangeShapes Go.WideShapes Go.ChangeAt Go.RowKit Go.Deep


theorem pack_New (s : ByteArray) (w : World) :
    Calls Tryz.prog 33 #[.string s] w fun e w' => e = .returned (.pointer (some ⟨w.heap.size, 0, none⟩)) ∧ Rdr 99 w.heap.size (s.data.toList, 0) w' ∧ w.grownBy w' none := by
  have h := Rdr.new 99 s w
  go_enter Tryz.func33, Tryz.ntmps33
  go_wp2_with fail
  go_ret
  exact ⟨rfl, h, World.grownBy_alloc _ _ _⟩
theorem pack_fail (b : Nat) (l : List UInt8) (e : Int) (w : World) (h : Rdr 99 b (l, 0) w) (w0 : World) (hg : w0.grownBy w (some b)) :
    Calls Tryz.prog 91 #[.pointer (some ⟨b, 0, none⟩), .int .i64 e] w fun x w' => x = .returned (.tuple #[]) ∧ Rdr 99 b (l, e) w' ∧ w0.grownBy w' (some b) :=
  (pack_fail0 b l e w h).mono fun _ _ ⟨h1, h2, h3⟩ => ⟨h1, h2, grown_trans hg h3⟩
theorem rd_back {T : TypeId} {b : Nat} {l D : List UInt8} {e : Int} {w w1 : World} (h : Rdr T b (D, e) w1) (hg : w.grownBy w1 (some b)) : Rdr T b (l, e) (w1.setCell ⟨b, 0, none⟩ (.string ⟨l.toArray⟩)) ∧ w.grownBy (w1.setCell ⟨b, 0, none⟩ (.string ⟨l.toArray⟩)) (some b) :=
  ⟨h.set0 l, grown_trans hg (grown_set _ _ _ _)⟩
end Go.Proofs.YtabccphcoojbjaaGreatDoor

namespace Go.Proofs.YtabccphcoojbjaaGreatDoor
open Go.ChangeShapes Go.WideShapes Go.ChangeAt Go.RowKit Go.Deep


theorem ref5_took_err (b : Nat) (r : PackP.St) (he : r.2 ≠ 0) (n k e : Int) (w : World) (h : Rdr 71 b r w) :
    Calls Tryz.prog 71 #[.pointer (some ⟨b, 0, none⟩), .int .i64 n, .int .i64 k, .int .i64 e] w (RdPost 71 b r (.int .i64 0) w) := by
  have c1 := h.c1
  have hne2 : (r.2 != 0) = true := by rw [bne_iff_ne]; exact he
  go_enter Tryz.func71, Tryz.ntmps71
  go_wp2_with fail
  go_ret
  exact ⟨rfl, h, World.grownBy.refl _ _⟩
theorem ref5_took_bad (b : Nat) (l : List UInt8) (n k e : Int) (he : e ≠ 0) (w : World) (h : Rdr 71 b (l, 0) w) :
    Calls Tryz.prog 71 #[.pointer (some ⟨b, 0, none⟩), .int .i64 n, .int .i64 k, .int .i64 e] w (RdPost 71 b (l, e) (.int .i64 0) w) := by
  have c1 := h.c1
  have f1 := h.f 1
  have hne2 : (e != 0) = true := by rw [bne_iff_ne]; exact he
  go_enter Tryz.func71, Tryz.ntmps71
  go_wp2_with fail
  go_ret
  exact ⟨rfl, h.set1 e, grown_set _ _ _ _⟩
theorem ref5_took_ok (b : Nat) (l : List UInt8) (n : Int) (k : Nat) (hk : k ≤ l.length) (w : World) (h : Rdr 71 b (l, 0) w) :
    Calls Tryz.prog 71 #[.pointer (some ⟨b, 0, none⟩), .int .i64 n, .int .i64 (k : Int), .int .i64 0] w (RdPost 71 b (l.drop k, 0) (.int .i64 n) w) := by
  have c0 := h.c0
  have c1 := h.c1
  have f0 := h.f 0
  have hD := bl_drop l k l.length rfl
  have hS := bl_size l
  have hP := h.set0 (l.drop k)
  rw [← hD] at hP
  simp only at c0
  generalize (⟨l.toArray⟩ : ByteArray) = S at c0 hD hS hP
  have HP := Lib.hid hP
  have hi0 : (0 : Int) ≤ (k : Int) := by omega
  have hi1 : (k : Int) ≤ (S.size : Int) := by omega
  clear hD hP h
  go_enter Tryz.func71, Tryz.ntmps71
  go_wp2_with fail
  go_ret
  exact ⟨rfl, HP.out, grown_set _ _ _ _⟩

theorem ref5_Num (b : Nat) (r : PackP.St) (hl : r.1.length ≤ 100000) (w : World) (h : Rdr 71 b r w) :
    Calls Tryz.prog 36 #[.pointer (some ⟨b, 0, none⟩)] w (RdPost 71 b (PackP.rNum r).2 (.int .i64 (PackP.rNum r).1) w) := by
  obtain ⟨l, er⟩ := r
  simp only at hl
  have c0 := h.c0
  simp only at c0
  have ht := ref_Take ⟨l.toArray⟩ (by rw [bl_size]; exact hl)
  rw [show (⟨l.toArray⟩ : ByteArray).data.toList = l from rfl] at ht
  have hlen := take_le' 9 l
  unfold tkI at ht
  by_cases he : er = 0
  · subst he
    have hspec : PackP.rNum (l, 0) = if (VariP.take 9 l).2.2 ≠ 0 then (0, (l, (VariP.take 9 l).2.2)) else (((VariP.take 9 l).1 : Int), (l.drop (VariP.take 9 l).2.1, 0)) := by
      unfold PackP.rNum
      rw [if_neg (by simp)]
    rw [hspec]
    clear hspec
    generalize VariP.take 9 l = tk at ht hlen ⊢
    obtain ⟨n, k, e⟩ := tk
    simp only at ht hlen ⊢
    by_cases he : e = 0
    · subst he
      rw [if_neg (by simp)]
      have HC := Lib.hid (fun x => ref5_took_ok b l x k hlen w h)
      generalize (⟨l.toArray⟩ : ByteArray) = S at ht c0
      have HT := Lib.hid ht
      clear ht h
      go_enter Tryz.func36, Tryz.ntmps36
      go_wp2_with (first
        | (go_at_call 70; with_reducible refine (HT.out _).mono ?_; rintro e w1 ⟨rfl, rfl⟩)
        | (go_at_call 71; with_reducible refine (HC.out _).mono ?_; rintro e w3 ⟨rfl, h3⟩))
      go_ret
      exact ⟨rfl, h3⟩
    · rw [if_pos he]
      have HC := Lib.hid (fun x y => ref5_took_bad b l x y e he w h)
      generalize (⟨l.toArray⟩ : ByteArray) = S at ht c0
      have HT := Lib.hid ht
      clear ht h hlen
      go_enter Tryz.func36, Tryz.ntmps36
      go_wp2_with (first
        | (go_at_call 70; with_reducible refine (HT.out _).mono ?_; rintro e w1 ⟨rfl, rfl⟩)
        | (go_at_call 71; with_reducible refine (HC.out _ _).mono ?_; rintro e w3 ⟨rfl, h3⟩))
      go_ret
      exact ⟨rfl, h3⟩
  · rw [PackP.rNum_err _ he]
    have HC := Lib.hid (fun x y z => ref5_took_err b (l, er) he x y z w h)
    generalize (⟨l.toArray⟩ : ByteArray) = S at ht c0
    have HT := Lib.hid ht
    clear ht h hlen
    go_enter Tryz.func36, Tryz.ntmps36
    go_wp2_with (first
      | (go_at_call 70; with_reducible refine (HT.out _).mono ?_; rintro e w1 ⟨rfl, rfl⟩)
      | (go_at_call 71; with_reducible refine (HC.out _ _ _).mono ?_; rintro e w3 ⟨rfl, h3⟩))
    go_ret
    exact ⟨rfl, h3⟩
end Go.Proofs.YtabccphcoojbjaaGreatDoor

namespace Go.Proofs.YtabccphcoojbjaaGreatDoor
open Go.ChangeShapes Go.WideShapes Go.ChangeAt Go.RowKit Go.Deep

theorem ref5_End (b : Nat) (r : PackP.St) (w : World) (h : Rdr 71 b r w) :
    Calls Tryz.prog 37 #[.pointer (some ⟨b, 0, none⟩)] w fun e w' => e = .returned (.int .i64 (PackP.rEnd r)) ∧ w = w' := by
  obtain ⟨l, er⟩ := r
  have c0 := h.c0
  have c1 := h.c1
  simp only at c0 c1
  unfold PackP.rEnd
  simp only
  clear h
  by_cases he : er = 0
  · subst he
    cases l with
    | nil =>
      rw [if_neg (by simp)]
      go_enter Tryz.func37, Tryz.ntmps37
      go_wp2_with fail
      go_ret
      exact ⟨rfl, rfl⟩
    | cons x l =>
      rw [if_pos ⟨rfl, by simp⟩]
      have hne : (⟨(x :: l).toArray⟩ : ByteArray).toList.isEmpty = false := by
        rw [ByteArray.toList_eq]; rfl
      generalize (⟨(x :: l).toArray⟩ : ByteArray) = S at c0 hne
      go_enter Tryz.func37, Tryz.ntmps37
      go_wp2_with fail
      go_ret
      exact ⟨rfl, rfl⟩
  · rw [if_neg (fun h => he h.1)]
    have hne : (er == 0) = false := by rw [beq_eq_false_iff_ne]; exact he
    go_enter Tryz.func37, Tryz.ntmps37
    go_wp2_with fail
    go_ret
    exact ⟨rfl, rfl⟩

/-- a part's value -/
def ptV (p : PackP.Part) : Value := .agg #[.int .i64 p.kind, .int .i64 p.n, .string ⟨p.s.toArray⟩]
def PtOk (p : PackP.Part) : Prop := I64 p.kind ∧ I64 p.n ∧ p.s.length ≤ 300
/-! the law's own writing and reading of parts -/
theorem WrPost.behind {b : Nat} {l : List UInt8} {v : Value} {w : World} {e : Ending} {w' : World} (o : Obj) (hlt : b < w.heap.size) (h : WrPost b l v (w.alloc o) e w') : WrPost b l v w e w' :=
  WrPost.after hlt ((Below.refl _ w).alloc (Nat.le_refl _) o) h
end Go.Proofs.YtabccphcoojbjaaGreatDoor
