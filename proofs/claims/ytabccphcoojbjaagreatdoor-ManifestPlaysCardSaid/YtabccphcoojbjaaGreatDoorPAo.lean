/- Walks of layer 5 (pack): what the writer writes, what the reader reads. -/
import Derived.Test.YtabccphcoojbjaaGreatDoorPAk
import Derived.Test.YtabccphcoojbjaaGreatDoorPAn
import Derived.Test.YtabccphcoojbjaaGreatDoorPAa
namespace Go.Proofs.YtabccphcoojbjaaGreatDoor
open Go.ChangeShapes Go.WideShapes Go.ChangeAt Go.RowKit Go.Deep


theorem grown_below {w w' : World} (hb : Below w.heap.size w w') (row : Option Nat) : w.grownBy w' row := ⟨hb.os, hb.tape, hb.output, hb.size, fun k hk _ => hb.block k hk⟩
theorem grown_trans {w a w' : World} {row : Option Nat} (h : w.grownBy a row) (k : a.grownBy w' row) : w.grownBy w' row :=
  ⟨k.os.trans h.os, k.tape.trans h.tape, k.output.trans h.output, Nat.le_trans h.size k.size, fun j hj hr => (k.block j (Nat.lt_of_lt_of_le hj h.size) hr).trans (h.block j hj hr)⟩
theorem others_below {e : TypeId} {bo : Option Nat} {w w' : World} (hb : Below w.heap.size w w') : Lib.OthersKept e bo w w' := fun k _ hk _ _ => (hb.block k (Array.getElem?_eq_some_iff.1 hk).1).trans hk
theorem bl_ext {a b : ByteArray} (h : a.data.toList = b.data.toList) : a = b := by
  cases a; cases b; simp only [ByteArray.mk.injEq]; exact Array.toList_inj.1 h
theorem bl_take (l : List UInt8) (k : Nat) : (⟨l.toArray⟩ : ByteArray).extract 0 k = ⟨(l.take k).toArray⟩ := bl_ext (by
  rw [ByteArray.data_extract, Array.toList_extract, List.extract]; simp)
theorem bl_drop (l : List UInt8) (k n : Nat) (hn : n = l.length) : (⟨l.toArray⟩ : ByteArray).extract k n = ⟨(l.drop k).toArray⟩ := bl_ext (by
  rw [ByteArray.data_extract, Array.toList_extract, List.extract]
  refine List.take_of_length_le ?_
  simp; omega)
theorem bl_size (l : List UInt8) : (⟨l.toArray⟩ : ByteArray).size = l.length := by show l.toArray.size = _; simp

/-! the writer -/
theorem Wr.below {b : Nat} {l : List UInt8} {w w' : World} (h : Wr b l w) (hb : Below w.heap.size w w') : Wr b l w' := by
  have hk : ∀ p, Lib.BuilderAtF 61 5 b b p (Lib.byteCells l) w → Lib.BuilderAtF 61 5 b b p (Lib.byteCells l) w' := fun p hp => by
    have hlt := hp.lt
    obtain ⟨hB, v, hbk, hown, hne⟩ := hp
    exact ⟨hB, v, (hb.block b hlt).trans hbk, hown.kept (grown_below hb none) (Classical.em _), hne⟩
  rcases h with h | h
  · exact .inl (hk _ h)
  · exact .inr (hk _ h)
theorem Wr.lt {b : Nat} {l : List UInt8} {w : World} (h : Wr b l w) : b < w.heap.size := by
  rcases h with h | h
  · exact h.lt
  · exact h.lt
theorem WrPost.after {b : Nat} {l : List UInt8} {v : Value} {w a w' : World} {e : Ending} (hlt : b < w.heap.size) (hb : Below w.heap.size w a) (h : WrPost b l v a e w') : WrPost b l v w e w' :=
  ⟨h.1, h.2.1, (hb.mono (Nat.le_of_lt hlt)).trans h.2.2.1, (others_below hb).trans h.2.2.2⟩
theorem pack_Num (b : Nat) (l : List UInt8) (n : Int) (hn : I64 n) (w : World) (h : Wr b l w) (hlen : l.length ≤ 100000000) :
    Calls Tryz.prog 28 #[.pointer (some ⟨b, 0, none⟩), .int .i64 n] w (WrPost b (l ++ VariP.putI n) (.tuple #[]) w) := by
  have hp := vari_Put n hn
  have hsz : (putB n).size ≤ 10 := putB_size n
  have HW := Lib.hid (fun w1 (hb : Below w.heap.size w w1) => (pack_put b l (putB n) w1 (h.below hb) (by omega)))
  have hlt := h.lt
  have hl : (putB n).data.toList = VariP.putI n := rfl
  rw [hl] at HW
  generalize putB n = P at hp HW
  have HP := Lib.hid hp
  clear hp h hsz hl
  go_enter Tryz.func28, Tryz.ntmps28
  go_wp2_with (first
    | (go_at_call 61; with_reducible refine (HP.out _).mono ?_; rintro e w1 ⟨rfl, hb1⟩)
    | (go_at_call 60; with_reducible refine (HW.out _ hb1).mono ?_; rintro e w2 ⟨rfl, h2⟩))
  go_end0
  exact WrPost.after hlt hb1 ⟨rfl, h2⟩
theorem text_bytes (s : ByteArray) : (putB (s.size : Int) ++ s).data.toList = PackP.text s.data.toList := by
  rw [ByteArray.data_append, Array.toList_append, putB_pos _ (by omega)]
  rfl
/-! the reader: a block of two cells -/
def Rdr (T : TypeId) (b : Nat) (r : PackP.St) (w : World) : Prop := w.heap[b]? = some (.cells #[.string ⟨r.1.toArray⟩, .int .i64 r.2] T (0, 0))
abbrev RdPost (T : TypeId) (b : Nat) (r : PackP.St) (v : Value) (w : World) (e : Ending) (w' : World) : Prop := e = .returned v ∧ Rdr T b r w' ∧ w.grownBy w' (some b)
section
variable {T : TypeId} {b : Nat} {r : PackP.St} {w : World}
theorem Rdr.lt (h : Rdr T b r w) : b < w.heap.size := (Array.getElem?_eq_some_iff.1 h).1
theorem Rdr.c0 (h : Rdr T b r w) : w.cell? ⟨b, 0, none⟩ = some (.string ⟨r.1.toArray⟩) := by rw [cell_of_row _ _ _ _ T _ h]; rfl
theorem Rdr.c1 (h : Rdr T b r w) : w.cell? ⟨b, 1, none⟩ = some (.int .i64 r.2) := by rw [cell_of_row _ _ _ _ T _ h]; rfl
theorem Rdr.f (h : Rdr T b r w) (j : Nat) : w.frozen? ⟨b, j, none⟩ = false := Lib.frozen_of_heap h j
theorem Rdr.set0 (h : Rdr T b r w) (l : List UInt8) : Rdr T b (l, r.2) (w.setCell ⟨b, 0, none⟩ (.string ⟨l.toArray⟩)) := by
  unfold Rdr at *; simp [World.setCell, Array.getElem?_modify, h]
theorem Rdr.set1 (h : Rdr T b r w) (e : Int) : Rdr T b (r.1, e) (w.setCell ⟨b, 1, none⟩ (.int .i64 e)) := by
  unfold Rdr at *; simp [World.setCell, Array.getElem?_modify, h]
theorem Rdr.new (T : TypeId) (s : ByteArray) (w : World) : Rdr T w.heap.size (s.data.toList, 0) (w.alloc (.cells #[.string s, .int .i64 0] T)) := heap_alloc_new w _
theorem Rdr.kept (h : Rdr T b r w) {w' : World} {row : Option Nat} (hg : w.grownBy w' row) (hne : some b ≠ row) : Rdr T b r w' := (hg.block b h.lt hne).trans h
theorem grown_set (w : World) (b j : Nat) (v : Value) : w.grownBy (w.setCell ⟨b, j, none⟩ v) (some b) := ⟨rfl, rfl, rfl, (by simp [World.setCell]), fun k _ hk => Below.heap_setCell _ _ _ k (fun e => hk (by rw [e]))⟩
end
theorem pack_fail0 (b : Nat) (l : List UInt8) (e : Int) (w : World) (h : Rdr 99 b (l, 0) w) :
    Calls Tryz.prog 91 #[.pointer (some ⟨b, 0, none⟩), .int .i64 e] w (RdPost 99 b (l, e) (.tuple #[]) w) := by
  have c0 := h.c0
  have c1 := h.c1
  have f0 := h.f 0
  have f1 := h.f 1
  go_enter Tryz.func91, Tryz.ntmps91
  go_wp2_with fail
  go_end0
  exact ⟨rfl, h.set1 e, grown_set _ _ _ _⟩
theorem pack_cut (b k : Nat) (l : List UInt8) (er : Int) (hk : k ≤ l.length) (w : World) (h : Rdr 99 b (l, er) w) :
    Calls Tryz.prog 92 #[.pointer (some ⟨b, 0, none⟩), .int .i64 (k : Int)] w (RdPost 99 b (l.drop k, er) (.string ⟨(l.take k).toArray⟩) w) := by
  have c0 := h.c0
  have f0 := h.f 0
  have hT := bl_take l k
  have hD := bl_drop l k l.length rfl
  have hS := bl_size l
  have hP := h.set0 (l.drop k)
  rw [← hD] at hP
  simp only at c0
  generalize (⟨l.toArray⟩ : ByteArray) = S at c0 hT hD hS hP
  have HT := Lib.hid hT
  have HP := Lib.hid hP
  have hi0 : (0 : Int) ≤ (k : Int) := by omega
  have hi1 : (k : Int) ≤ (S.size : Int) := by omega
  clear hT hD hP h
  go_enter Tryz.func92, Tryz.ntmps92
  go_wp2_with fail
  go_ret
  exact ⟨by rw [HT.out]; rfl, HP.out, grown_set _ _ _ _⟩
theorem pack_Err (b : Nat) (r : PackP.St) (w : World) (h : Rdr 99 b r w) :
    Calls Tryz.prog 68 #[.pointer (some ⟨b, 0, none⟩)] w fun e w' => e = .returned (.int .i64 r.2) ∧ w = w' := by
  have c1 := h.c1
  go_enter Tryz.func68, Tryz.ntmps68
  go_wp2_with fail
  go_ret
  exact ⟨rfl, rfl⟩
theorem pack_Err_nil (w : World) :
    Calls Tryz.prog 68 #[.pointer none] w fun e w' => e = .returned (.int .i64 0) ∧ w = w' := by
  go_enter Tryz.func68, Tryz.ntmps68
  go_wp2_with fail
  go_ret
  exact ⟨rfl, rfl⟩
theorem pack_Left (b : Nat) (r : PackP.St) (w : World) (h : Rdr 99 b r w) :
    Calls Tryz.prog 69 #[.pointer (some ⟨b, 0, none⟩)] w fun e w' => e = .returned (.int .i64 (r.1.length : Int)) ∧ w = w' := by
  have c0 := h.c0
  have hS := bl_size r.1
  generalize (⟨r.1.toArray⟩ : ByteArray) = S at c0 hS
  go_enter Tryz.func69, Tryz.ntmps69
  go_wp2_with fail
  go_ret
  exact ⟨rfl, rfl⟩
theorem pack_Left_nil (w : World) :
    Calls Tryz.prog 69 #[.pointer none] w fun e w' => e = .returned (.int .i64 0) ∧ w = w' := by
  go_enter Tryz.func69, Tryz.ntmps69
  go_wp2_with fail
  go_ret
  exact ⟨rfl, rfl⟩

theorem pack_End (b : Nat) (r : PackP.St) (w : World) (h : Rdr 99 b r w) :
    Calls Tryz.prog 35 #[.pointer (some ⟨b, 0, none⟩)] w fun e w' => e = .returned (.int .i64 (PackP.rEnd r)) ∧ w = w' := by
  have HE := Lib.hid (pack_Err b r w h)
  have HL := Lib.hid (pack_Left b r w h)
  obtain ⟨l, er⟩ := r
  unfold PackP.rEnd
  simp only at HE HL ⊢
  clear h
  by_cases he : er = 0
  · subst he
    by_cases hl : l = []
    · subst hl
      rw [if_neg (by simp)]
      go_enter Tryz.func35, Tryz.ntmps35
      go_wp2_with (first
        | (go_at_call 68; with_reducible refine (HE.out).mono ?_; rintro e w1 ⟨rfl, rfl⟩)
        | (go_at_call 69; with_reducible refine (HL.out).mono ?_; rintro e w1 ⟨rfl, rfl⟩))
      go_ret
      exact ⟨rfl, rfl⟩
    · rw [if_pos ⟨rfl, hl⟩]
      have hpos : 0 < l.length := List.length_pos_iff.2 hl
      clear hl
      go_enter Tryz.func35, Tryz.ntmps35
      go_wp2_with (first
        | (go_at_call 68; with_reducible refine (HE.out).mono ?_; rintro e w1 ⟨rfl, rfl⟩)
        | (go_at_call 69; with_reducible refine (HL.out).mono ?_; rintro e w1 ⟨rfl, rfl⟩))
      go_ret
      exact ⟨rfl, rfl⟩
  · rw [if_neg (fun h => he h.1)]
    go_enter Tryz.func35, Tryz.ntmps35
    go_wp2_with (first
      | (go_at_call 68; with_reducible refine (HE.out).mono ?_; rintro e w1 ⟨rfl, rfl⟩)
      | (go_at_call 69; with_reducible refine (HL.out).mono ?_; rintro e w1 ⟨rfl, rfl⟩))
    go_ret
    exact ⟨rfl, rfl⟩
theorem takeF_le (f : Nat) : ∀ k u s, (VariP.takeF f k u s).2.1 ≤ k + s.length := by
  induction f with
  | zero => intro k u s; simp [VariP.takeF]
  | succ f ih =>
    intro k u s
    cases s with
    | nil => simp [VariP.takeF]
    | cons c r =>
      unfold VariP.takeF
      rw [List.length_cons]
      split
      · have := ih (k + 1) (u + c.toNat % 128 * 128 ^ k) r
        omega
      · split
        · simp
        · simp only; omega
theorem take_le' (lim : Nat) (s : List UInt8) : (VariP.take lim s).2.1 ≤ s.length := by
  have := takeF_le lim 0 0 s
  unfold VariP.take
  omega

/-- a number is read, by Take -/
theorem pack_number_Num (b : Nat) (r : PackP.St) (hl : r.1.length ≤ 100000000) (w : World) (h : Rdr 99 b r w) :
    Calls Tryz.prog 66 #[.pointer (some ⟨b, 0, none⟩), .func (.func 67) #[] #[]] w (RdPost 99 b (PackP.rNum r).2 (.int .i64 (PackP.rNum r).1) w) := by
  have HE := Lib.hid (pack_Err b r w h)
  obtain ⟨l, er⟩ := r
  simp only at HE hl
  by_cases he : er = 0
  · subst he
    have ht := vari_Take ⟨l.toArray⟩ (by rw [bl_size]; unfold maxLen; omega)
    rw [show (⟨l.toArray⟩ : ByteArray).data.toList = l from rfl] at ht
    have hspec : PackP.rNum (l, 0) = if (VariP.take 9 l).2.2 ≠ 0 then (0, (l, (VariP.take 9 l).2.2)) else (((VariP.take 9 l).1 : Int), (l.drop (VariP.take 9 l).2.1, 0)) := by
      unfold PackP.rNum
      rw [if_neg (by simp)]
    have herr := VariP.take_err 9 l
    have hlen := take_le' 9 l
    have c0 := h.c0
    simp only at c0
    rw [hspec]
    clear hspec
    unfold tkI at ht
    generalize VariP.take 9 l = tk at ht herr hlen ⊢
    obtain ⟨n, k, e⟩ := tk
    simp only at ht herr hlen ⊢
    by_cases he : e = 0
    · subst he
      rw [if_neg (by simp)]
      have HF := Lib.hid (pack_fail0 b l 0 w h)
      have HC := Lib.hid (fun w1 (h1 : Rdr 99 b (l, 0) w1) => pack_cut b k l 0 hlen w1 h1)
      generalize (⟨l.toArray⟩ : ByteArray) = S at ht c0
      have HT := Lib.hid ht
      clear ht herr h
      go_enter Tryz.func66, Tryz.ntmps66
      go_wp2_with (first
        | (go_at_call 68; with_reducible refine (HE.out).mono ?_; rintro e w1 ⟨rfl, rfl⟩)
        | (go_at_call 67; with_reducible refine (HT.out _).mono ?_; rintro e w1 ⟨rfl, rfl⟩)
        | (go_at_call 91; with_reducible refine (HF.out).mono ?_; rintro e w2 ⟨rfl, h2, g2⟩)
        | (go_at_call 92; with_reducible refine (HC.out _ h2).mono ?_; rintro e w3 ⟨rfl, h3, g3⟩))
      go_ret
      exact ⟨rfl, h3, grown_trans g2 g3⟩
    · obtain ⟨rfl, rfl, _⟩ := herr.resolve_left he
      rw [if_pos he]
      have HF := Lib.hid (pack_fail0 b l e w h)
      have HC := Lib.hid (fun w1 (h1 : Rdr 99 b (l, e) w1) => (show Calls Tryz.prog 92 #[.pointer (some ⟨b, 0, none⟩), .int .i64 0] w1 (RdPost 99 b (l, e) (.string ⟨#[]⟩) w1) from pack_cut b 0 l e (by omega) w1 h1))
      generalize (⟨l.toArray⟩ : ByteArray) = S at ht c0
      have HT := Lib.hid ht
      clear ht herr h hlen
      go_enter Tryz.func66, Tryz.ntmps66
      go_wp2_with (first
        | (go_at_call 68; with_reducible refine (HE.out).mono ?_; rintro e w1 ⟨rfl, rfl⟩)
        | (go_at_call 67; with_reducible refine (HT.out _).mono ?_; rintro e w1 ⟨rfl, rfl⟩)
        | (go_at_call 91; with_reducible refine (HF.out).mono ?_; rintro e w2 ⟨rfl, h2, g2⟩)
        | (go_at_call 92; with_reducible refine (HC.out _ h2).mono ?_; rintro e w3 ⟨rfl, h3, g3⟩))
      go_ret
      exact ⟨rfl, h3, grown_trans g2 g3⟩
  · rw [PackP.rNum_err _ he]
    have hr := h
    clear h
    go_enter Tryz.func66, Tryz.ntmps66
    go_wp2_with (go_at_call 68; with_reducible refine (HE.out).mono ?_; rintro e w1 ⟨rfl, rfl⟩)
    go_ret
    exact ⟨rfl, hr, World.grownBy.refl _ _⟩
theorem pack_Num_at (b : Nat) (r : PackP.St) (hl : r.1.length ≤ 100000000) (w : World) (h : Rdr 99 b r w) :
    Calls Tryz.prog 34 #[.pointer (some ⟨b, 0, none⟩)] w (RdPost 99 b (PackP.rNum r).2 (.int .i64 (PackP.rNum r).1) w) := by
  have HN := Lib.hid (pack_number_Num b r hl w h)
  clear h
  go_enter Tryz.func34, Tryz.ntmps34
  go_wp2_with (go_at_call 66; with_reducible refine (HN.out).mono ?_; rintro e w1 ⟨rfl, h1⟩)
  go_ret
  exact ⟨rfl, h1⟩
end Go.Proofs.YtabccphcoojbjaaGreatDoor
