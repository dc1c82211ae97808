/- The document's disk (layer 7): what it is in memory; New, Find, Used, Crash, crashes, Read. -/
import Derived.Test.YtmkaijjakcjflaaSure
namespace Go.Proofs.Ytmkaijjakcjflaa
open Go.ChangeShapes Go.WideShapes Go.ChangeAt Go.RowKit Go.Deep DiskP

/-- the document's disk at block x -/
structure Rk (x : Nat) (A : Option Addr) (c : Nat) (S : DS) (w : World) : Prop where
  box : w.heap[x]? = some (.cells #[.slice A S.fs.length c, .int .i64 S.room, .bool S.on, .int .i64 S.fuse, .int .i64 S.ops] 49 (0, 0))
  row : w.ownsRow (x + 1) 54 3 (.slice A S.fs.length c) S.fs.length (S.fs.flatMap fC)
theorem Rk.lt {x : Nat} {A : Option Addr} {c : Nat} {S : DS} {w : World} (h : Rk x A c S w) : x < w.heap.size := bx_lt h.box
theorem Rk.kept {x : Nat} {A : Option Addr} {c : Nat} {S : DS} {w w' : World} (h : Rk x A c S w) (hb : Below w.heap.size w w') : Rk x A c S w' := ⟨bx_kept h.box hb, bx_own_below h.row hb⟩
theorem tk_row_other {w : World} {d n sz j : Nat} {e : TypeId} {v : Value} {xs : List Value} (h : w.ownsRow (d + 1) e sz v n xs) (u : Value) : (w.setCell ⟨d, j, none⟩ u).ownsRow (d + 1) e sz v n xs := dk_row_other h u
theorem Rk.set_on {x : Nat} {A : Option Addr} {c : Nat} {S : DS} {w : World} (h : Rk x A c S w) (b : Bool) : Rk x A c { S with on := b } (w.setCell ⟨x, 2, none⟩ (.bool b)) := ⟨bx_set h.box 2 _, dk_row_other h.row _⟩
theorem Rk.set_fuse {x : Nat} {A : Option Addr} {c : Nat} {S : DS} {w : World} (h : Rk x A c S w) (n : Int) : Rk x A c { S with fuse := n } (w.setCell ⟨x, 3, none⟩ (.int .i64 n)) := ⟨bx_set h.box 3 _, dk_row_other h.row _⟩
theorem Rk.set_ops {x : Nat} {A : Option Addr} {c : Nat} {S : DS} {w : World} (h : Rk x A c S w) (n : Int) : Rk x A c { S with ops := n } (w.setCell ⟨x, 4, none⟩ (.int .i64 n)) := ⟨bx_set h.box 4 _, dk_row_other h.row _⟩
/-- where a file is; the number of files: nowhere -/
def fnd (L : List Fl) (nm : ByteArray) : Nat := L.findIdx fun f => decide (f.nm = nm)
def fndI (L : List Fl) (nm : ByteArray) : Int := if fnd L nm < L.length then (fnd L nm : Nat) else -1
theorem fnd_no {L : List Fl} {nm : ByteArray} (h : ∀ f ∈ L, f.nm ≠ nm) : fndI L nm = -1 := by
  unfold fndI fnd
  rw [if_neg]
  intro hc
  have := List.findIdx_getElem (w := hc)
  exact h _ (List.getElem_mem hc) (by simpa using this)
theorem fnd_yes {L : List Fl} {nm : ByteArray} {k : Nat} {f : Fl} (hk : L[k]? = some f) (hf : f.nm = nm) (h : ∀ g ∈ L.take k, g.nm ≠ nm) : fnd L nm = k := by
  obtain ⟨h1, h2⟩ := List.getElem?_eq_some_iff.1 hk
  unfold fnd
  rw [List.findIdx_eq h1]
  refine ⟨by rw [h2]; simpa using hf, fun j hj => ?_⟩
  have := h (L[j]'(by omega)) (by rw [List.mem_take_iff_getElem]; exact ⟨j, by omega, rfl⟩)
  simpa using this
theorem fndI_yes {L : List Fl} {nm : ByteArray} {k : Nat} {f : Fl} (hk : L[k]? = some f) (hf : f.nm = nm) (h : ∀ g ∈ L.take k, g.nm ≠ nm) : fndI L nm = (k : Nat) := by
  have e := fnd_yes hk hf h
  unfold fndI
  rw [e, if_pos (List.getElem?_eq_some_iff.1 hk).1]

theorem ref7_New (n : Int) (w : World) : Calls Try.prog 13 #[.int .i64 n] w fun e w' => e = .returned (.pointer (some ⟨w.heap.size, 0, none⟩)) ∧ Rk w.heap.size none 0 ⟨[], max n 0, true, true, -1, 0⟩ w' ∧ Below w.heap.size w w' := by
  go_enter Try.func13, Try.ntmps13
  go_wp2_with fail
  go_ret
  exact ⟨rfl, ⟨heap_alloc_new _ _, World.ownsRow_nil _ _ _ _⟩, by (repeat (first | assumption | exact Below.refl _ _ | refine below_step (by assumption) ?_ | refine below_alloc' _ ?_ | refine below_drewN ?_ _ | refine Below.drew ?_))⟩
set_option maxRecDepth 100000 in
theorem ref7_Find (x : Nat) (A : Option Addr) (c : Nat) (S : DS) (nm : ByteArray) (hl : S.fs.length ≤ 1000) (w : World) (h : Rk x A c S w) :
    Calls Try.prog 39 #[.pointer (some ⟨x, 0, none⟩), .string nm] w fun e w' => e = .returned (.int .i64 (fndI S.fs nm)) ∧ w = w' := by
  have x0 := bx_cells h.box 0
  have HR := Lib.hid (RdFl_own h.row)
  clear h
  go_enter Try.func39, Try.ntmps39
  go_wp2_with fail
  go_loopw [5] (fun i wr => ∃ k : Nat, k ≤ S.fs.length ∧ i = .int .i64 k ∧ wr = w ∧ ∀ f ∈ S.fs.take k, f.nm ≠ nm) (fun i _ => S.fs.length - (intOf i).toNat)
  case atStart => exact ⟨0, by omega, rfl, rfl, by simp⟩
  case round =>
    obtain ⟨k, hk, rfl, rfl, hpre⟩ := hrel
    have HPRE := Lib.hid hpre
    clear hpre
    by_cases hlt : k < S.fs.length
    · obtain ⟨f, hk'⟩ : ∃ f, S.fs[k]? = some f := ⟨S.fs[k], List.getElem?_eq_getElem hlt⟩
      obtain ⟨ad, rfl, hadl, c0, c1, c2⟩ := HR.out k f hk'
      have HS := Lib.hid (fl_take hk')
      have HK := Lib.hid hk'
      have hi1 : (k : Int) < (S.fs.length : Int) := by omega
      clear hk'
      obtain ⟨f1, f2, f3⟩ := f
      simp only at c0 c1 c2
      by_cases he : f1 = nm
      · subst he
        have HG := Lib.hid (fndI_yes HK.out rfl HPRE.out)
        go_wp2_with fail
        go_ret
        exact ⟨by rw [HG.out]; rfl, rfl⟩
      · have he2 := str_ne he
        have HE := Lib.hid he
        clear he
        go_wp2_with fail
        refine ⟨⟨k + 1, by omega, by go_num, trivial, ?_⟩, by show S.fs.length - ((k : Int) + 1).toNat < S.fs.length - ((k : Int)).toNat; omega⟩
        rw [HS.out]
        intro q hq
        rcases List.mem_append.1 hq with hq | hq
        · exact HPRE.out q hq
        · rw [List.mem_singleton.1 hq]; exact HE.out
    · have HG := Lib.hid (fnd_no (fun p hp => HPRE.out p (by rwa [List.take_of_length_le (by omega)])))
      go_wp2_with fail
      go_ret
      exact ⟨by rw [HG.out]; rfl, rfl⟩
set_option maxRecDepth 100000 in
theorem ref7_Used (x : Nat) (A : Option Addr) (c : Nat) (S : DS) (hl : S.fs.length ≤ 1000) (hu : used S.fs ≤ 1000000000) (w : World) (h : Rk x A c S w) :
    Calls Try.prog 17 #[.pointer (some ⟨x, 0, none⟩)] w fun e w' => e = .returned (.int .i64 (used S.fs : Nat)) ∧ w = w' := by
  have x0 := bx_cells h.box 0
  have HR := Lib.hid (RdFl_own h.row)
  clear h
  go_enter Try.func17, Try.ntmps17
  go_wp2_with fail
  go_loopw [3, 4] (fun vs vi wr => ∃ k : Nat, k ≤ S.fs.length ∧ vi = .int .i64 k ∧ vs = .int .i64 (used (S.fs.take k) : Nat) ∧ wr = w) (fun _ vi _ => S.fs.length - (intOf vi).toNat)
  case atStart => exact ⟨0, by omega, rfl, rfl, rfl⟩
  case round =>
    obtain ⟨k, hk, rfl, rfl, rfl⟩ := hrel
    by_cases hlt : k < S.fs.length
    · obtain ⟨f, hk'⟩ : ∃ f, S.fs[k]? = some f := ⟨S.fs[k], List.getElem?_eq_getElem hlt⟩
      obtain ⟨ad, rfl, hadl, c0, c1, c2⟩ := HR.out k f hk'
      have hut := used_take hk'
      have hul := used_le S.fs (k + 1)
      have hi1 : (k : Int) < (S.fs.length : Int) := by omega
      have HU := Lib.hid hut
      have hsum : used (S.fs.take k) + f.all.size ≤ 1000000000 := by omega
      clear hk' hut hul
      generalize hq : used (S.fs.take k) = q at *
      go_wp2_with fail
      refine ⟨⟨k + 1, by omega, by go_num, by rw [HU.out]; go_num, trivial⟩, by simp [intOf]; omega⟩
    · obtain rfl : k = S.fs.length := by omega
      go_wp2_with fail
      go_ret
      exact ⟨by rw [List.take_length]; rfl, rfl⟩
/-- what a call that turns the document's disk leaves -/
def RPost (x : Nat) (S : DS) (v : Value) (w : World) (e : Ending) (w' : World) : Prop := e = .returned v ∧ ∃ A c, Rk x A c S w' ∧ TKeep 54 x w w'
theorem ref7_Crash (x : Nat) (A : Option Addr) (c : Nat) (S : DS) (w : World) (h : Rk x A c S w) : Calls Try.prog 37 #[.pointer (some ⟨x, 0, none⟩)] w fun e w' => e = .returned (.tuple #[]) ∧ Rk x A c { S with on := false, fuse := -1 } w' ∧ TKeep 54 x w w' := by
  have x3 := bx_cells h.box 2
  have f3 := bx_free h.box 2
  have h2 := h.set_on false
  have x4 := bx_cells h2.box 3
  have f4 := bx_free h2.box 3
  have h3 := h2.set_fuse (-1)
  go_enter Try.func37, Try.ntmps37
  go_wp2_with fail
  go_end0
  exact ⟨rfl, h3, (TKeep.set _).trans (TKeep.set _)⟩
set_option maxRecDepth 100000 in
theorem ref7_crashes (x : Nat) (A : Option Addr) (c : Nat) (S : DS) (hon : S.on = true) (hf : -1 ≤ S.fuse ∧ S.fuse ≤ 9223372036854775807) (ho : 0 ≤ S.ops ∧ S.ops ≤ 1000000000) (w : World) (h : Rk x A c S w) :
    Calls Try.prog 53 #[.pointer (some ⟨x, 0, none⟩)] w fun e w' => e = .returned (.bool (blow S).2) ∧ Rk x A c (blow S).1 w' ∧ TKeep 54 x w w' := by
  obtain ⟨fs, room, made, on, fuse, ops⟩ := S
  simp only at hon hf ho
  subst hon
  have x5 := bx_cells h.box 4
  have f5 := bx_free h.box 4
  have h1 := h.set_ops (ops + 1)
  have x4 := bx_cells h1.box 3
  have f4 := bx_free h1.box 3
  have k1 := TKeep.set (T := 54) (w := w) (d := x) (j := 4) (.int .i64 (ops + 1))
  simp only at x5 x4 h1
  by_cases h9 : fuse = 0
  · have hb : blow ⟨fs, room, made, true, fuse, ops⟩ = (⟨fs, room, made, false, -1, ops + 1⟩, true) := by unfold blow; simp only; rw [if_neg (by omega), if_pos (by omega)]
    rw [hb]
    subst h9
    have HC := Lib.hid (ref7_Crash x A c _ _ h1)
    go_enter Try.func53, Try.ntmps53
    go_wp2_with (go_at_call 37; refine (HC.out).mono ?_; rintro e w3 ⟨rfl, h3, k3⟩)
    go_ret
    exact ⟨rfl, h3, k1.trans k3⟩
  · have e0 : (fuse == 0) = false := by rw [beq_eq_false_iff_ne]; exact h9
    by_cases h0 : fuse = -1
    · have hb : blow ⟨fs, room, made, true, fuse, ops⟩ = (⟨fs, room, made, true, fuse, ops + 1⟩, false) := by unfold blow; rw [if_pos h0]
      rw [hb]
      subst h0
      go_enter Try.func53, Try.ntmps53
      go_wp2_with fail
      go_ret
      exact ⟨rfl, h1, k1⟩
    · have h2 := h1.set_fuse (fuse - 1)
      have k2 := k1.trans (TKeep.set (T := 54) (w := w.setCell ⟨x, 4, none⟩ (.int .i64 (ops + 1))) (d := x) (j := 3) (.int .i64 (fuse - 1)))
      have hb : blow ⟨fs, room, made, true, fuse, ops⟩ = (⟨fs, room, made, true, fuse - 1, ops + 1⟩, false) := by unfold blow; simp only; rw [if_neg h0, if_neg (by omega)]
      rw [hb]
      have hp : (0 : Int) < fuse := by omega
      clear h0 h9
      simp only at h2
      go_enter Try.func53, Try.ntmps53
      go_wp2_with fail
      go_ret
      exact ⟨rfl, h2, k2⟩
/-- what is read -/
def readX (S : DS) (nm : ByteArray) : ByteArray × Int :=
  if S.on = false then (⟨#[]⟩, 9) else match S.fs[fnd S.fs nm]? with
    | some f => (f.all, 0)
    | none => (⟨#[]⟩, 7)
set_option maxRecDepth 100000 in
theorem ref7_Read (x : Nat) (A : Option Addr) (c : Nat) (S : DS) (nm : ByteArray) (hl : S.fs.length ≤ 1000) (w : World) (h : Rk x A c S w) :
    Calls Try.prog 21 #[.pointer (some ⟨x, 0, none⟩), .string nm] w fun e w' => e = .returned (.tuple #[.string (readX S nm).1, .int .i64 (readX S nm).2]) ∧ w = w' := by
  have HF := Lib.hid (ref7_Find x A c S nm hl w h)
  have x2 := bx_cells h.box 2
  have x0 := bx_cells h.box 0
  have HR := Lib.hid (RdFl_own h.row)
  clear h
  rcases hon : S.on with _ | _
  · have hr : readX S nm = (⟨#[]⟩, 9) := by unfold readX; rw [if_pos hon]
    rw [hr]
    rw [hon] at x2
    go_enter Try.func21, Try.ntmps21
    go_wp2_with (go_at_call 39; (with_reducible refine (HF.out).mono ?_); rintro e w1 ⟨rfl, rfl⟩)
    go_ret2
    exact ⟨rfl, rfl⟩
  · rw [hon] at x2
    by_cases hp : fnd S.fs nm < S.fs.length
    · obtain ⟨f, hk'⟩ : ∃ f, S.fs[fnd S.fs nm]? = some f := ⟨S.fs[fnd S.fs nm], List.getElem?_eq_getElem hp⟩
      have hr : readX S nm = (f.all, 0) := by unfold readX; rw [if_neg (by simp [hon]), hk']
      rw [hr]
      have hfi : fndI S.fs nm = ((fnd S.fs nm : Nat) : Int) := by unfold fndI; rw [if_pos hp]
      rw [hfi] at HF
      obtain ⟨p, hpp⟩ : ∃ p, fnd S.fs nm = p := ⟨_, rfl⟩
      rw [hpp] at HF hk' hp
      obtain ⟨ad, rfl, hadl, c0, c1, c2⟩ := HR.out p f hk'
      have hi1 : (p : Int) < (S.fs.length : Int) := by omega
      clear hk' hfi hpp
      go_enter Try.func21, Try.ntmps21
      go_wp2_with (go_at_call 39; (with_reducible refine (HF.out).mono ?_); rintro e w1 ⟨rfl, rfl⟩)
      go_ret2
      exact ⟨rfl, rfl⟩
    · have hr : readX S nm = (⟨#[]⟩, 7) := by unfold readX; rw [if_neg (by simp [hon]), List.getElem?_eq_none (by omega)]
      rw [hr]
      have hfi : fndI S.fs nm = -1 := by unfold fndI; rw [if_neg hp]
      rw [hfi] at HF
      clear hfi
      go_enter Try.func21, Try.ntmps21
      go_wp2_with (go_at_call 39; (with_reducible refine (HF.out).mono ?_); rintro e w1 ⟨rfl, rfl⟩)
      go_ret2
      exact ⟨rfl, rfl⟩
end Go.Proofs.Ytmkaijjakcjflaa
