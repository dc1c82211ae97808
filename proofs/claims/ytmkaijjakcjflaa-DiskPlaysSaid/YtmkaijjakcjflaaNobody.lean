/- Layer 7: a disk that is nil. -/
import Derived.Test.YtmkaijjakcjflaaLaw07b
namespace Go.Proofs.Ytmkaijjakcjflaa
open Go.ChangeShapes Go.WideShapes Go.ChangeAt Go.RowKit Go.Deep DiskP

theorem nil_On (w : World) : Calls Try.prog 11 #[.pointer none] w fun e w' => e = .returned (.bool false) ∧ w = w' := by
  go_enter Try.func11, Try.ntmps11
  go_wp2_with fail
  go_ret
  exact ⟨rfl, rfl⟩
theorem nil_find (nm : ByteArray) (w : World) : Calls Try.prog 34 #[.pointer none, .string nm] w fun e w' => e = .returned (.tuple #[.int .i64 0, .bool false]) ∧ w = w' := by
  go_enter Try.func34, Try.ntmps34
  go_wp2_with fail
  go_ret2
  exact ⟨rfl, rfl⟩
theorem nil_Read (nm : ByteArray) (w : World) : Calls Try.prog 12 #[.pointer none, .string nm] w fun e w' => e = .returned (.tuple #[.string ⟨#[]⟩, .int .i64 9]) ∧ w = w' := by
  go_enter Try.func12, Try.ntmps12
  go_wp2_with (first
    | (go_at_call 34; (with_reducible refine (nil_find _ _).mono ?_); rintro e w1 ⟨rfl, rfl⟩)
    | (go_at_call 11; (with_reducible refine (nil_On _).mono ?_); rintro e w1 ⟨rfl, rfl⟩))
  go_ret2
  exact ⟨rfl, rfl⟩
theorem nil_Sure (nm : ByteArray) (w : World) : Calls Try.prog 22 #[.pointer none, .string nm] w fun e w' => e = .returned (.int .i64 0) ∧ w = w' := by
  go_enter Try.func22, Try.ntmps22
  go_wp2_with (go_at_call 34; (with_reducible refine (nil_find _ _).mono ?_); rintro e w1 ⟨rfl, rfl⟩)
  go_ret
  exact ⟨rfl, rfl⟩
theorem nil_Names (w : World) : Calls Try.prog 19 #[.pointer none] w fun e w' => e = .returned (.slice none 0 0) ∧ w = w' := by
  go_enter Try.func19, Try.ntmps19
  go_wp2_with fail
  go_ret
  exact ⟨rfl, rfl⟩
theorem nil_Used (w : World) : Calls Try.prog 16 #[.pointer none] w fun e w' => e = .returned (.int .i64 0) ∧ w = w' := by
  go_enter Try.func16, Try.ntmps16
  go_wp2_with fail
  go_ret
  exact ⟨rfl, rfl⟩
theorem nil_Ops (w : World) : Calls Try.prog 15 #[.pointer none] w fun e w' => e = .returned (.int .i64 0) ∧ w = w' := by
  go_enter Try.func15, Try.ntmps15
  go_wp2_with fail
  go_ret
  exact ⟨rfl, rfl⟩
theorem nil_Fuse (n : Int) (w : World) : Calls Try.prog 25 #[.pointer none, .int .i64 n] w fun e w' => e = .returned (.tuple #[]) ∧ Below w.heap.size w w' := by
  go_enter Try.func25, Try.ntmps25
  go_wp2_with fail
  go_end0
  exact ⟨rfl, Below.refl _ _⟩
theorem nil_Crash (w : World) : Calls Try.prog 30 #[.pointer none] w fun e w' => e = .returned (.tuple #[]) ∧ Below w.heap.size w w' := by
  go_enter Try.func30, Try.ntmps30
  go_wp2_with fail
  go_end0
  exact ⟨rfl, Below.refl _ _⟩
theorem nil_Up (v : Value) (w : World) : Calls Try.prog 27 #[.pointer none, v] w fun e w' => e = .returned (.tuple #[]) ∧ Below w.heap.size w w' := by
  go_enter Try.func27, Try.ntmps27
  go_wp2_with fail
  refine bodyPost_ret (results_none rfl _ _ _) rfl ?_
  exact ⟨rfl, Below.refl _ _⟩
theorem nil_Append (nm s : ByteArray) (w : World) : Calls Try.prog 23 #[.pointer none, .string nm, .string s] w fun e w' => e = .returned (.int .i64 9) ∧ Below w.heap.size w w' := by
  go_enter Try.func23, Try.ntmps23
  go_wp2_with (first
    | (go_at_call 34; (with_reducible refine (nil_find _ _).mono ?_); rintro e w1 ⟨rfl, rfl⟩)
    | (go_at_call 11; (with_reducible refine (nil_On _).mono ?_); rintro e w1 ⟨rfl, rfl⟩))
  go_ret
  exact ⟨rfl, Below.refl _ _⟩
theorem nil_Sync (nm : ByteArray) (w : World) : Calls Try.prog 24 #[.pointer none, .string nm] w fun e w' => e = .returned (.int .i64 9) ∧ Below w.heap.size w w' := by
  go_enter Try.func24, Try.ntmps24
  go_wp2_with (first
    | (go_at_call 34; (with_reducible refine (nil_find _ _).mono ?_); rintro e w1 ⟨rfl, rfl⟩)
    | (go_at_call 11; (with_reducible refine (nil_On _).mono ?_); rintro e w1 ⟨rfl, rfl⟩))
  go_ret
  exact ⟨rfl, by (repeat (first | assumption | exact Below.refl _ _ | refine below_step (by assumption) ?_ | refine below_alloc' _ ?_ | refine below_drewN ?_ _ | refine Below.drew ?_))⟩
theorem nil_Rename (nm s : ByteArray) (w : World) : Calls Try.prog 28 #[.pointer none, .string nm, .string s] w fun e w' => e = .returned (.int .i64 9) ∧ Below w.heap.size w w' := by
  go_enter Try.func28, Try.ntmps28
  go_wp2_with (first
    | (go_at_call 34; (with_reducible refine (nil_find _ _).mono ?_); rintro e w1 ⟨rfl, rfl⟩)
    | (go_at_call 11; (with_reducible refine (nil_On _).mono ?_); rintro e w1 ⟨rfl, rfl⟩))
  go_ret
  exact ⟨rfl, by (repeat (first | assumption | exact Below.refl _ _ | refine below_step (by assumption) ?_ | refine below_alloc' _ ?_ | refine below_drewN ?_ _ | refine Below.drew ?_))⟩
theorem nil_Remove (nm : ByteArray) (w : World) : Calls Try.prog 26 #[.pointer none, .string nm] w fun e w' => e = .returned (.int .i64 9) ∧ Below w.heap.size w w' := by
  go_enter Try.func26, Try.ntmps26
  go_wp2_with (first
    | (go_at_call 34; (with_reducible refine (nil_find _ _).mono ?_); rintro e w1 ⟨rfl, rfl⟩)
    | (go_at_call 11; (with_reducible refine (nil_On _).mono ?_); rintro e w1 ⟨rfl, rfl⟩))
  go_ret
  exact ⟨rfl, by (repeat (first | assumption | exact Below.refl _ _ | refine below_step (by assumption) ?_ | refine below_alloc' _ ?_ | refine below_drewN ?_ _ | refine Below.drew ?_))⟩
theorem nil_Cut (nm : ByteArray) (n : Int) (w : World) : Calls Try.prog 29 #[.pointer none, .string nm, .int .i64 n] w fun e w' => e = .returned (.int .i64 9) ∧ Below w.heap.size w w' := by
  go_enter Try.func29, Try.ntmps29
  go_wp2_with (first
    | (go_at_call 34; (with_reducible refine (nil_find _ _).mono ?_); rintro e w1 ⟨rfl, rfl⟩)
    | (go_at_call 11; (with_reducible refine (nil_On _).mono ?_); rintro e w1 ⟨rfl, rfl⟩))
  go_ret
  exact ⟨rfl, by (repeat (first | assumption | exact Below.refl _ _ | refine below_step (by assumption) ?_ | refine below_alloc' _ ?_ | refine below_drewN ?_ _ | refine Below.drew ?_))⟩

/-- what a disk that is none answers to an act -/
def noAns (kind : Int) : Int := if 1 ≤ kind ∧ kind ≤ 5 then 9 else 0
set_option maxRecDepth 100000 in
set_option maxHeartbeats 4000000 in
theorem nil_do (x : Ac) (w : World) : Calls Try.prog 9 #[.pointer none, .agg #[.int .i64 x.kind, .string x.nm, .string x.to_, .string x.s, .int .i64 x.n, .slice x.Ak x.ks.length x.ck]] w fun e w' => e = .returned (.int .i64 (noAns x.kind)) ∧ Below w.heap.size w w' := by
  obtain ⟨kind, nm, to_, s, n, Ak, ck, ks⟩ := x
  simp only
  by_cases e1 : kind = 1
  · subst e1
    rw [show noAns 1 = 9 by decide]
    go_enter Try.func9, Try.ntmps9
    go_wp2_with (go_at_call 23; (with_reducible refine (nil_Append _ _ _).mono ?_); rintro e w3 ⟨rfl, b3⟩)
    go_ret
    exact ⟨rfl, by (repeat (first | assumption | exact Below.refl _ _ | refine below_step (by assumption) ?_ | refine below_alloc' _ ?_ | refine below_drewN ?_ _ | refine Below.drew ?_))⟩
  by_cases e2 : kind = 2
  · subst e2
    rw [show noAns 2 = 9 by decide]
    go_enter Try.func9, Try.ntmps9
    go_wp2_with (go_at_call 24; (with_reducible refine (nil_Sync _ _).mono ?_); rintro e w3 ⟨rfl, b3⟩)
    go_ret
    exact ⟨rfl, by (repeat (first | assumption | exact Below.refl _ _ | refine below_step (by assumption) ?_ | refine below_alloc' _ ?_ | refine below_drewN ?_ _ | refine Below.drew ?_))⟩
  by_cases e3 : kind = 3
  · subst e3
    rw [show noAns 3 = 9 by decide]
    go_enter Try.func9, Try.ntmps9
    go_wp2_with (go_at_call 28; (with_reducible refine (nil_Rename _ _ _).mono ?_); rintro e w3 ⟨rfl, b3⟩)
    go_ret
    exact ⟨rfl, by (repeat (first | assumption | exact Below.refl _ _ | refine below_step (by assumption) ?_ | refine below_alloc' _ ?_ | refine below_drewN ?_ _ | refine Below.drew ?_))⟩
  by_cases e4 : kind = 4
  · subst e4
    rw [show noAns 4 = 9 by decide]
    go_enter Try.func9, Try.ntmps9
    go_wp2_with (go_at_call 26; (with_reducible refine (nil_Remove _ _).mono ?_); rintro e w3 ⟨rfl, b3⟩)
    go_ret
    exact ⟨rfl, by (repeat (first | assumption | exact Below.refl _ _ | refine below_step (by assumption) ?_ | refine below_alloc' _ ?_ | refine below_drewN ?_ _ | refine Below.drew ?_))⟩
  by_cases e5 : kind = 5
  · subst e5
    rw [show noAns 5 = 9 by decide]
    go_enter Try.func9, Try.ntmps9
    go_wp2_with (go_at_call 29; (with_reducible refine (nil_Cut _ _ _).mono ?_); rintro e w3 ⟨rfl, b3⟩)
    go_ret
    exact ⟨rfl, by (repeat (first | assumption | exact Below.refl _ _ | refine below_step (by assumption) ?_ | refine below_alloc' _ ?_ | refine below_drewN ?_ _ | refine Below.drew ?_))⟩
  have hna : noAns kind = 0 := by unfold noAns; rw [if_neg (by omega)]
  rw [hna]
  clear hna
  by_cases e6 : kind = 6
  · subst e6
    go_enter Try.func9, Try.ntmps9
    go_wp2_with (go_at_call 25; (with_reducible refine (nil_Fuse _ _).mono ?_); rintro e w3 ⟨rfl, b3⟩)
    go_ret
    exact ⟨rfl, by (repeat (first | assumption | exact Below.refl _ _ | refine below_step (by assumption) ?_ | refine below_alloc' _ ?_ | refine below_drewN ?_ _ | refine Below.drew ?_))⟩
  by_cases e7 : kind = 7
  · subst e7
    go_enter Try.func9, Try.ntmps9
    go_wp2_with (go_at_call 30; (with_reducible refine (nil_Crash _).mono ?_); rintro e w3 ⟨rfl, b3⟩)
    go_ret
    exact ⟨rfl, by (repeat (first | assumption | exact Below.refl _ _ | refine below_step (by assumption) ?_ | refine below_alloc' _ ?_ | refine below_drewN ?_ _ | refine Below.drew ?_))⟩
  by_cases e8 : kind = 8
  · subst e8
    go_enter Try.func9, Try.ntmps9
    go_wp2_with (go_at_call 27; (with_reducible refine (nil_Up _ _).mono ?_); rintro e w3 ⟨rfl, b3⟩)
    go_ret
    exact ⟨rfl, by (repeat (first | assumption | exact Below.refl _ _ | refine below_step (by assumption) ?_ | refine below_alloc' _ ?_ | refine below_drewN ?_ _ | refine Below.drew ?_))⟩
  go_enter Try.func9, Try.ntmps9
  go_wp2_with fail
  go_ret
  exact ⟨rfl, by (repeat (first | assumption | exact Below.refl _ _ | refine below_step (by assumption) ?_ | refine below_alloc' _ ?_ | refine below_drewN ?_ _ | refine Below.drew ?_))⟩
/-- a disk that nobody made -/
def zd (f : Int) : DS := ⟨[], 0, false, false, f, 0⟩
theorem zd_ok {f : Int} (h : -1 ≤ f ∧ f ≤ 9223372036854775807) : OkD (zd f) := ⟨by simp [zd, Sorted], by simp [zd], by simp [zd], by simp [zd, used], by simp [zd], by simp [zd, used], h, by simp [zd]⟩
def ZPost (z : Nat) (v : Value) (w : World) (e : Ending) (w' : World) : Prop := e = .returned v ∧ (∃ f, (-1 ≤ f ∧ f ≤ 9223372036854775807) ∧ Dk z none 0 (zd f) w') ∧ RKeep z none w w'
theorem zd_Up (z : Nat) (f : Int) (hf : -1 ≤ f ∧ f ≤ 9223372036854775807) (v : Value) (w : World) (h : Dk z none 0 (zd f) w) : Calls Try.prog 27 #[.pointer (some ⟨z, 0, none⟩), v] w (ZPost z (.tuple #[]) w) := by
  have x2 := bx_cells h.box 2
  simp only [zd] at x2
  go_enter Try.func27, Try.ntmps27
  go_wp2_with fail
  refine bodyPost_ret (results_none rfl _ _ _) rfl ?_
  exact ⟨rfl, ⟨f, hf, h⟩, RKeep.of_below (Below.refl _ _) (Nat.le_of_lt h.lt)⟩
theorem zd_Fuse (z : Nat) (f n : Int) (w : World) (h : Dk z none 0 (zd f) w) (hn : n ≤ 9223372036854775807) : Calls Try.prog 25 #[.pointer (some ⟨z, 0, none⟩), .int .i64 n] w (ZPost z (.tuple #[]) w) := by
  have x4 := bx_cells h.box 4
  have f4 := bx_free h.box 4
  have hp := h.set_fuse (max n (-1))
  go_enter Try.func25, Try.ntmps25
  go_wp2_with fail
  go_end0
  exact ⟨rfl, ⟨max n (-1), by omega, hp⟩, rkeep_set _⟩
theorem zd_Crash (z : Nat) (f : Int) (w : World) (h : Dk z none 0 (zd f) w) : Calls Try.prog 30 #[.pointer (some ⟨z, 0, none⟩)] w (ZPost z (.tuple #[]) w) := by
  have x3 := bx_cells h.box 3
  have f3 := bx_free h.box 3
  have h2 := h.set_on false
  have x4 := bx_cells h2.box 4
  have f4 := bx_free h2.box 4
  have h3 := h2.set_fuse (-1)
  go_enter Try.func30, Try.ntmps30
  go_wp2_with fail
  go_end0
  exact ⟨rfl, ⟨-1, by omega, h3⟩, (rkeep_set _).trans (rkeep_set _)⟩
theorem zd_find (z : Nat) (f : Int) (nm : ByteArray) (w : World) (h : Dk z none 0 (zd f) w) : Calls Try.prog 34 #[.pointer (some ⟨z, 0, none⟩), .string nm] w fun e w' => e = .returned (.tuple #[.int .i64 0, .bool false]) ∧ Below w.heap.size w w' := disk_find z none 0 (zd f) nm (by simp [zd, Sorted]) (by simp [zd]) w h
theorem zd_On (z : Nat) (f : Int) (w : World) (h : Dk z none 0 (zd f) w) : Calls Try.prog 11 #[.pointer (some ⟨z, 0, none⟩)] w fun e w' => e = .returned (.bool false) ∧ w = w' := disk_On z none 0 (zd f) w h
theorem zd_Append (z : Nat) (f : Int) (nm s : ByteArray) (w : World) (h : Dk z none 0 (zd f) w) : Calls Try.prog 23 #[.pointer (some ⟨z, 0, none⟩), .string nm, .string s] w fun e w' => e = .returned (.int .i64 9) ∧ Below w.heap.size w w' := by
  have HF := Lib.hid (zd_find z f nm w h)
  have HD := Lib.hid h
  clear h
  go_enter Try.func23, Try.ntmps23
  go_wp2_with (first
    | (go_at_call 34; (with_reducible refine (HF.out).mono ?_); rintro e w1 ⟨rfl, b1⟩; have hd1 := HD.out.kept b1)
    | (go_at_call 11; (with_reducible refine (zd_On _ _ _ hd1).mono ?_); rintro e w2 ⟨rfl, rfl⟩))
  go_ret
  exact ⟨rfl, b1⟩
theorem zd_Sync (d : Nat) (f : Int) (nm : ByteArray) (w : World) (h : Dk d none 0 (zd f) w) : Calls Try.prog 24 #[.pointer (some ⟨d, 0, none⟩), .string nm] w fun e w' => e = .returned (.int .i64 9) ∧ Below w.heap.size w w' := by
  have HF := Lib.hid (zd_find d f nm (w.alloc (.cells #[.pointer (some ⟨d, 0, none⟩)] 25)) (h.kept (alloc_kept w _)))
  have hb0 := heap_alloc_new w (.cells #[.pointer (some ⟨d, 0, none⟩)] 25)
  have HB0 := Lib.hid (fun (W : World) (hb : Below (w.heap.size + 1) (w.alloc (.cells #[.pointer (some ⟨d, 0, none⟩)] 25)) W) => (hb.block w.heap.size (by omega)).trans hb0)
  have HD0 := Lib.hid (fun (W : World) (hb : Below (w.heap.size + 1) (w.alloc (.cells #[.pointer (some ⟨d, 0, none⟩)] 25)) W) => ((h.kept (alloc_kept w (.cells #[.pointer (some ⟨d, 0, none⟩)] 25))).kept (by rw [World.size_alloc]; exact hb) : Dk d none 0 (zd f) W))
  have hsz : (w.alloc (.cells #[.pointer (some ⟨d, 0, none⟩)] 25)).heap.size = w.heap.size + 1 := World.size_alloc w _
  have hdl := h.lt
  have hB : ∀ w1, Below (w.heap.size + 1) (w.alloc (.cells #[.pointer (some ⟨d, 0, none⟩)] 25)) w1 → ∀ u : Value, Below (w.heap.size + 1) (w.alloc (.cells #[.pointer (some ⟨d, 0, none⟩)] 25)) (w1.alloc (.cells #[u] 3)) := fun w1 b1 u =>
    b1.alloc (by have := b1.size; rw [hsz] at this; exact this) _
  have HBB := Lib.hid hB
  clear hB h hb0
  go_enter Try.func24, Try.ntmps24
  go_wp2_with (first
    | (go_at_call 34; (with_reducible refine (HF.out).mono ?_); rintro e w1 ⟨rfl, b1⟩; rw [hsz] at b1; have e0 := bx_cells (HB0.out _ b1) 0; have bB := HBB.out _ b1 (.int .i64 0); have e1 := bx_cells (HB0.out _ bB) 0; have hd1 := HD0.out _ bB)
    | (go_at_call 11; (with_reducible refine (zd_On _ _ _ hd1).mono ?_); rintro e w2 ⟨rfl, rfl⟩))
  go_ret
  exact ⟨rfl, (alloc_kept w _).trans (bB.mono (by omega))⟩
theorem zd_Remove (d : Nat) (f : Int) (nm : ByteArray) (w : World) (h : Dk d none 0 (zd f) w) : Calls Try.prog 26 #[.pointer (some ⟨d, 0, none⟩), .string nm] w fun e w' => e = .returned (.int .i64 9) ∧ Below w.heap.size w w' := by
  obtain ⟨hsz, hb0, hb1, hbw⟩ := two_facts w d nm
  have hd0 := h.kept hbw
  have HF := Lib.hid (zd_find d f nm (two w d nm) hd0)
  have hdl := h.lt
  have e0 := bx_cells hb0 0
  have e1 := bx_cells hb1 0
  have HB := Lib.hid (fun (W : World) (b : Below (two w d nm).heap.size (two w d nm) W) => And.intro (bx_kept hb0 b) (And.intro (bx_kept hb1 b) (hd0.kept b)))
  clear h hb0 hb1 hd0
  generalize hW : two w d nm = W0 at HF HB e0 e1 hbw hsz
  unfold two at hW
  go_enter Try.func26, Try.ntmps26
  go_wp2_with (first
    | (go_at_call 34; (with_reducible refine (HF.out).mono ?_); rintro e w1 ⟨rfl, b1⟩; obtain ⟨j0, j1, hd1⟩ := HB.out _ b1; have k0 := bx_cells j0 0; have k1 := bx_cells j1 0)
    | (go_at_call 11; (with_reducible refine (zd_On _ _ _ hd1).mono ?_); rintro e w2 ⟨rfl, rfl⟩))
  go_ret
  exact ⟨rfl, hbw.trans (b1.mono hbw.size)⟩
theorem zd_Rename (d : Nat) (f : Int) (nm to_ : ByteArray) (w : World) (h : Dk d none 0 (zd f) w) : Calls Try.prog 28 #[.pointer (some ⟨d, 0, none⟩), .string nm, .string to_] w fun e w' => e = .returned (.int .i64 9) ∧ Below w.heap.size w w' := by
  obtain ⟨hb0, hb1, hb2, hbw⟩ := three_facts w d nm to_
  have hd0 := h.kept hbw
  have HF := Lib.hid (zd_find d f nm (three w d nm to_) hd0)
  have hdl := h.lt
  have e0 := bx_cells hb0 0
  have e1 := bx_cells hb1 0
  have HB := Lib.hid (fun (W : World) (b : Below (three w d nm to_).heap.size (three w d nm to_) W) => And.intro (bx_kept hb0 b) (And.intro (bx_kept hb1 b) (hd0.kept b)))
  clear h hb0 hb1 hb2 hd0
  generalize hW : three w d nm to_ = W0 at HF HB e0 e1 hbw
  unfold three two at hW
  go_enter Try.func28, Try.ntmps28
  go_wp2_with (first
    | (go_at_call 34; (with_reducible refine (HF.out).mono ?_); rintro e w1 ⟨rfl, b1⟩; obtain ⟨j0, j1, hd1⟩ := HB.out _ b1; have k0 := bx_cells j0 0; have k1 := bx_cells j1 0)
    | (go_at_call 11; (with_reducible refine (zd_On _ _ _ hd1).mono ?_); rintro e w2 ⟨rfl, rfl⟩))
  go_ret
  exact ⟨rfl, hbw.trans (b1.mono hbw.size)⟩
theorem zd_Cut (d : Nat) (f : Int) (nm : ByteArray) (n : Int) (w : World) (h : Dk d none 0 (zd f) w) : Calls Try.prog 29 #[.pointer (some ⟨d, 0, none⟩), .string nm, .int .i64 n] w fun e w' => e = .returned (.int .i64 9) ∧ Below w.heap.size w w' := by
  obtain ⟨hsz, hb0, hb1, hbw⟩ := twoI_facts w d n
  have hd0 := h.kept hbw
  have HF := Lib.hid (zd_find d f nm (twoI w d n) hd0)
  have hdl := h.lt
  have e0 := bx_cells hb0 0
  have e1 := bx_cells hb1 0
  have HB := Lib.hid (fun (W : World) (b : Below (twoI w d n).heap.size (twoI w d n) W) => And.intro (bx_kept hb0 b) (And.intro (bx_kept hb1 b) (hd0.kept b)))
  have HBA := Lib.hid (fun (W : World) (u : Value) (b : Below (twoI w d n).heap.size (twoI w d n) W) => (b.alloc b.size (.cells #[u] 3) : Below (twoI w d n).heap.size (twoI w d n) (W.alloc (.cells #[u] 3))))
  clear h hb0 hb1 hd0
  generalize hW : twoI w d n = W0 at HF HB HBA e0 e1 hbw hsz
  unfold twoI at hW
  go_enter Try.func29, Try.ntmps29
  go_wp2_with (first
    | (go_at_call 34; (with_reducible refine (HF.out).mono ?_); rintro e w1 ⟨rfl, b1⟩; have bA := HBA.out _ (.int .i64 0) b1; obtain ⟨i0, i1, _⟩ := HB.out _ b1; have g0 := bx_cells i0 0; have g1 := bx_cells i1 0; obtain ⟨j0, j1, hd1⟩ := HB.out _ bA; have k0 := bx_cells j0 0; have k1 := bx_cells j1 0)
    | (go_at_call 11; (with_reducible refine (zd_On _ _ _ hd1).mono ?_); rintro e w2 ⟨rfl, rfl⟩))
  go_ret
  exact ⟨rfl, hbw.trans (bA.mono hbw.size)⟩
theorem zd_Names (z : Nat) (f : Int) (w : World) (h : Dk z none 0 (zd f) w) : Calls Try.prog 19 #[.pointer (some ⟨z, 0, none⟩)] w fun e w' => e = .returned (.slice none 0 0) ∧ Below w.heap.size w w' := by
  have x0 := bx_cells h.box 0
  simp only [zd, List.length_nil] at x0
  go_enter Try.func19, Try.ntmps19
  go_wp2_with fail
  go_loopw [3, 13] (fun vs vi wr => vi = .int .i64 0 ∧ vs = .slice none 0 0 ∧ wr = w) (fun _ _ _ => 0)
  case atStart => exact ⟨rfl, rfl, rfl⟩
  case round =>
    obtain ⟨rfl, rfl, rfl⟩ := hrel
    go_wp2_with fail
    go_ret
    exact ⟨rfl, Below.refl _ _⟩
set_option maxRecDepth 100000 in
set_option maxHeartbeats 4000000 in
theorem zd_do (z : Nat) (f : Int) (hf : -1 ≤ f ∧ f ≤ 9223372036854775807) (x : Ac) (hx : x.Ok) (w : World) (h : Dk z none 0 (zd f) w) :
    Calls Try.prog 9 #[.pointer (some ⟨z, 0, none⟩), .agg #[.int .i64 x.kind, .string x.nm, .string x.to_, .string x.s, .int .i64 x.n, .slice x.Ak x.ks.length x.ck]] w (ZPost z (.int .i64 (noAns x.kind)) w) := by
  obtain ⟨kind, nm, to_, s, n, Ak, ck, ks⟩ := x
  have hnn := hx.n
  unfold I64 at hnn
  simp only at hnn ⊢
  obtain ⟨w2, hw2⟩ : ∃ w2, w2 = w.alloc (.cells #[.int .i64 kind, .string nm, .string to_, .string s, .int .i64 n, .slice Ak ks.length ck] 35) := ⟨_, rfl⟩
  have b2 : Below w.heap.size w w2 := by rw [hw2]; exact alloc_kept w _
  have k2 : RKeep z none w w2 := RKeep.of_below b2 (Nat.le_of_lt h.lt)
  have h2 := h.kept b2
  have hl2 := h2.lt
  have fin : ∀ (v : Value) (e : Ending) (w3 : World), (e = .returned v ∧ Below w2.heap.size w2 w3) → ZPost z v w e w3 := by
    rintro v e w3 ⟨rfl, q⟩
    exact ⟨rfl, ⟨f, hf, h2.kept q⟩, k2.trans (RKeep.of_below q (Nat.le_of_lt hl2))⟩
  have fin2 : ∀ (v : Value) (e : Ending) (w3 : World), ZPost z v w2 e w3 → ZPost z v w e w3 := fun v e w3 h => ⟨h.1, h.2.1, k2.trans h.2.2⟩
  have HA := Lib.hid ((zd_Append z f nm s w2 h2).mono fun e w3 hp => fin _ e w3 hp)
  have HS := Lib.hid ((zd_Sync z f nm w2 h2).mono fun e w3 hp => fin _ e w3 hp)
  have HR := Lib.hid ((zd_Rename z f nm to_ w2 h2).mono fun e w3 hp => fin _ e w3 hp)
  have HD := Lib.hid ((zd_Remove z f nm w2 h2).mono fun e w3 hp => fin _ e w3 hp)
  have HC := Lib.hid ((zd_Cut z f nm n w2 h2).mono fun e w3 hp => fin _ e w3 hp)
  have HF := Lib.hid ((zd_Fuse z f n w2 h2 hnn.2).mono fun e w3 hp => fin2 _ e w3 hp)
  have HX := Lib.hid ((zd_Crash z f w2 h2).mono fun e w3 hp => fin2 _ e w3 hp)
  have HU := Lib.hid ((zd_Up z f hf (.slice Ak ks.length ck) w2 h2).mono fun e w3 hp => fin2 _ e w3 hp)
  have HW2 := Lib.hid hw2
  have HK2 := Lib.hid (And.intro k2 h2)
  clear h2 k2 b2 fin fin2 h hl2
  by_cases e1 : kind = 1
  · subst e1
    rw [show noAns 1 = 9 by decide]
    clear hw2
    go_enter Try.func9, Try.ntmps9
    go_wp2_with (go_at_call 23; rw [← HW2.out]; (with_reducible refine (HA.out).mono ?_); rintro e w3 ⟨rfl, h3, k3⟩)
    go_ret
    exact ⟨rfl, h3, k3⟩
  by_cases e2 : kind = 2
  · subst e2
    rw [show noAns 2 = 9 by decide]
    clear hw2
    go_enter Try.func9, Try.ntmps9
    go_wp2_with (go_at_call 24; rw [← HW2.out]; (with_reducible refine (HS.out).mono ?_); rintro e w3 ⟨rfl, h3, k3⟩)
    go_ret
    exact ⟨rfl, h3, k3⟩
  by_cases e3 : kind = 3
  · subst e3
    rw [show noAns 3 = 9 by decide]
    clear hw2
    go_enter Try.func9, Try.ntmps9
    go_wp2_with (go_at_call 28; rw [← HW2.out]; (with_reducible refine (HR.out).mono ?_); rintro e w3 ⟨rfl, h3, k3⟩)
    go_ret
    exact ⟨rfl, h3, k3⟩
  by_cases e4 : kind = 4
  · subst e4
    rw [show noAns 4 = 9 by decide]
    clear hw2
    go_enter Try.func9, Try.ntmps9
    go_wp2_with (go_at_call 26; rw [← HW2.out]; (with_reducible refine (HD.out).mono ?_); rintro e w3 ⟨rfl, h3, k3⟩)
    go_ret
    exact ⟨rfl, h3, k3⟩
  by_cases e5 : kind = 5
  · subst e5
    rw [show noAns 5 = 9 by decide]
    clear hw2
    go_enter Try.func9, Try.ntmps9
    go_wp2_with (go_at_call 29; rw [← HW2.out]; (with_reducible refine (HC.out).mono ?_); rintro e w3 ⟨rfl, h3, k3⟩)
    go_ret
    exact ⟨rfl, h3, k3⟩
  by_cases e6 : kind = 6
  · subst e6
    rw [show noAns 6 = 0 by decide]
    clear hw2
    go_enter Try.func9, Try.ntmps9
    go_wp2_with (go_at_call 25; rw [← HW2.out]; (with_reducible refine (HF.out).mono ?_); rintro e w3 ⟨rfl, h3, k3⟩)
    go_ret
    exact ⟨rfl, h3, k3⟩
  by_cases e7 : kind = 7
  · subst e7
    rw [show noAns 7 = 0 by decide]
    clear hw2
    go_enter Try.func9, Try.ntmps9
    go_wp2_with (go_at_call 30; rw [← HW2.out]; (with_reducible refine (HX.out).mono ?_); rintro e w3 ⟨rfl, h3, k3⟩)
    go_ret
    exact ⟨rfl, h3, k3⟩
  by_cases e8 : kind = 8
  · subst e8
    rw [show noAns 8 = 0 by decide]
    clear hw2
    go_enter Try.func9, Try.ntmps9
    go_wp2_with (go_at_call 27; rw [← HW2.out]; (with_reducible refine (HU.out).mono ?_); rintro e w3 ⟨rfl, h3, k3⟩)
    go_ret
    exact ⟨rfl, h3, k3⟩
  have hna : noAns kind = 0 := by unfold noAns; rw [if_neg (by omega)]
  rw [hna]
  have hk := HK2.out
  rw [hw2] at hk
  have HK := Lib.hid hk
  clear hk hw2 hna
  go_enter Try.func9, Try.ntmps9
  go_wp2_with fail
  go_ret
  exact ⟨rfl, ⟨f, hf, HK.out.2⟩, HK.out.1⟩
end Go.Proofs.Ytmkaijjakcjflaa
