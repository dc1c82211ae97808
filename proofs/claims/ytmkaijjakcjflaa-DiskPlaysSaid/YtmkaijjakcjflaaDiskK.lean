/- Walks of layer 7 (disk): Sync. -/
import Derived.Test.YtmkaijjakcjflaaDiskJ
namespace Go.Proofs.Ytmkaijjakcjflaa
open Go.ChangeShapes Go.WideShapes Go.ChangeAt Go.RowKit Go.Deep DiskP

theorem blow_fs (S : DS) : (blow S).1.fs = S.fs ∧ (blow S).1.room = S.room ∧ (blow S).1.made = S.made := by
  unfold blow
  split
  · exact ⟨rfl, rfl, rfl⟩
  · split <;> exact ⟨rfl, rfl, rfl⟩
/-- an operation that turns the files, unless it crashes ahead of it -/
def opD (S : DS) (t : List Fl → List Fl) : DS × Int := if (blow S).2 then ((blow S).1, 9) else ({ (blow S).1 with fs := t S.fs }, 0)
def modF (fs : List Fl) (nm : ByteArray) (t : Fl → Fl) : List Fl := match fs[pos fs nm]? with
  | some f => fs.set (pos fs nm) (t f)
  | none => fs
def syncD (S : DS) (nm : ByteArray) : DS × Int :=
  if S.on = false then (S, 9) else if has S.fs nm = false then (S, 7) else opD S fun fs => modF fs nm fun f => { f with su := f.all.size }
theorem disk_op_with (d : Nat) (A : Option Addr) (c : Nat) (S : DS) (hon : S.on = true) (hf : -1 ≤ S.fuse ∧ S.fuse ≤ 9223372036854775807) (ho : 0 ≤ S.ops ∧ S.ops ≤ 1000000000) (g : Nat) (caps : Array Value) (hent : ∀ args w, (callFunc g args).run Try.prog w = .ok (.enter g args) w) (t : List Fl → List Fl) (w : World) (h : Dk d A c S w)
    (hcl : ∀ W, Dk d A c (blow S).1 W → DKeep d w W → Calls Try.prog g caps W (DPost d { (blow S).1 with fs := t S.fs } (.tuple #[]) W)) :
    Calls Try.prog 42 #[.pointer (some ⟨d, 0, none⟩), .func (.func g) #[] caps] w (DPost d (opD S t).1 (.int .i64 (opD S t).2) w) := by
  refine (disk_operate d A c S hon hf ho g caps hent (fun W => ∃ A c, Dk d A c { (blow S).1 with fs := t S.fs } W ∧ DKeep d w W) w h (fun W h1 h2 _ => (hcl W h1 h2).mono ?_)).mono ?_
  · rintro e w' ⟨rfl, A', c', q1, q2⟩
    exact ⟨rfl, A', c', q1, h2.trans q2⟩
  · rintro e w' (⟨h1, rfl, h2, h3⟩ | ⟨h1, rfl, A', c', h2, h3⟩)
    · exact ⟨by unfold opD; rw [if_pos h1], A, c, by unfold opD; rw [if_pos h1]; exact h2, h3⟩
    · exact ⟨by unfold opD; rw [if_neg (by simp [h1])], A', c', by unfold opD; rw [if_neg (by simp [h1])]; exact h2, h3⟩

set_option maxRecDepth 100000 in
theorem disk_Sync1 (d b0 b5 k : Nat) (A : Option Addr) (c : Nat) (S : DS) (f : Fl) (hk : S.fs[k]? = some f) (hl : S.fs.length ≤ 1000) (W : World) (h : Dk d A c S W) (h0 : W.heap[b0]? = some (.cells #[.pointer (some ⟨d, 0, none⟩)] 25 (0, 0))) (h5 : W.heap[b5]? = some (.cells #[.int .i64 k] 3 (0, 0))) :
    Calls Try.prog 44 #[.pointer (some ⟨b0, 0, none⟩), .pointer (some ⟨b5, 0, none⟩)] W (DPost d { S with fs := S.fs.set k { f with su := f.all.size } } (.tuple #[]) W) := by
  have hp := (List.getElem?_eq_some_iff.1 hk).1
  obtain ⟨g, rfl, hdg, hgl⟩ := row_some h.row (by omega)
  have x0 := bx_cells h0 0
  have x5 := bx_cells h5 0
  have y0 := bx_cells h.box 0
  have y1 := h.row.cells (g := g) rfl (k * 3 + 1) (.string f.all) (by rw [fC_at _ k f hk 1 (by omega)]; rfl)
  have y2 := h.row.cells (g := g) rfl (k * 3 + 2) (.int .i64 (f.su : Int)) (by rw [fC_at _ k f hk 2 (by omega)]; rfl)
  rw [fl_add_0] at y1 y2
  have y3 := h.row.frozenAt (k * 3 + 2)
  have hd' : Dk d (some ⟨g, 0, none⟩) c S W.drew := ⟨h.box, h.row.drew⟩
  obtain ⟨q1, q2⟩ := hd'.set_file (k := k) (f' := { f with su := f.all.size }) (r := 2) (u := .int .i64 (f.all.size : Nat)) hk (by omega) rfl
  have q3 : DKeep d W W.drew := DKeep.of_below ((Below.refl _ W).drew) (Nat.le_of_lt h.lt)
  have hi1 : (k : Int) < (S.fs.length : Int) := by omega
  clear hk h hd' h0 h5
  go_enter Try.func44, Try.ntmps44
  go_wp2_with fail
  go_region
  go_wp2_with fail
  go_end0
  exact ⟨rfl, _, c, q1, q3.trans q2⟩
theorem alloc_kept (w : World) (o : Obj) : Below w.heap.size w (w.alloc o) := below_alloc' o (Below.refl _ w)
set_option maxRecDepth 100000 in
set_option maxHeartbeats 4000000 in
theorem disk_Sync (d : Nat) (A : Option Addr) (c : Nat) (S : DS) (hS : OkD S) (nm : ByteArray) (w : World) (h : Dk d A c S w) :
    Calls Try.prog 24 #[.pointer (some ⟨d, 0, none⟩), .string nm] w (DPost d (syncD S nm).1 (.int .i64 (syncD S nm).2) w) := by
  have hl : S.fs.length ≤ 1000 := by have := hS.many; omega
  have HF := Lib.hid (disk_find d A c S nm hS.sorted hl (w.alloc (.cells #[.pointer (some ⟨d, 0, none⟩)] 25)) (h.kept (alloc_kept w _)))
  have HD := Lib.hid h
  have hb0 := heap_alloc_new w (.cells #[.pointer (some ⟨d, 0, none⟩)] 25)
  have HB0 := Lib.hid (fun (W : World) (hb : Below (w.heap.size + 1) (w.alloc (.cells #[.pointer (some ⟨d, 0, none⟩)] 25)) W) => (hb.block w.heap.size (by omega)).trans hb0)
  have HD0 := Lib.hid (fun (W : World) (hb : Below (w.heap.size + 1) (w.alloc (.cells #[.pointer (some ⟨d, 0, none⟩)] 25)) W) => ((h.kept (alloc_kept w (.cells #[.pointer (some ⟨d, 0, none⟩)] 25))).kept (by rw [World.size_alloc]; exact hb) : Dk d A c S W))
  have hsz : (w.alloc (.cells #[.pointer (some ⟨d, 0, none⟩)] 25)).heap.size = w.heap.size + 1 := World.size_alloc w _
  have hdl := h.lt
  have HFO := Lib.hid (And.intro hS.fuse hS.ops)
  have hB : ∀ w1, Below (w.heap.size + 1) (w.alloc (.cells #[.pointer (some ⟨d, 0, none⟩)] 25)) w1 → ∀ u : Value, Below (w.heap.size + 1) (w.alloc (.cells #[.pointer (some ⟨d, 0, none⟩)] 25)) (w1.alloc (.cells #[u] 3)) := fun w1 b1 u =>
    b1.alloc (by have := b1.size; rw [hsz] at this; exact this) _
  have HBB := Lib.hid hB
  unfold syncD
  cases hon : S.on with
  | false =>
    rw [if_pos rfl]
    generalize hp : pos S.fs nm = p at HF
    go_enter Try.func24, Try.ntmps24
    go_wp2_with (first
      | (go_at_call 34; (with_reducible refine (HF.out).mono ?_); rintro e w1 ⟨rfl, b1⟩; rw [hsz] at b1; have e0 := bx_cells (HB0.out _ b1) 0; have bB := HBB.out _ b1 (.int .i64 p); have e1 := bx_cells (HB0.out _ bB) 0; have hd1 := HD0.out _ bB)
      | (go_at_call 11; refine (disk_On d A c S _ hd1).mono ?_; rintro e w2 ⟨rfl, rfl⟩; rw [hon]))
    go_ret
    exact ⟨rfl, A, c, hd1, DKeep.of_below ((alloc_kept w _).trans (bB.mono (by omega))) (Nat.le_of_lt hdl)⟩
  | true =>
    rw [if_neg (by simp)]
    cases hh : has S.fs nm with
    | false =>
      rw [if_pos rfl]
      rw [hh] at HF
      generalize hp : pos S.fs nm = p at HF
      go_enter Try.func24, Try.ntmps24
      go_wp2_with (first
        | (go_at_call 34; (with_reducible refine (HF.out).mono ?_); rintro e w1 ⟨rfl, b1⟩; rw [hsz] at b1; have e0 := bx_cells (HB0.out _ b1) 0; have bB := HBB.out _ b1 (.int .i64 p); have e1 := bx_cells (HB0.out _ bB) 0; have hd1 := HD0.out _ bB)
        | (go_at_call 11; refine (disk_On d A c S _ hd1).mono ?_; rintro e w2 ⟨rfl, rfl⟩; rw [hon]))
      go_ret
      exact ⟨rfl, A, c, hd1, DKeep.of_below ((alloc_kept w _).trans (bB.mono (by omega))) (Nat.le_of_lt hdl)⟩
    | true =>
      rw [if_neg (by simp)]
      rw [hh] at HF
      obtain ⟨f, hf, -⟩ := has_some hh
      have hmod : (modF S.fs nm fun f => { f with su := f.all.size }) = S.fs.set (pos S.fs nm) { f with su := f.all.size } := by unfold modF; rw [hf]
      generalize hp : pos S.fs nm = p at HF hf hmod
      have HOP := Lib.hid (fun (W : World) (b5 : Nat) (hd : Dk d A c S W) (h0 : W.heap[w.heap.size]? = some (.cells #[.pointer (some ⟨d, 0, none⟩)] 25 (0, 0))) (h5 : W.heap[b5]? = some (.cells #[.int .i64 p] 3 (0, 0))) (hb5 : b5 ≠ d) =>
        disk_op_with d A c S hon hS.fuse hS.ops 44 #[.pointer (some ⟨w.heap.size, 0, none⟩), .pointer (some ⟨b5, 0, none⟩)] (enters_of Try.func44 (by kernel_rfl) rfl) (fun fs => modF fs nm fun f => { f with su := f.all.size }) W hd
          (fun X h1 h2 => by
            rw [hmod]
            obtain ⟨q1, _, _⟩ := blow_fs S
            have := disk_Sync1 d w.heap.size b5 p A c (blow S).1 f (by rw [q1]; exact hf) (by rw [q1]; exact hl) X h1 (dkeep_box h2 h0 (by omega) (by decide)) (dkeep_box h2 h5 hb5 (by decide))
            rw [q1] at this
            exact this))
      clear hf hmod hS h hb0 hB
      generalize opD S (fun fs => modF fs nm fun f => { f with su := f.all.size }) = R at HOP ⊢
      go_enter Try.func24, Try.ntmps24
      go_wp2_with (first
        | (go_at_call 34; (with_reducible refine (HF.out).mono ?_); rintro e w1 ⟨rfl, b1⟩; rw [hsz] at b1; have e0 := bx_cells (HB0.out _ b1) 0; have bB := HBB.out _ b1 (.int .i64 p); have e1 := bx_cells (HB0.out _ bB) 0; have hd1 := HD0.out _ bB; have HOP1 := Lib.hid (HOP.out _ w1.heap.size hd1 (HB0.out _ bB) (heap_alloc_new w1 _) (by have := b1.size; rw [hsz] at this; omega)))
        | (go_at_call 11; refine (disk_On d A c S _ hd1).mono ?_; rintro e w2 ⟨rfl, rfl⟩; rw [hon])
        | (go_at_call 42; refine (HOP1.out).mono ?_; rintro e w6 ⟨rfl, A6, c6, hd6, hk6⟩))
      go_ret
      exact ⟨rfl, A6, c6, hd6, (DKeep.of_below ((alloc_kept w _).trans (bB.mono (by omega))) (Nat.le_of_lt hdl)).trans hk6⟩
end Go.Proofs.Ytmkaijjakcjflaa
