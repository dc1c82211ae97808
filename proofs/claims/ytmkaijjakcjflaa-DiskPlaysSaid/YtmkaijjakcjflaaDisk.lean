/- Walks of layer 7 (disk): what a disk is in memory; New, On, Ops, Fuse, Crash, blows. -/
import Derived.Test.YtmkaijjakcjflaaDiskP
import Derived.Test.YtmkaijjakcjflaaKit
import Derived.Test.YtmkaijjakcjflaaRegion
import Derived.Test.YtmkaijjakcjflaaAppend
namespace Go.Proofs.Ytmkaijjakcjflaa
open Go.ChangeShapes Go.WideShapes Go.ChangeAt Go.RowKit Go.Deep DiskP

theorem bx_cells {B : Nat} {T : TypeId} {cs : Array Value} {w : World} (h : w.heap[B]? = some (.cells cs T (0, 0))) : ∀ j, w.cell? ⟨B, j, none⟩ = cs[j]? := fun j => by rw [cell_of_row _ _ _ _ T _ h]
theorem bx_set {w : World} {B : Nat} {T : TypeId} {cs : Array Value} {fr : Nat × Nat} (h : w.heap[B]? = some (.cells cs T fr)) (j : Nat) (v : Value) : (w.setCell ⟨B, j, none⟩ v).heap[B]? = some (.cells (cs.setIfInBounds j v) T fr) := by
  simp [World.setCell, Array.getElem?_modify, h]
theorem bx_lt {w : World} {B : Nat} {o : Obj} (h : w.heap[B]? = some o) : B < w.heap.size := (Array.getElem?_eq_some_iff.1 h).1
theorem bx_free {w : World} {B : Nat} {T : TypeId} {cs : Array Value} (h : w.heap[B]? = some (.cells cs T (0, 0))) : ∀ j, w.frozen? ⟨B, j, none⟩ = false := fun j => by simp [World.frozen?, h]
theorem bx_kept {w w' : World} {b : Nat} {o : Obj} (h : w.heap[b]? = some o) (hb : Below w.heap.size w w') : w'.heap[b]? = some o := (hb.block b (bx_lt h)).trans h
theorem bx_own_below {w w' : World} {base n sz : Nat} {e : TypeId} {v : Value} {xs : List Value} (h : w.ownsRow base e sz v n xs) (hb : Below w.heap.size w w') : w'.ownsRow base e sz v n xs :=
  h.kept (row := none) ⟨hb.os, hb.tape, hb.output, hb.size, fun k hk _ => hb.block k hk⟩ (Classical.em _)
/-- the cells of a file -/
def fC (f : Fl) : List Value := [.string f.nm, .string f.all, .int .i64 (f.su : Int)]
theorem fC_len (l : List Fl) : (l.flatMap fC).length = l.length * 3 := by
  induction l with
  | nil => rfl
  | cons x l ih => rw [List.flatMap_cons, List.length_append, ih, List.length_cons]; simp [fC]; omega
theorem fC_one (l : List Fl) : ∀ u ∈ l.flatMap fC, u.oneCell' = true := by
  intro u hu
  obtain ⟨x, _, hx⟩ := List.mem_flatMap.1 hu
  simp only [fC, List.mem_cons, List.not_mem_nil, or_false] at hx
  rcases hx with rfl | rfl | rfl <;> rfl
theorem fC_at (l : List Fl) : ∀ (k : Nat) (f : Fl), l[k]? = some f → ∀ r, r < 3 → (l.flatMap fC)[k * 3 + r]? = (fC f)[r]? := by
  induction l with
  | nil => intro k f hk; simp at hk
  | cons y l ih =>
    intro k f hk r hr
    rw [List.flatMap_cons]
    cases k with
    | zero =>
      obtain rfl : y = f := by simpa using hk
      rw [List.getElem?_append_left (by simp [fC]; omega), Nat.zero_mul, Nat.zero_add]
    | succ k =>
      rw [List.getElem?_append_right (by simp [fC]; omega)]
      rw [← ih k f (by simpa using hk) r hr]
      congr 1
      simp [fC]; omega
/-- the disk at block d -/
structure Dk (d : Nat) (A : Option Addr) (c : Nat) (S : DS) (w : World) : Prop where
  box : w.heap[d]? = some (.cells #[.slice A S.fs.length c, .int .i64 S.room, .bool S.made, .bool S.on, .int .i64 S.fuse, .int .i64 S.ops] 44 (0, 0))
  row : w.ownsRow (d + 1) 67 3 (.slice A S.fs.length c) S.fs.length (S.fs.flatMap fC)
/-- what a call on the disk at block d may turn: its block, and rows of files behind it -/
structure DKeep (d : Nat) (w w' : World) : Prop where
  below : Below d w w'
  others : ∀ b, d < b → b < w.heap.size → (∀ cs z, w.heap[b]? ≠ some (.cells cs 67 z)) → w'.heap[b]? = w.heap[b]?
theorem DKeep.refl (d : Nat) (w : World) : DKeep d w w := ⟨Below.refl _ _, fun _ _ _ _ => rfl⟩
theorem DKeep.trans {d : Nat} {a b c : World} (h : DKeep d a b) (k : DKeep d b c) : DKeep d a c :=
  ⟨h.below.trans k.below, fun x hx hs ht => by
    have h1 := h.others x hx hs ht
    rw [k.others x hx (Nat.lt_of_lt_of_le hs h.below.size) (by rw [h1]; exact ht), h1]⟩
theorem DKeep.of_below {d : Nat} {w w' : World} (h : Below w.heap.size w w') (hd : d ≤ w.heap.size) : DKeep d w w' := ⟨h.mono hd, fun b _ hs _ => h.block b hs⟩
theorem Dk.lt {d : Nat} {A : Option Addr} {c : Nat} {S : DS} {w : World} (h : Dk d A c S w) : d < w.heap.size := bx_lt h.box
theorem Dk.kept {d : Nat} {A : Option Addr} {c : Nat} {S : DS} {w w' : World} (h : Dk d A c S w) (hb : Below w.heap.size w w') : Dk d A c S w' := ⟨bx_kept h.box hb, bx_own_below h.row hb⟩
theorem dk_row_other {w : World} {d n sz j : Nat} {e : TypeId} {v : Value} {xs : List Value} (h : w.ownsRow (d + 1) e sz v n xs) (u : Value) : (w.setCell ⟨d, j, none⟩ u).ownsRow (d + 1) e sz v n xs := by
  refine h.kept (row := some d) ⟨rfl, rfl, rfl, by simp, fun k _ hk => heap_setCell_other w ⟨d, j, none⟩ k u (fun e => hk (by simp [e]))⟩ (.inr fun e => ?_)
  have := (h.lt _ e).1
  omega
theorem dkeep_set {w : World} {d j : Nat} (u : Value) : DKeep d w (w.setCell ⟨d, j, none⟩ u) :=
  ⟨(Below.refl d w).setCell (p := ⟨d, j, none⟩) (Nat.le_refl _) u, fun b hb _ _ => heap_setCell_other w ⟨d, j, none⟩ b u (by show b ≠ d; omega)⟩
theorem Dk.set_on {d : Nat} {A : Option Addr} {c : Nat} {S : DS} {w : World} (h : Dk d A c S w) (b : Bool) : Dk d A c { S with on := b } (w.setCell ⟨d, 3, none⟩ (.bool b)) := ⟨bx_set h.box 3 _, dk_row_other h.row _⟩
theorem Dk.set_fuse {d : Nat} {A : Option Addr} {c : Nat} {S : DS} {w : World} (h : Dk d A c S w) (n : Int) : Dk d A c { S with fuse := n } (w.setCell ⟨d, 4, none⟩ (.int .i64 n)) := ⟨bx_set h.box 4 _, dk_row_other h.row _⟩
theorem Dk.set_ops {d : Nat} {A : Option Addr} {c : Nat} {S : DS} {w : World} (h : Dk d A c S w) (n : Int) : Dk d A c { S with ops := n } (w.setCell ⟨d, 5, none⟩ (.int .i64 n)) := ⟨bx_set h.box 5 _, dk_row_other h.row _⟩
/-- what a call that turns the disk leaves -/
def DPost (d : Nat) (S : DS) (v : Value) (w : World) (e : Ending) (w' : World) : Prop := e = .returned v ∧ ∃ A c, Dk d A c S w' ∧ DKeep d w w'

theorem disk_New (n : Int) (w : World) : Calls Try.prog 8 #[.int .i64 n] w fun e w' => e = .returned (.pointer (some ⟨w.heap.size, 0, none⟩)) ∧ Dk w.heap.size none 0 ⟨[], max n 0, true, true, -1, 0⟩ w' ∧ Below w.heap.size w w' := by
  by_cases hn : n < 0
  · rw [show max n 0 = 0 by omega]
    go_enter Try.func8, Try.ntmps8
    go_wp2_with fail
    go_ret
    exact ⟨rfl, ⟨heap_alloc_new _ _, World.ownsRow_nil _ _ _ _⟩, by (repeat (first | assumption | exact Below.refl _ _ | refine below_step (by assumption) ?_ | refine below_alloc' _ ?_ | refine below_drewN ?_ _ | refine Below.drew ?_))⟩
  · rw [show max n 0 = n by omega]
    go_enter Try.func8, Try.ntmps8
    go_wp2_with fail
    go_ret
    exact ⟨rfl, ⟨heap_alloc_new _ _, World.ownsRow_nil _ _ _ _⟩, by (repeat (first | assumption | exact Below.refl _ _ | refine below_step (by assumption) ?_ | refine below_alloc' _ ?_ | refine below_drewN ?_ _ | refine Below.drew ?_))⟩
theorem disk_On (d : Nat) (A : Option Addr) (c : Nat) (S : DS) (w : World) (h : Dk d A c S w) : Calls Try.prog 11 #[.pointer (some ⟨d, 0, none⟩)] w fun e w' => e = .returned (.bool S.on) ∧ w = w' := by
  have x3 := bx_cells h.box 3
  go_enter Try.func11, Try.ntmps11
  go_wp2_with fail
  go_ret
  exact ⟨rfl, rfl⟩
theorem disk_Ops (d : Nat) (A : Option Addr) (c : Nat) (S : DS) (w : World) (h : Dk d A c S w) : Calls Try.prog 15 #[.pointer (some ⟨d, 0, none⟩)] w fun e w' => e = .returned (.int .i64 S.ops) ∧ w = w' := by
  have x5 := bx_cells h.box 5
  go_enter Try.func15, Try.ntmps15
  go_wp2_with fail
  go_ret
  exact ⟨rfl, rfl⟩
theorem disk_Fuse (d : Nat) (A : Option Addr) (c : Nat) (S : DS) (n : Int) (w : World) (h : Dk d A c S w) : Calls Try.prog 25 #[.pointer (some ⟨d, 0, none⟩), .int .i64 n] w (DPost d { S with fuse := max n (-1) } (.tuple #[]) w) := by
  have x4 := bx_cells h.box 4
  have f4 := bx_free h.box 4
  by_cases hn : n < -1
  · have hp := h.set_fuse (-1)
    rw [show max n (-1) = -1 by omega]
    go_enter Try.func25, Try.ntmps25
    go_wp2_with fail
    go_end0
    exact ⟨rfl, A, c, hp, dkeep_set _⟩
  · have hp := h.set_fuse n
    rw [show max n (-1) = n by omega]
    go_enter Try.func25, Try.ntmps25
    go_wp2_with fail
    go_end0
    exact ⟨rfl, A, c, hp, dkeep_set _⟩
theorem disk_Crash (d : Nat) (A : Option Addr) (c : Nat) (S : DS) (w : World) (h : Dk d A c S w) : Calls Try.prog 30 #[.pointer (some ⟨d, 0, none⟩)] w fun e w' => e = .returned (.tuple #[]) ∧ Dk d A c { S with on := false, fuse := -1 } w' ∧ DKeep d w w' := by
  have x3 := bx_cells h.box 3
  have f3 := bx_free h.box 3
  have h2 := h.set_on false
  have x4 := bx_cells h2.box 4
  have f4 := bx_free h2.box 4
  have h3 := h2.set_fuse (-1)
  go_enter Try.func30, Try.ntmps30
  go_wp2_with fail
  go_end0
  exact ⟨rfl, h3, (dkeep_set _).trans (dkeep_set _)⟩
/-- an operation is begun, on a disk that is up -/
def blow (S : DS) : DS × Bool :=
  if S.fuse = -1 then ({ S with ops := S.ops + 1 }, false)
  else if S.fuse - 1 = -1 then ({ S with ops := S.ops + 1, fuse := -1, on := false }, true)
  else ({ S with ops := S.ops + 1, fuse := S.fuse - 1 }, false)
set_option maxRecDepth 100000 in
theorem disk_blows (d : Nat) (A : Option Addr) (c : Nat) (S : DS) (hon : S.on = true) (hf : -1 ≤ S.fuse ∧ S.fuse ≤ 9223372036854775807) (ho : 0 ≤ S.ops ∧ S.ops ≤ 1000000000) (w : World) (h : Dk d A c S w) :
    Calls Try.prog 58 #[.pointer (some ⟨d, 0, none⟩)] w fun e w' => e = .returned (.bool (blow S).2) ∧ Dk d A c (blow S).1 w' ∧ DKeep d w w' := by
  obtain ⟨fs, room, made, on, fuse, ops⟩ := S
  simp only at hon hf ho
  subst hon
  have x5 := bx_cells h.box 5
  have f5 := bx_free h.box 5
  have h1 := h.set_ops (ops + 1)
  have x4 := bx_cells h1.box 4
  have f4 := bx_free h1.box 4
  have k1 := dkeep_set (w := w) (d := d) (j := 5) (.int .i64 (ops + 1))
  simp only at x5 x4 h1
  by_cases h0 : fuse = -1
  · have hb : blow ⟨fs, room, made, true, fuse, ops⟩ = (⟨fs, room, made, true, fuse, ops + 1⟩, false) := by unfold blow; rw [if_pos h0]
    rw [hb]
    subst h0
    go_enter Try.func58, Try.ntmps58
    go_wp2_with fail
    go_ret
    exact ⟨rfl, h1, k1⟩
  · have h2 := h1.set_fuse (fuse - 1)
    have y4 := bx_cells h2.box 4
    have y3 := bx_cells h2.box 3
    have e0 : (fuse == -1) = false := by rw [beq_eq_false_iff_ne]; exact h0
    have k2 := k1.trans (dkeep_set (w := w.setCell ⟨d, 5, none⟩ (.int .i64 (ops + 1))) (d := d) (j := 4) (.int .i64 (fuse - 1)))
    simp only at y4 y3 h2
    by_cases h9 : fuse = 0
    · have hb : blow ⟨fs, room, made, true, fuse, ops⟩ = (⟨fs, room, made, false, -1, ops + 1⟩, true) := by unfold blow; simp only; rw [if_neg h0, if_pos (by omega)]
      rw [hb]
      subst h9
      have HC := Lib.hid (disk_Crash d A c _ _ h2)
      clear h0 e0
      go_enter Try.func58, Try.ntmps58
      go_wp2_with (go_at_call 30; refine (HC.out).mono ?_; rintro e w3 ⟨rfl, h3, k3⟩; have z3 := bx_cells h3.box 3)
      go_ret
      exact ⟨rfl, h3, k2.trans k3⟩
    · have e9 : (fuse - 1 == -1) = false := by rw [beq_eq_false_iff_ne]; omega
      have hb : blow ⟨fs, room, made, true, fuse, ops⟩ = (⟨fs, room, made, true, fuse - 1, ops + 1⟩, false) := by unfold blow; simp only; rw [if_neg h0, if_neg (by omega)]
      rw [hb]
      go_enter Try.func58, Try.ntmps58
      go_wp2_with fail
      go_ret
      exact ⟨rfl, h2, k2⟩
end Go.Proofs.Ytmkaijjakcjflaa
