/- Walks of layer 7 (disk): what a disk is in memory; New, On, Ops, Fuse, Crash, blows · Walks of layer 7 (disk): where a file is · Walks of layer 7 (disk): Used, Names, Read, Sure. -/
import Derived.Test.YtcpmicinibfepaaGreatDoorWAl
import Derived.Test.YtcpmicinibfepaaGreatDoorWAb
import Derived.Test.YtcpmicinibfepaaGreatDoorWAc
import Derived.Test.YtcpmicinibfepaaGreatDoorWAi
import Derived.Lib.Bytealg
namespace Go.Proofs.YtcpmicinibfepaaGreatDoor
open Go.ChangeShapes Go.WideShapes Go.ChangeAt Go.RowKit Go.Deep DiskP


theorem bx_cells {B : Nat} {T : TypeId} {cs : Array Value} {w : World} (h : w.heap[B]? = some (.cells cs T (0, 0))) : ∀ j, w.cell? ⟨B, j, none⟩ = cs[j]? := fun j => by rw [cell_of_row _ _ _ _ T _ h]
theorem bx_set {w : World} {B : Nat} {T : TypeId} {cs : Array Value} {fr : Nat × Nat} (h : w.heap[B]? = some (.cells cs T fr)) (j : Nat) (v : Value) : (w.setCell ⟨B, j, none⟩ v).heap[B]? = some (.cells (cs.setIfInBounds j v) T fr) := by
  simp [World.setCell, Array.getElem?_modify, h]
theorem bx_lt {w : World} {B : Nat} {o : Obj} (h : w.heap[B]? = some o) : B < w.heap.size := (Array.getElem?_eq_some_iff.1 h).1
theorem bx_free {w : World} {B : Nat} {T : TypeId} {cs : Array Value} (h : w.heap[B]? = some (.cells cs T (0, 0))) : ∀ j, w.frozen? ⟨B, j, none⟩ = false := fun j => by simp [World.frozen?, h]
theorem bx_kept {w w' : World} {b : Nat} {o : Obj} (h : w.heap[b]? = some o) (hb : Below w.heap.size w w') : w'.heap[b]? = some o := (hb.block b (bx_lt h)).trans h
theorem bx_own_below {w w' : World} {base n sz : Nat} {e : TypeId} {v : Value} {xs : List Value} (h : w.ownsRow base e sz v n xs) (hb : Below w.heap.size w w') : w'.ownsRow base e sz v n xs :=
  h.kept (row := none) ⟨hb.os, hb.tape, hb.output, hb.size, fun k hk _ => hb.block k hk⟩ (Classical.em _)
/-- the cells of a file -/
def fC (f : Fl) : List Value := [.string f.nm, .string f.all, .int .i64 (f.su : Int)]
theorem fC_len (l : List Fl) : (l.flatMap fC).length = l.length * 3 := by
  induction l with
  | nil => rfl
  | cons x l ih => rw [List.flatMap_cons, List.length_append, ih, List.length_cons]; simp [fC]; omega
theorem fC_one (l : List Fl) : ∀ u ∈ l.flatMap fC, u.oneCell' = true := by
  intro u hu
  obtain ⟨x, _, hx⟩ := List.mem_flatMap.1 hu
  simp only [fC, List.mem_cons, List.not_mem_nil, or_false] at hx
  rcases hx with rfl | rfl | rfl <;> rfl
theorem fC_at (l : List Fl) : ∀ (k : Nat) (f : Fl), l[k]? = some f → ∀ r, r < 3 → (l.flatMap fC)[k * 3 + r]? = (fC f)[r]? := by
  induction l with
  | nil => intro k f hk; simp at hk
  | cons y l ih =>
    intro k f hk r hr
    rw [List.flatMap_cons]
    cases k with
    | zero =>
      obtain rfl : y = f := by simpa using hk
      rw [List.getElem?_append_left (by simp [fC]; omega), Nat.zero_mul, Nat.zero_add]
    | succ k =>
      rw [List.getElem?_append_right (by simp [fC]; omega)]
      rw [← ih k f (by simpa using hk) r hr]
      congr 1
      simp [fC]; omega
/-- the disk at block d -/
structure Dk (d : Nat) (A : Option Addr) (c : Nat) (S : DS) (w : World) : Prop where
  box : w.heap[d]? = some (.cells #[.slice A S.fs.length c, .int .i64 S.room, .bool S.made, .bool S.on, .int .i64 S.fuse, .int .i64 S.ops] 71 (0, 0))
  row : w.ownsRow (d + 1) 81 3 (.slice A S.fs.length c) S.fs.length (S.fs.flatMap fC)
/-- what a call on the disk at block d may turn: its block, and rows of files behind it -/
structure DKeep (d : Nat) (w w' : World) : Prop where
  below : Below d w w'
  others : ∀ b, d < b → b < w.heap.size → (∀ cs z, w.heap[b]? ≠ some (.cells cs 81 z)) → w'.heap[b]? = w.heap[b]?
theorem DKeep.refl (d : Nat) (w : World) : DKeep d w w := ⟨Below.refl _ _, fun _ _ _ _ => rfl⟩
theorem DKeep.trans {d : Nat} {a b c : World} (h : DKeep d a b) (k : DKeep d b c) : DKeep d a c :=
  ⟨h.below.trans k.below, fun x hx hs ht => by
    have h1 := h.others x hx hs ht
    rw [k.others x hx (Nat.lt_of_lt_of_le hs h.below.size) (by rw [h1]; exact ht), h1]⟩
theorem DKeep.of_below {d : Nat} {w w' : World} (h : Below w.heap.size w w') (hd : d ≤ w.heap.size) : DKeep d w w' := ⟨h.mono hd, fun b _ hs _ => h.block b hs⟩
theorem Dk.lt {d : Nat} {A : Option Addr} {c : Nat} {S : DS} {w : World} (h : Dk d A c S w) : d < w.heap.size := bx_lt h.box
theorem Dk.kept {d : Nat} {A : Option Addr} {c : Nat} {S : DS} {w w' : World} (h : Dk d A c S w) (hb : Below w.heap.size w w') : Dk d A c S w' := ⟨bx_kept h.box hb, bx_own_below h.row hb⟩
theorem dk_row_other {w : World} {d n sz j : Nat} {e : TypeId} {v : Value} {xs : List Value} (h : w.ownsRow (d + 1) e sz v n xs) (u : Value) : (w.setCell ⟨d, j, none⟩ u).ownsRow (d + 1) e sz v n xs := by
  refine h.kept (row := some d) ⟨rfl, rfl, rfl, by simp, fun k _ hk => heap_setCell_other w ⟨d, j, none⟩ k u (fun e => hk (by simp [e]))⟩ (.inr fun e => ?_)
  have := (h.lt _ e).1
  omega
theorem dkeep_set {w : World} {d j : Nat} (u : Value) : DKeep d w (w.setCell ⟨d, j, none⟩ u) :=
  ⟨(Below.refl d w).setCell (p := ⟨d, j, none⟩) (Nat.le_refl _) u, fun b hb _ _ => heap_setCell_other w ⟨d, j, none⟩ b u (by show b ≠ d; omega)⟩
theorem Dk.set_on {d : Nat} {A : Option Addr} {c : Nat} {S : DS} {w : World} (h : Dk d A c S w) (b : Bool) : Dk d A c { S with on := b } (w.setCell ⟨d, 3, none⟩ (.bool b)) := ⟨bx_set h.box 3 _, dk_row_other h.row _⟩
theorem Dk.set_fuse {d : Nat} {A : Option Addr} {c : Nat} {S : DS} {w : World} (h : Dk d A c S w) (n : Int) : Dk d A c { S with fuse := n } (w.setCell ⟨d, 4, none⟩ (.int .i64 n)) := ⟨bx_set h.box 4 _, dk_row_other h.row _⟩
theorem Dk.set_ops {d : Nat} {A : Option Addr} {c : Nat} {S : DS} {w : World} (h : Dk d A c S w) (n : Int) : Dk d A c { S with ops := n } (w.setCell ⟨d, 5, none⟩ (.int .i64 n)) := ⟨bx_set h.box 5 _, dk_row_other h.row _⟩
/-- what a call that turns the disk leaves -/
def DPost (d : Nat) (S : DS) (v : Value) (w : World) (e : Ending) (w' : World) : Prop := e = .returned v ∧ ∃ A c, Dk d A c S w' ∧ DKeep d w w'

theorem disk_New (n : Int) (w : World) : Calls Tryz.prog 9 #[.int .i64 n] w fun e w' => e = .returned (.pointer (some ⟨w.heap.size, 0, none⟩)) ∧ Dk w.heap.size none 0 ⟨[], max n 0, true, true, -1, 0⟩ w' ∧ Below w.heap.size w w' := by
  by_cases hn : n < 0
  · rw [show max n 0 = 0 by omega]
    go_enter Tryz.func9, Tryz.ntmps9
    go_wp2_with fail
    go_ret
    exact ⟨rfl, ⟨heap_alloc_new _ _, World.ownsRow_nil _ _ _ _⟩, by (repeat (first | assumption | exact Below.refl _ _ | refine below_step (by assumption) ?_ | refine below_alloc' _ ?_ | refine below_drewN ?_ _ | refine Below.drew ?_))⟩
  · rw [show max n 0 = n by omega]
    go_enter Tryz.func9, Tryz.ntmps9
    go_wp2_with fail
    go_ret
    exact ⟨rfl, ⟨heap_alloc_new _ _, World.ownsRow_nil _ _ _ _⟩, by (repeat (first | assumption | exact Below.refl _ _ | refine below_step (by assumption) ?_ | refine below_alloc' _ ?_ | refine below_drewN ?_ _ | refine Below.drew ?_))⟩
theorem disk_On (d : Nat) (A : Option Addr) (c : Nat) (S : DS) (w : World) (h : Dk d A c S w) : Calls Tryz.prog 30 #[.pointer (some ⟨d, 0, none⟩)] w fun e w' => e = .returned (.bool S.on) ∧ w = w' := by
  have x3 := bx_cells h.box 3
  go_enter Tryz.func30, Tryz.ntmps30
  go_wp2_with fail
  go_ret
  exact ⟨rfl, rfl⟩
theorem disk_Fuse (d : Nat) (A : Option Addr) (c : Nat) (S : DS) (n : Int) (w : World) (h : Dk d A c S w) : Calls Tryz.prog 28 #[.pointer (some ⟨d, 0, none⟩), .int .i64 n] w (DPost d { S with fuse := max n (-1) } (.tuple #[]) w) := by
  have x4 := bx_cells h.box 4
  have f4 := bx_free h.box 4
  by_cases hn : n < -1
  · have hp := h.set_fuse (-1)
    rw [show max n (-1) = -1 by omega]
    go_enter Tryz.func28, Tryz.ntmps28
    go_wp2_with fail
    go_end0
    exact ⟨rfl, A, c, hp, dkeep_set _⟩
  · have hp := h.set_fuse n
    rw [show max n (-1) = n by omega]
    go_enter Tryz.func28, Tryz.ntmps28
    go_wp2_with fail
    go_end0
    exact ⟨rfl, A, c, hp, dkeep_set _⟩
theorem disk_Crash (d : Nat) (A : Option Addr) (c : Nat) (S : DS) (w : World) (h : Dk d A c S w) : Calls Tryz.prog 22 #[.pointer (some ⟨d, 0, none⟩)] w fun e w' => e = .returned (.tuple #[]) ∧ Dk d A c { S with on := false, fuse := -1 } w' ∧ DKeep d w w' := by
  have x3 := bx_cells h.box 3
  have f3 := bx_free h.box 3
  have h2 := h.set_on false
  have x4 := bx_cells h2.box 4
  have f4 := bx_free h2.box 4
  have h3 := h2.set_fuse (-1)
  go_enter Tryz.func22, Tryz.ntmps22
  go_wp2_with fail
  go_end0
  exact ⟨rfl, h3, (dkeep_set _).trans (dkeep_set _)⟩
/-- an operation is begun, on a disk that is up -/
def blow (S : DS) : DS × Bool :=
  if S.fuse = -1 then ({ S with ops := S.ops + 1 }, false)
  else if S.fuse - 1 = -1 then ({ S with ops := S.ops + 1, fuse := -1, on := false }, true)
  else ({ S with ops := S.ops + 1, fuse := S.fuse - 1 }, false)
set_option maxRecDepth 100000 in
theorem disk_blows (d : Nat) (A : Option Addr) (c : Nat) (S : DS) (hon : S.on = true) (hf : -1 ≤ S.fuse ∧ S.fuse ≤ 9223372036854775807) (ho : 0 ≤ S.ops ∧ S.ops ≤ 1000000000) (w : World) (h : Dk d A c S w) :
    Calls Tryz.prog 83 #[.pointer (some ⟨d, 0, none⟩)] w fun e w' => e = .returned (.bool (blow S).2) ∧ Dk d A c (blow S).1 w' ∧ DKeep d w w' := by
  obtain ⟨fs, room, made, on, fuse, ops⟩ := S
  simp only at hon hf ho
  subst hon
  have x5 := bx_cells h.box 5
  have f5 := bx_free h.box 5
  have h1 := h.set_ops (ops + 1)
  have x4 := bx_cells h1.box 4
  have f4 := bx_free h1.box 4
  have k1 := dkeep_set (w := w) (d := d) (j := 5) (.int .i64 (ops + 1))
  simp only at x5 x4 h1
  by_cases h0 : fuse = -1
  · have hb : blow ⟨fs, room, made, true, fuse, ops⟩ = (⟨fs, room, made, true, fuse, ops + 1⟩, false) := by unfold blow; rw [if_pos h0]
    rw [hb]
    subst h0
    go_enter Tryz.func83, Tryz.ntmps83
    go_wp2_with fail
    go_ret
    exact ⟨rfl, h1, k1⟩
  · have h2 := h1.set_fuse (fuse - 1)
    have y4 := bx_cells h2.box 4
    have y3 := bx_cells h2.box 3
    have e0 : (fuse == -1) = false := by rw [beq_eq_false_iff_ne]; exact h0
    have k2 := k1.trans (dkeep_set (w := w.setCell ⟨d, 5, none⟩ (.int .i64 (ops + 1))) (d := d) (j := 4) (.int .i64 (fuse - 1)))
    simp only at y4 y3 h2
    by_cases h9 : fuse = 0
    · have hb : blow ⟨fs, room, made, true, fuse, ops⟩ = (⟨fs, room, made, false, -1, ops + 1⟩, true) := by unfold blow; simp only; rw [if_neg h0, if_pos (by omega)]
      rw [hb]
      subst h9
      have HC := Lib.hid (disk_Crash d A c _ _ h2)
      clear h0 e0
      go_enter Tryz.func83, Tryz.ntmps83
      go_wp2_with (go_at_call 22; refine (HC.out).mono ?_; rintro e w3 ⟨rfl, h3, k3⟩; have z3 := bx_cells h3.box 3)
      go_ret
      exact ⟨rfl, h3, k2.trans k3⟩
    · have e9 : (fuse - 1 == -1) = false := by rw [beq_eq_false_iff_ne]; omega
      have hb : blow ⟨fs, room, made, true, fuse, ops⟩ = (⟨fs, room, made, true, fuse - 1, ops + 1⟩, false) := by unfold blow; simp only; rw [if_neg h0, if_neg (by omega)]
      rw [hb]
      go_enter Tryz.func83, Tryz.ntmps83
      go_wp2_with fail
      go_ret
      exact ⟨rfl, h2, k2⟩
end Go.Proofs.YtcpmicinibfepaaGreatDoor

namespace Go.Proofs.YtcpmicinibfepaaGreatDoor
open Go.ChangeShapes Go.WideShapes Go.ChangeAt Go.RowKit Go.Deep DiskP


set_option maxRecDepth 100000 in
theorem dk_CompareString (a b : ByteArray) (w : World) :
    Calls Tryz.prog 84 #[.string a, .string b] w fun e w' => e = .returned (.int .i64 (cmpN a b)) ∧ w = w' := by
  unfold cmpN
  go_enter Tryz.func84, Tryz.ntmps84
  go_wp2
  rw [run_callFunc_extern Tryz.func94 (by kernel_rfl) (by kernel_rfl) (by kernel_rfl) (e := Extern.BytealgCompare.compare) (by kernel_rfl), Lib.run_compareString]
  simp only [Result.andThen]
  rw [Oper.upon_value]
  go_wp2
  go_ret
  exact ⟨rfl, rfl⟩
theorem dk_Compare (a b : ByteArray) (w : World) :
    Calls Tryz.prog 66 #[.string a, .string b] w fun e w' => e = .returned (.int .i64 (cmpN a b)) ∧ w = w' := by
  go_enter Tryz.func66, Tryz.ntmps66
  go_wp2_with (go_at_call 84; refine (dk_CompareString _ _ _).mono ?_; rintro e w' ⟨rfl, rfl⟩)
  go_ret
  exact ⟨rfl, rfl⟩
theorem disk_find1 (f : Fl) (nm : ByteArray) (w : World) :
    Calls Tryz.prog 65 #[.agg #[.string f.nm, .string f.all, .int .i64 (f.su : Int)], .string nm] w fun e w' => e = .returned (.int .i64 (cmpN f.nm nm)) ∧ Below w.heap.size w w' := by
  go_enter Tryz.func65, Tryz.ntmps65
  go_wp2_with (go_at_call 66; refine (dk_Compare _ _ _).mono ?_; rintro e w' ⟨rfl, rfl⟩)
  go_ret
  exact ⟨rfl, by (repeat (first | assumption | exact Below.refl _ _ | refine below_step (by assumption) ?_ | refine below_alloc' _ ?_ | refine below_drewN ?_ _ | refine Below.drew ?_))⟩

theorem fl_add_block (a : Addr) (n : Nat) : (a.add n).block = a.block := by unfold Addr.add; split <;> rfl
/-- a slice at A reads as files, below block B -/
def RdFl (w : World) (B : Nat) (A : Option Addr) (l : List Fl) : Prop :=
  ∀ k x, l[k]? = some x → ∃ ad, A = some ad ∧ ad.block < B ∧ w.cell? (ad.add (k * 3)) = some (.string x.nm) ∧ w.cell? ⟨(ad.add (k * 3)).block, (ad.add (k * 3)).off + 1, none⟩ = some (.string x.all) ∧ w.cell? ⟨(ad.add (k * 3)).block, (ad.add (k * 3)).off + 2, none⟩ = some (.int .i64 (x.su : Int))
theorem RdFl.below {w w' : World} {B : Nat} {A : Option Addr} {l : List Fl} (h : RdFl w B A l) (hb : Below B w w') : RdFl w' B A l := fun k x hk => by
  obtain ⟨ad, e, hlt, h0, h1, h2⟩ := h k x hk
  have hb' : ∀ a : Addr, a.block = ad.block → w'.cell? a = w.cell? a := fun a ha => hb.cell (p := a) (by rw [ha]; exact hlt)
  have hj : ∀ j, w'.cell? ⟨(ad.add (k * 3)).block, (ad.add (k * 3)).off + j, none⟩ = w.cell? ⟨(ad.add (k * 3)).block, (ad.add (k * 3)).off + j, none⟩ := fun j => hb' _ (fl_add_block ad (k * 3))
  exact ⟨ad, e, hlt, (hb' _ (fl_add_block ad (k * 3))).trans h0, (hj 1).trans h1, (hj 2).trans h2⟩
theorem RdFl.more {w : World} {B B' : Nat} {A : Option Addr} {l : List Fl} (h : RdFl w B A l) (hB : B ≤ B') : RdFl w B' A l := fun k x hk => by
  obtain ⟨ad, e, hlt, h0⟩ := h k x hk
  exact ⟨ad, e, Nat.lt_of_lt_of_le hlt hB, h0⟩
theorem fl_add_0 (g j : Nat) : (⟨g, 0, none⟩ : Addr).add j = ⟨g, j, none⟩ := by unfold Addr.add; split <;> simp_all
theorem RdFl_own {w : World} {base n c : Nat} {e : TypeId} {A : Option Addr} {l : List Fl} (h : w.ownsRow base e 3 (.slice A n c) n (l.flatMap fC)) : RdFl w w.heap.size A l := fun k x hk => by
  have hl := (List.getElem?_eq_some_iff.1 hk).1
  have hn : l.length = n := by have := h.1; rw [fC_len] at this; omega
  obtain ⟨g, c', e1, _, hg⟩ : ∃ g c', A = some ⟨g, 0, none⟩ ∧ base ≤ g ∧ g < w.heap.size := by
    rcases h.2 with ⟨e1, e2⟩ | ⟨g, cap, cur, e1, hb, hg, _⟩
    · omega
    · have : A = some ⟨g, 0, none⟩ ∧ c = cap := by simpa using e1
      exact ⟨g, c, this.1, hb, bx_lt hg⟩
  subst e1
  have hc : ∀ r, r < 3 → ∀ u, (fC x)[r]? = some u → w.cell? ⟨g, k * 3 + r, none⟩ = some u := fun r hr u hu => by
    have := h.cells (g := g) rfl (k * 3 + r) u (by rw [fC_at l k x hk r hr]; exact hu)
    rwa [fl_add_0] at this
  refine ⟨_, rfl, hg, ?_, ?_, ?_⟩
  · rw [fl_add_0]; exact hc 0 (by omega) _ rfl
  · rw [fl_add_0]; exact hc 1 (by omega) _ rfl
  · rw [fl_add_0]; exact hc 2 (by omega) _ rfl
set_option maxRecDepth 100000 in
theorem disk_search (A : Option Addr) (c : Nat) (fs : List Fl) (nm : ByteArray) (hs : Sorted fs) (hl : fs.length ≤ 1000) (w : World) (hr : RdFl w w.heap.size A fs) :
    Calls Tryz.prog 64 #[.slice A fs.length c, .string nm, .func (.func 65) #[] #[]] w fun e w' => e = .returned (.tuple #[.int .i64 (pos fs nm : Nat), .bool (has fs nm)]) ∧ Below w.heap.size w w' := by
  have HR := Lib.hid hr
  have HS := Lib.hid hs
  clear hr hs
  go_enter Tryz.func64, Tryz.ntmps64
  go_wp2_with fail
  go_loopw [9, 10] (fun vi vj wr => ∃ i j : Nat, i ≤ j ∧ j ≤ fs.length ∧ vi = .int .i64 i ∧ vj = .int .i64 j ∧ (∀ k f, k < i → fs[k]? = some f → cmpN f.nm nm < 0) ∧ (∀ k f, j ≤ k → fs[k]? = some f → 0 ≤ cmpN f.nm nm) ∧ Below w.heap.size w wr) (fun vi vj _ => (intOf vj).toNat - (intOf vi).toNat)
  case atStart => exact ⟨0, fs.length, by omega, by omega, rfl, rfl, by intro k f hk; omega, by intro k f hk hf; have := (List.getElem?_eq_some_iff.1 hf).1; omega, Below.refl _ _⟩
  case round =>
    obtain ⟨i, j, hij, hj, rfl, rfl, h1, h2, hb⟩ := hrel
    have H1 := Lib.hid h1
    have H2 := Lib.hid h2
    clear h1 h2
    by_cases hlt : i < j
    · obtain ⟨m, hm⟩ : ∃ m, (i + j) / 2 = m := ⟨_, rfl⟩
      obtain ⟨f, hk'⟩ : ∃ f, fs[m]? = some f := ⟨fs[m], List.getElem?_eq_getElem (by omega)⟩
      obtain ⟨ad, rfl, hadl, c0, c1, c2⟩ := HR.out.below hb m f hk'
      have HF := Lib.hid (disk_find1 f nm)
      have HK := Lib.hid hk'
      have hi1 : (m : Int) < (fs.length : Int) := by omega
      have hi2 : (i : Int) < (j : Int) := by omega
      clear hk'
      go_wp2_with (go_at_call 65; (with_reducible refine (HF.out _).mono ?_); rintro e w1 ⟨rfl, b1⟩)
      · rename_i hc
        refine ⟨⟨m + 1, j, by omega, hj, congrArg (Value.int .i64) (by omega), rfl, search_lt HS.out HK.out hc, H2.out, hb.trans (b1.mono hb.size)⟩, ?_⟩
        rw [show ((i : Int) + (j : Int)) / 2 + 1 = ((m + 1 : Nat) : Int) by omega]
        simp [intOf]
        omega
      · rename_i hc
        refine ⟨⟨i, m, by omega, by omega, rfl, congrArg (Value.int .i64) (by omega), H1.out, search_ge HS.out HK.out (by omega), hb.trans (b1.mono hb.size)⟩, ?_⟩
        rw [show ((i : Int) + (j : Int)) / 2 = (m : Int) by omega]
        simp [intOf]
        omega
    · obtain rfl : i = j := by omega
      have hp := pos_uniq hj H1.out (fun f hf => H2.out i f (Nat.le_refl _) hf)
      have HP := Lib.hid hp
      by_cases hlt2 : i < fs.length
      · obtain ⟨f, hk'⟩ : ∃ f, fs[i]? = some f := ⟨fs[i], List.getElem?_eq_getElem hlt2⟩
        obtain ⟨ad, rfl, hadl, c0, c1, c2⟩ := HR.out.below hb i f hk'
        have HF := Lib.hid (disk_find1 f nm)
        have hh : has fs nm = (cmpN f.nm nm == 0) := by unfold has; rw [hp, hk']
        have hi1 : (i : Int) < (fs.length : Int) := by omega
        have HH := Lib.hid hh
        clear hk' hp hh
        go_wp2_with (go_at_call 65; (with_reducible refine (HF.out _).mono ?_); rintro e w1 ⟨rfl, b1⟩)
        go_ret2
        exact ⟨(by rw [HP.out, HH.out]; rfl), hb.trans (b1.mono hb.size)⟩
      · have hh : has fs nm = false := by unfold has; rw [hp, List.getElem?_eq_none (by omega)]
        have HH := Lib.hid hh
        clear hp hh
        go_wp2_with fail
        go_ret2
        exact ⟨(by rw [HP.out, HH.out]; rfl), hb⟩
theorem disk_find (d : Nat) (A : Option Addr) (c : Nat) (S : DS) (nm : ByteArray) (hs : Sorted S.fs) (hl : S.fs.length ≤ 1000) (w : World) (h : Dk d A c S w) :
    Calls Tryz.prog 41 #[.pointer (some ⟨d, 0, none⟩), .string nm] w fun e w' => e = .returned (.tuple #[.int .i64 (pos S.fs nm : Nat), .bool (has S.fs nm)]) ∧ Below w.heap.size w w' := by
  have x0 := bx_cells h.box 0
  have HB := Lib.hid (disk_search A c S.fs nm hs hl w (RdFl_own h.row))
  clear h
  go_enter Tryz.func41, Tryz.ntmps41
  go_wp2_with (go_at_call 64; (with_reducible refine (HB.out).mono ?_); rintro e w1 ⟨rfl, b1⟩)
  go_ret2
  exact ⟨rfl, b1⟩
end Go.Proofs.YtcpmicinibfepaaGreatDoor

namespace Go.Proofs.YtcpmicinibfepaaGreatDoor
open Go.ChangeShapes Go.WideShapes Go.ChangeAt Go.RowKit Go.Deep DiskP


theorem bx_shape {w : World} {base n sz : Nat} {e : TypeId} {v : Value} {xs : List Value} (h : w.ownsRow base e sz v n xs) : ∃ a c, v = .slice a n c := by
  rcases h.2 with ⟨e1, rfl⟩ | ⟨g, cap, cur, e1, _⟩
  · exact ⟨_, _, e1⟩
  · exact ⟨_, _, e1⟩
theorem fl_take {fs : List Fl} {k : Nat} {f : Fl} (hk : fs[k]? = some f) : fs.take (k + 1) = fs.take k ++ [f] := by rw [List.take_add_one, hk]; rfl
theorem used_take {fs : List Fl} {k : Nat} {f : Fl} (hk : fs[k]? = some f) : used (fs.take (k + 1)) = used (fs.take k) + f.all.size := by
  rw [fl_take hk]; unfold used; simp
theorem used_le (fs : List Fl) (k : Nat) : used (fs.take k) ≤ used fs := by
  have : used fs = used (fs.take k) + used (fs.drop k) := by
    unfold used
    rw [← List.sum_append, ← List.map_append, List.take_append_drop]
  omega
set_option maxRecDepth 100000 in
theorem disk_Used (d : Nat) (A : Option Addr) (c : Nat) (S : DS) (hl : S.fs.length ≤ 1000) (hu : used S.fs ≤ 1000000000) (w : World) (h : Dk d A c S w) :
    Calls Tryz.prog 59 #[.pointer (some ⟨d, 0, none⟩)] w fun e w' => e = .returned (.int .i64 (used S.fs : Nat)) ∧ Below w.heap.size w w' := by
  have x0 := bx_cells h.box 0
  have HR := Lib.hid (RdFl_own h.row)
  clear h
  go_enter Tryz.func59, Tryz.ntmps59
  go_wp2_with fail
  go_loopw [3, 13] (fun vs vi wr => ∃ k : Nat, k ≤ S.fs.length ∧ vi = .int .i64 k ∧ vs = .int .i64 (used (S.fs.take k) : Nat) ∧ Below w.heap.size w wr) (fun _ vi _ => S.fs.length - (intOf vi).toNat)
  case atStart => exact ⟨0, by omega, rfl, rfl, Below.refl _ _⟩
  case round =>
    obtain ⟨k, hk, rfl, rfl, hb⟩ := hrel
    by_cases hlt : k < S.fs.length
    · obtain ⟨f, hk'⟩ : ∃ f, S.fs[k]? = some f := ⟨S.fs[k], List.getElem?_eq_getElem hlt⟩
      obtain ⟨ad, rfl, hadl, c0, c1, c2⟩ := HR.out.below hb k f hk'
      have hut := used_take hk'
      have hul := used_le S.fs (k + 1)
      have hi1 : (k : Int) < (S.fs.length : Int) := by omega
      have HU := Lib.hid hut
      have hsum : used (S.fs.take k) + f.all.size ≤ 1000000000 := by omega
      clear hk' hut hul
      generalize hq : used (S.fs.take k) = q at *
      go_wp2_with fail
      refine ⟨⟨k + 1, by omega, by go_num, by rw [HU.out]; go_num, by (repeat (first | assumption | exact Below.refl _ _ | refine below_step (by assumption) ?_ | refine below_alloc' _ ?_ | refine below_drewN ?_ _ | refine Below.drew ?_))⟩, by simp [intOf]; omega⟩
    · obtain rfl : k = S.fs.length := by omega
      go_wp2_with fail
      go_ret
      exact ⟨by rw [List.take_length]; rfl, hb⟩
theorem info_str : (Tryz.prog.info? 9).map (fun i => (i.zero, i.size, i.bytes)) = some (some (.string ⟨#[]⟩), 1, 16) := by kernel_rfl
set_option maxRecDepth 100000 in
theorem disk_Names (d : Nat) (A : Option Addr) (c : Nat) (S : DS) (hl : S.fs.length ≤ 1000) (w : World) (h : Dk d A c S w) :
    Calls Tryz.prog 13 #[.pointer (some ⟨d, 0, none⟩)] w fun e w' => ∃ A' c', e = .returned (.slice A' S.fs.length c') ∧ w'.ownsRow w.heap.size 9 1 (.slice A' S.fs.length c') S.fs.length (S.fs.map fun f => Value.string f.nm) ∧ Below w.heap.size w w' := by
  have x0 := bx_cells h.box 0
  have HR := Lib.hid (RdFl_own h.row)
  obtain ⟨i0, hi, hz0, hz1, hz2⟩ := info_parts' info_str
  have HI := Lib.hid (And.intro hi (And.intro hz0 (And.intro hz1 hz2)))
  clear h hi hz0 hz1 hz2
  go_enter Tryz.func13, Tryz.ntmps13
  go_wp2_with fail
  go_loopw [3, 13] (fun vs vi wr => ∃ k : Nat, k ≤ S.fs.length ∧ vi = .int .i64 k ∧ wr.ownsRow w.heap.size 9 1 vs k ((S.fs.take k).map fun f => Value.string f.nm) ∧ Below w.heap.size w wr) (fun _ vi _ => S.fs.length - (intOf vi).toNat)
  case atStart => exact ⟨0, by omega, rfl, World.ownsRow_nil _ _ _ _, Below.refl _ _⟩
  case round =>
    obtain ⟨k, hk, rfl, hown, hb⟩ := hrel
    have HO := Lib.hid hown
    clear hown
    by_cases hlt : k < S.fs.length
    · obtain ⟨f, hk'⟩ : ∃ f, S.fs[k]? = some f := ⟨S.fs[k], List.getElem?_eq_getElem hlt⟩
      obtain ⟨ad, rfl, hadl, c0, c1, c2⟩ := HR.out.below hb k f hk'
      have HT := Lib.hid (fl_take hk')
      have hi1 : (k : Int) < (S.fs.length : Int) := by omega
      clear hk'
      go_wp2_with (at_builtin; refine wpList_append_one rfl _ _ _ (by rfl) w.heap.size 9 i0 _ 1 16 Tryz.underlying36 HI.out.1 HI.out.2.1 HI.out.2.2.1 HI.out.2.2.2 rfl (by decide) (by decide) _ _ _ (by rfl) (wr.alloc (.cells #[.string f.nm, .string f.all, .int .i64 (f.su : Int)] 81)) (HO.out.alloc _) _ (wr.heap.size + 1) (by simp) (by rfl) (by rfl) (by simp [Value.oneCell']) (by omega) (by have := hb.size; simp; omega) ?_; intro g cap w4 hA; have B4 := hA.below _ (show Below w.heap.size w (wr.alloc (.cells #[.string f.nm, .string f.all, .int .i64 (f.su : Int)] 81)) by (repeat (first | assumption | exact Below.refl _ _ | refine below_step (by assumption) ?_ | refine below_alloc' _ ?_ | refine below_drewN ?_ _ | refine Below.drew ?_))))
      refine ⟨⟨k + 1, by omega, by go_num, ?_, B4⟩, by simp [intOf]; omega⟩
      have hh := hA.own
      rw [HT.out, List.map_append]
      simpa using hh
    · obtain rfl : k = S.fs.length := by omega
      have ho := HO.out
      rw [List.take_length] at ho
      obtain ⟨A', c', rfl⟩ := bx_shape ho
      go_wp2_with fail
      go_ret
      exact ⟨A', c', rfl, ho, hb⟩
def readD (S : DS) (nm : ByteArray) : ByteArray × Int :=
  if S.on = false then (⟨#[]⟩, 9) else match S.fs[pos S.fs nm]? with
    | some f => if has S.fs nm then (f.all, 0) else (⟨#[]⟩, 7)
    | none => (⟨#[]⟩, 7)
theorem disk_Read (d : Nat) (A : Option Addr) (c : Nat) (S : DS) (nm : ByteArray) (hs : Sorted S.fs) (hl : S.fs.length ≤ 1000) (w : World) (h : Dk d A c S w) :
    Calls Tryz.prog 14 #[.pointer (some ⟨d, 0, none⟩), .string nm] w fun e w' => e = .returned (.tuple #[.string (readD S nm).1, .int .i64 (readD S nm).2]) ∧ Below w.heap.size w w' := by
  have HF := Lib.hid (disk_find d A c S nm hs hl w h)
  have HD := Lib.hid h
  clear h
  rcases hon : S.on with _ | _
  · have hr : readD S nm = (⟨#[]⟩, 9) := by unfold readD; rw [if_pos hon]
    rw [hr]
    go_enter Tryz.func14, Tryz.ntmps14
    go_wp2_with (first
      | (go_at_call 41; (with_reducible refine (HF.out).mono ?_); rintro e w1 ⟨rfl, b1⟩; have hd1 := HD.out.kept b1)
      | (go_at_call 30; refine (disk_On d A c S _ hd1).mono ?_; rintro e w2 ⟨rfl, rfl⟩; rw [hon]))
    go_ret2
    exact ⟨rfl, b1⟩
  · rcases hh : has S.fs nm with _ | _
    · have hr : readD S nm = (⟨#[]⟩, 7) := by unfold readD; rw [if_neg (by simp [hon])]; split <;> simp [hh]
      rw [hr]
      rw [hh] at HF
      go_enter Tryz.func14, Tryz.ntmps14
      go_wp2_with (first
        | (go_at_call 41; (with_reducible refine (HF.out).mono ?_); rintro e w1 ⟨rfl, b1⟩; have hd1 := HD.out.kept b1)
        | (go_at_call 30; refine (disk_On d A c S _ hd1).mono ?_; rintro e w2 ⟨rfl, rfl⟩; rw [hon]))
      go_ret2
      exact ⟨rfl, b1⟩
    · obtain ⟨f, hf, _⟩ := has_some hh
      have hr : readD S nm = (f.all, 0) := by unfold readD; rw [if_neg (by simp [hon]), hf]; simp [hh]
      rw [hr]
      rw [hh] at HF
      have hp := (List.getElem?_eq_some_iff.1 hf).1
      obtain ⟨p, hpp⟩ : ∃ p, pos S.fs nm = p := ⟨_, rfl⟩
      rw [hpp] at HF hf hp
      have x0 := bx_cells HD.out.box 0
      obtain ⟨ad, rfl, hadl, c0, c1, c2⟩ := RdFl_own HD.out.row p f hf
      have HX := Lib.hid (fun (W : World) (b : Below w.heap.size w W) => (And.intro ((b.cell (p := ⟨d, 0, none⟩) (HD.out.lt)).trans x0) ((b.cell (p := ⟨(ad.add (p * 3)).block, (ad.add (p * 3)).off + 1, none⟩) (by rw [fl_add_block]; exact hadl)).trans c1)))
      have hi1 : (p : Int) < (S.fs.length : Int) := by omega
      clear hf c0 c1 c2 x0
      go_enter Tryz.func14, Tryz.ntmps14
      go_wp2_with (first
        | (go_at_call 41; (with_reducible refine (HF.out).mono ?_); rintro e w1 ⟨rfl, b1⟩; have hd1 := HD.out.kept b1; obtain ⟨y0, y1⟩ := HX.out _ b1)
        | (go_at_call 30; refine (disk_On d _ c S _ hd1).mono ?_; rintro e w2 ⟨rfl, rfl⟩; rw [hon]))
      go_ret2
      exact ⟨rfl, b1⟩
def sureD (S : DS) (nm : ByteArray) : Nat := match S.fs[pos S.fs nm]? with
  | some f => if has S.fs nm then f.su else 0
  | none => 0
theorem disk_Sure (d : Nat) (A : Option Addr) (c : Nat) (S : DS) (nm : ByteArray) (hs : Sorted S.fs) (hl : S.fs.length ≤ 1000) (w : World) (h : Dk d A c S w) :
    Calls Tryz.prog 20 #[.pointer (some ⟨d, 0, none⟩), .string nm] w fun e w' => e = .returned (.int .i64 (sureD S nm : Nat)) ∧ Below w.heap.size w w' := by
  have HF := Lib.hid (disk_find d A c S nm hs hl w h)
  have HD := Lib.hid h
  clear h
  rcases hh : has S.fs nm with _ | _
  · have hr : sureD S nm = 0 := by unfold sureD; split <;> simp [hh]
    rw [hr]
    rw [hh] at HF
    go_enter Tryz.func20, Tryz.ntmps20
    go_wp2_with (go_at_call 41; (with_reducible refine (HF.out).mono ?_); rintro e w1 ⟨rfl, b1⟩)
    go_ret
    exact ⟨rfl, b1⟩
  · obtain ⟨f, hf, _⟩ := has_some hh
    have hr : sureD S nm = f.su := by unfold sureD; rw [hf]; simp [hh]
    rw [hr]
    rw [hh] at HF
    have hp := (List.getElem?_eq_some_iff.1 hf).1
    obtain ⟨p, hpp⟩ : ∃ p, pos S.fs nm = p := ⟨_, rfl⟩
    rw [hpp] at HF hf hp
    have x0 := bx_cells HD.out.box 0
    obtain ⟨ad, rfl, hadl, c0, c1, c2⟩ := RdFl_own HD.out.row p f hf
    have HX := Lib.hid (fun (W : World) (b : Below w.heap.size w W) => (And.intro ((b.cell (p := ⟨d, 0, none⟩) (HD.out.lt)).trans x0) ((b.cell (p := ⟨(ad.add (p * 3)).block, (ad.add (p * 3)).off + 2, none⟩) (by rw [fl_add_block]; exact hadl)).trans c2)))
    have hi1 : (p : Int) < (S.fs.length : Int) := by omega
    clear hf c0 c1 c2 x0
    go_enter Tryz.func20, Tryz.ntmps20
    go_wp2_with (go_at_call 41; (with_reducible refine (HF.out).mono ?_); rintro e w1 ⟨rfl, b1⟩; obtain ⟨y0, y1⟩ := HX.out _ b1)
    go_ret
    exact ⟨rfl, b1⟩
end Go.Proofs.YtcpmicinibfepaaGreatDoor
