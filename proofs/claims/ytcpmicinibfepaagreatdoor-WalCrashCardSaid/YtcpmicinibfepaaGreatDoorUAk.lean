/- Walks of layer 7 (disk): take, Remove · Walks of layer 7 (disk): Remove, Rename · Walks of layer 7 (disk): Cut. -/
import Derived.Test.YtcpmicinibfepaaGreatDoorUAj
namespace Go.Proofs.YtcpmicinibfepaaGreatDoor
open Go.ChangeShapes Go.WideShapes Go.ChangeAt Go.RowKit Go.Deep DiskP


def flV (f : Fl) : Value := .agg #[.string f.nm, .string f.all, .int .i64 (f.su : Int)]
def delF (fs : List Fl) (nm : ByteArray) : List Fl := if has fs nm then fs.take (pos fs nm) ++ fs.drop (pos fs nm + 1) else fs
def fileF (fs : List Fl) (nm : ByteArray) : Fl := match fs[pos fs nm]? with
  | some f => if has fs nm then f else ⟨⟨#[]⟩, ⟨#[]⟩, 0⟩
  | none => ⟨⟨#[]⟩, ⟨#[]⟩, 0⟩
/-- as DKeep, but of rows of files only the one named may be turned -/
structure RKeep (d : Nat) (r : Option Nat) (w w' : World) : Prop where
  below : Below d w w'
  others : ∀ b, d < b → b < w.heap.size → r ≠ some b → w'.heap[b]? = w.heap[b]?
theorem RKeep.trans {d : Nat} {r : Option Nat} {a b c : World} (h : RKeep d r a b) (k : RKeep d r b c) : RKeep d r a c :=
  ⟨h.below.trans k.below, fun x hx hs ht => (k.others x hx (Nat.lt_of_lt_of_le hs h.below.size) ht).trans (h.others x hx hs ht)⟩
theorem RKeep.of_below {d : Nat} {r : Option Nat} {w w' : World} (h : Below w.heap.size w w') (hd : d ≤ w.heap.size) : RKeep d r w w' := ⟨h.mono hd, fun b _ hs _ => h.block b hs⟩
theorem rkeep_grown {w w' : World} {d n sz : Nat} {v : Value} {xs : List Value} (ho : w.ownsRow (d + 1) 81 sz v n xs) (hg : w.grownBy w' v.ownBlock) (hd : d ≤ w.heap.size) : RKeep d v.ownBlock w w' :=
  ⟨(Below.refl d w).grown hg hd (fun k e => by have := (ho.lt k e).1; omega), fun b _ hs ht => hg.block b hs (fun e => ht e.symm)⟩
theorem rkeep_set {w : World} {d j : Nat} {r : Option Nat} (u : Value) : RKeep d r w (w.setCell ⟨d, j, none⟩ u) :=
  ⟨(Below.refl d w).setCell (p := ⟨d, j, none⟩) (Nat.le_refl _) u, fun b hb _ _ => heap_setCell_other w ⟨d, j, none⟩ b u (by show b ≠ d; omega)⟩
theorem RKeep.set_new {d : Nat} {r : Option Nat} {w W : World} (h : RKeep d r w W) {b : Nat} (hb : w.heap.size ≤ b) (hd : d ≤ b) (j : Nat) (u : Value) : RKeep d r w (W.setCell ⟨b, j, none⟩ u) :=
  ⟨h.below.setCell (p := ⟨b, j, none⟩) hd u, fun k hk hs ht => (heap_setCell_other W ⟨b, j, none⟩ k u (by show k ≠ b; omega)).trans (h.others k hk hs ht)⟩
theorem RKeep.keep {w w' : World} {d n sz : Nat} {v : Value} {xs : List Value} (h : RKeep d v.ownBlock w w') (ho : w.ownsRow (d + 1) 81 sz v n xs) : DKeep d w w' :=
  ⟨h.below, fun b hb hs ht => h.others b hb hs (fun e => by
    rcases ho.2 with ⟨rfl, _⟩ | ⟨g, cap, cur, rfl, _, hgb, _⟩
    · simp [Value.ownBlock] at e
    · obtain rfl : g = b := by simpa [Value.ownBlock] using e
      exact ht _ _ hgb)⟩
theorem own_same (A : Option Addr) (n m c k : Nat) : Value.ownBlock (.slice A n c) = Value.ownBlock (.slice A m k) := by cases A <;> rfl
theorem del_facts {d c q : Nat} {A : Option Addr} {S : DS} {u w4 : World} {rest : List Fl} (hd : Dk d A c S u) (hq : rest.length = q)
    (o4 : w4.ownsRow (d + 1) 81 3 (.slice A q c) q (rest.flatMap fC)) (g4 : u.grownBy w4 (Value.ownBlock (.slice A S.fs.length c))) :
    w4.cell? ⟨d, 0, none⟩ = some (.slice A S.fs.length c) ∧ w4.frozen? ⟨d, 0, none⟩ = false ∧ Dk d A c { S with fs := rest } (w4.setCell ⟨d, 0, none⟩ (.slice A q c)) ∧ RKeep d (Value.ownBlock (.slice A S.fs.length c)) u (w4.setCell ⟨d, 0, none⟩ (.slice A q c)) := by
  subst hq
  have hne : some d ≠ Value.ownBlock (.slice A S.fs.length c) := fun e => by have := (hd.row.lt d e.symm).1; omega
  have hb : w4.heap[d]? = some (.cells #[.slice A S.fs.length c, .int .i64 S.room, .bool S.made, .bool S.on, .int .i64 S.fuse, .int .i64 S.ops] 71 (0, 0)) := (g4.block d hd.lt hne).trans hd.box
  exact ⟨bx_cells hb 0, bx_free hb 0, ⟨by simpa using bx_set hb 0 (.slice A rest.length c), dk_row_other o4 _⟩, (rkeep_grown hd.row g4 (Nat.le_of_lt hd.lt)).trans (rkeep_set _)⟩
theorem grown_box {w w' : World} {v : Value} (hg : w.grownBy w' v.ownBlock) {b : Nat} {o : Obj} (hb : w.heap[b]? = some o) (hne : v.ownBlock ≠ some b) : w'.heap[b]? = some o :=
  (hg.block b (bx_lt hb) (fun e => hne e.symm)).trans hb
theorem own_ne {g n c b : Nat} (h : g ≠ b) : Value.ownBlock (.slice (some ⟨g, 0, none⟩) n c) ≠ some b := by simpa [Value.ownBlock] using h
theorem kept_new {w : World} {b : Nat} {o : Obj} (h : w.heap[b]? = some o) (o' : Obj) : (w.alloc o').heap[b]? = some o := (Below.heap_alloc _ _ _ (bx_lt h)).trans h
theorem Dk.set_other {d : Nat} {A : Option Addr} {c : Nat} {S : DS} {w : World} (h : Dk d A c S w) {b : Nat} (hb : b ≠ d) (hr : Value.ownBlock (.slice A S.fs.length c) ≠ some b) (j : Nat) (u : Value) : Dk d A c S (w.setCell ⟨b, j, none⟩ u) :=
  ⟨(Below.heap_setCell w ⟨b, j, none⟩ u d (fun e => hb e.symm)).trans h.box, h.row.kept (row := some b) ⟨rfl, rfl, rfl, by simp, fun k _ hk => heap_setCell_other w ⟨b, j, none⟩ k u (fun e => hk (by simp [e]))⟩ (.inr hr)⟩
theorem DKeep.set_new {d : Nat} {w W : World} (h : DKeep d w W) {b : Nat} (hb : w.heap.size ≤ b) (hd : d ≤ b) (j : Nat) (u : Value) : DKeep d w (W.setCell ⟨b, j, none⟩ u) :=
  ⟨h.below.setCell (p := ⟨b, j, none⟩) hd u, fun k hk hs ht => (heap_setCell_other W ⟨b, j, none⟩ k u (by show k ≠ b; omega)).trans (h.others k hk hs ht)⟩

set_option maxRecDepth 100000 in
set_option maxHeartbeats 4000000 in
theorem disk_take' (d : Nat) (A : Option Addr) (c : Nat) (S : DS) (hs : Sorted S.fs) (hl : S.fs.length ≤ 900) (nm : ByteArray) (w : World) (h : Dk d A c S w) :
    Calls Tryz.prog 70 #[.pointer (some ⟨d, 0, none⟩), .string nm] w fun e w' => e = .returned (flV (fileF S.fs nm)) ∧ Dk d A c { S with fs := delF S.fs nm } w' ∧ RKeep d (Value.ownBlock (.slice A S.fs.length c)) w w' := by
  have hdl := h.lt
  cases hh : has S.fs nm with
  | false =>
    have e1 : delF S.fs nm = S.fs := by unfold delF; simp [hh]
    have e2 : fileF S.fs nm = ⟨⟨#[]⟩, ⟨#[]⟩, 0⟩ := by unfold fileF; split <;> simp [hh]
    rw [e1, e2]
    have HF := Lib.hid (disk_find d A c S nm hs (by omega) (w.alloc (.cells #[.string ⟨#[]⟩, .string ⟨#[]⟩, .int .i64 0] 81)) (h.kept (alloc_kept w _)))
    rw [hh] at HF
    have hb0 := heap_alloc_new w (.cells #[.string ⟨#[]⟩, .string ⟨#[]⟩, .int .i64 0] 81)
    have hd1 := h.kept (alloc_kept w (.cells #[.string ⟨#[]⟩, .string ⟨#[]⟩, .int .i64 0] 81))
    generalize hW : w.alloc (.cells #[.string ⟨#[]⟩, .string ⟨#[]⟩, .int .i64 0] 81) = W at HF hb0 hd1
    have hbW : Below w.heap.size w W := by rw [← hW]; exact alloc_kept w _
    go_enter Tryz.func70, Tryz.ntmps70
    go_wp2_with (go_at_call 41; (with_reducible refine (HF.out).mono ?_); rintro e w1 ⟨rfl, b1⟩; have q1 := bx_kept hb0 b1; have c0 := bx_cells q1 0; have c1 := bx_cells q1 1; have c2 := bx_cells q1 2; have f0 := bx_free q1 0; have f1 := bx_free q1 1; have f2 := bx_free q1 2; have q2 := bx_cells (bx_set (bx_set (bx_set q1 0 (.string ⟨#[]⟩)) 1 (.string ⟨#[]⟩)) 2 (.int .i64 0)); have r0 := q2 0; have r1 := q2 1; have r2 := q2 2)
    have hne : Value.ownBlock (.slice A S.fs.length c) ≠ some w.heap.size := fun e => by have := (h.row.lt _ e).2; omega
    have D1 := (((hd1.kept b1).set_other (b := w.heap.size) (by omega) hne 0 (.string ⟨#[]⟩)).set_other (b := w.heap.size) (by omega) hne 1 (.string ⟨#[]⟩)).set_other (b := w.heap.size) (by omega) hne 2 (.int .i64 0)
    have K1 := (((RKeep.of_below (r := Value.ownBlock (.slice A S.fs.length c)) (hbW.trans (b1.mono hbW.size)) (Nat.le_of_lt hdl)).set_new (b := w.heap.size) (Nat.le_refl _) (Nat.le_of_lt hdl) 0 (.string ⟨#[]⟩)).set_new (b := w.heap.size) (Nat.le_refl _) (Nat.le_of_lt hdl) 1 (.string ⟨#[]⟩)).set_new (b := w.heap.size) (Nat.le_refl _) (Nat.le_of_lt hdl) 2 (.int .i64 0)
    refine bodyPost_ret (v := flV ⟨⟨#[]⟩, ⟨#[]⟩, 0⟩) (by simp [results, Tryz.results70, go_sem, flV, r0, r1, r2]) rfl ⟨rfl, D1, K1⟩
  | true =>
    obtain ⟨f, hf, -⟩ := has_some hh
    have e1 : delF S.fs nm = S.fs.take (pos S.fs nm) ++ S.fs.drop (pos S.fs nm + 1) := by unfold delF; simp [hh]
    have e2 : fileF S.fs nm = f := by unfold fileF; rw [hf]; simp [hh]
    rw [e1, e2]
    have hp := (List.getElem?_eq_some_iff.1 hf).1
    have HF := Lib.hid (disk_find d A c S nm hs (by omega) (w.alloc (.cells #[.string ⟨#[]⟩, .string ⟨#[]⟩, .int .i64 0] 81)) (h.kept (alloc_kept w _)))
    rw [hh] at HF
    have hb0 := heap_alloc_new w (.cells #[.string ⟨#[]⟩, .string ⟨#[]⟩, .int .i64 0] 81)
    have hd1 := h.kept (alloc_kept w (.cells #[.string ⟨#[]⟩, .string ⟨#[]⟩, .int .i64 0] 81))
    generalize hW : w.alloc (.cells #[.string ⟨#[]⟩, .string ⟨#[]⟩, .int .i64 0] 81) = W at HF hb0 hd1
    have hbW : Below w.heap.size w W := by rw [← hW]; exact alloc_kept w _
    obtain ⟨g, rfl, hdg, hgl⟩ := row_some h.row (by omega)
    generalize pos S.fs nm = p at HF hf hp ⊢
    have HC := Lib.hid (fun (X : World) (hd : Dk d (some ⟨g, 0, none⟩) c S X) => (And.intro (hd.row.cells (g := g) rfl (p * 3) (.string f.nm) (by have := fC_at _ p f hf 0 (by omega); rw [Nat.add_zero] at this; rw [this]; rfl)) (And.intro (hd.row.cells (g := g) rfl (p * 3 + 1) (.string f.all) (by rw [fC_at _ p f hf 1 (by omega)]; rfl)) (hd.row.cells (g := g) rfl (p * 3 + 2) (.int .i64 (f.su : Int)) (by rw [fC_at _ p f hf 2 (by omega)]; rfl)))))
    have HDEL := Lib.hid (fun (X : World) (hd : Dk d (some ⟨g, 0, none⟩) c S X) => disk_delete (d + 1) (some ⟨g, 0, none⟩) c p S.fs hl hp X hd.row)
    have HFA := Lib.hid (fun (X w4 : World) (hd : Dk d (some ⟨g, 0, none⟩) c S X) (o4 : w4.ownsRow (d + 1) 81 3 (.slice (some ⟨g, 0, none⟩) (S.fs.length - 1) c) (S.fs.length - 1) ((S.fs.take p ++ S.fs.drop (p + 1)).flatMap fC)) (g4 : X.grownBy w4 (Value.ownBlock (.slice (some ⟨g, 0, none⟩) S.fs.length c))) =>
      del_facts hd (by rw [List.length_append, List.length_take, List.length_drop]; omega) o4 g4)
    have hi1 : (p : Int) < (S.fs.length : Int) := by omega
    have hgW : g < W.heap.size := Nat.lt_of_lt_of_le hgl hbW.size
    have hb0l : w.heap.size < W.heap.size := bx_lt hb0
    clear hf h e1 e2 hh
    go_enter Tryz.func70, Tryz.ntmps70
    go_wp2_with (first
      | (go_at_call 41; (with_reducible refine (HF.out).mono ?_); rintro e w1 ⟨rfl, b1⟩; have q1 := bx_kept hb0 b1; have hdw := hd1.kept b1; have y0 := bx_cells hdw.box 0; obtain ⟨y1, y2, y3⟩ := HC.out _ hdw; rw [fl_add_0] at y1 y2 y3; have hdw2 := hdw.kept (alloc_kept w1 (.cells #[.string f.nm, .string f.all, .int .i64 (f.su : Int)] 81)); have z0 := bx_cells hdw2.box 0; have HD2 := Lib.hid (HDEL.out _ hdw2))
      | (go_at_call 88; refine (HD2.out).mono ?_; rintro e w4 ⟨rfl, o4, g4⟩; obtain ⟨z1, z2, hd5, hk5⟩ := HFA.out _ _ hdw2 o4 g4; have m4 := grown_box g4 (kept_new q1 _) (own_ne (by omega)); have m7 := grown_box g4 (heap_alloc_new w1 _) (own_ne (by have := b1.size; omega)); have n4 := (Below.heap_setCell w4 ⟨d, 0, none⟩ (.slice (some ⟨g, 0, none⟩) (S.fs.length - 1) c) w.heap.size (by show w.heap.size ≠ d; omega)).trans m4; have n7 := (Below.heap_setCell w4 ⟨d, 0, none⟩ (.slice (some ⟨g, 0, none⟩) (S.fs.length - 1) c) w1.heap.size (by have := b1.size; show w1.heap.size ≠ d; omega)).trans m7; have c0 := bx_cells n4 0; have c1 := bx_cells n4 1; have c2 := bx_cells n4 2; have f0 := bx_free n4 0; have f1 := bx_free n4 1; have f2 := bx_free n4 2; have k0 := bx_cells n7 0; have k1 := bx_cells n7 1; have k2 := bx_cells n7 2; have q2 := bx_cells (bx_set (bx_set (bx_set n4 0 (.string f.nm)) 1 (.string f.all)) 2 (.int .i64 (f.su : Int))); have r0 := q2 0; have r1 := q2 1; have r2 := q2 2))
    have hne : Value.ownBlock (.slice (some ⟨g, 0, none⟩) (S.fs.take p ++ S.fs.drop (p + 1)).length c) ≠ some w.heap.size := own_ne (by omega)
    have D1 := ((hd5.set_other (b := w.heap.size) (by omega) hne 0 (.string f.nm)).set_other (b := w.heap.size) (by omega) hne 1 (.string f.all)).set_other (b := w.heap.size) (by omega) hne 2 (.int .i64 (f.su : Int))
    have K0 : RKeep d (Value.ownBlock (.slice (some ⟨g, 0, none⟩) S.fs.length c)) w (w1.alloc (.cells #[.string f.nm, .string f.all, .int .i64 (f.su : Int)] 81)) := RKeep.of_below ((hbW.trans (b1.mono hbW.size)).trans ((alloc_kept w1 _).mono (by have := b1.size; omega))) (Nat.le_of_lt hdl)
    have K1 := (((K0.trans hk5).set_new (b := w.heap.size) (Nat.le_refl _) (Nat.le_of_lt hdl) 0 (.string f.nm)).set_new (b := w.heap.size) (Nat.le_refl _) (Nat.le_of_lt hdl) 1 (.string f.all)).set_new (b := w.heap.size) (Nat.le_refl _) (Nat.le_of_lt hdl) 2 (.int .i64 (f.su : Int))
    refine bodyPost_ret (v := flV f) (by simp [results, Tryz.results70, go_sem, flV, r0, r1, r2]) rfl ⟨rfl, D1, K1⟩
theorem disk_take (d : Nat) (A : Option Addr) (c : Nat) (S : DS) (hs : Sorted S.fs) (hl : S.fs.length ≤ 900) (nm : ByteArray) (w : World) (h : Dk d A c S w) :
    Calls Tryz.prog 70 #[.pointer (some ⟨d, 0, none⟩), .string nm] w (DPost d { S with fs := delF S.fs nm } (flV (fileF S.fs nm)) w) :=
  (disk_take' d A c S hs hl nm w h).mono fun _ _ ⟨q1, q2, q3⟩ => ⟨q1, A, c, q2, q3.keep h.row⟩
theorem delF_sub (fs : List Fl) (nm : ByteArray) : List.Sublist (delF fs nm) fs := by
  unfold delF
  split
  · have h := List.Sublist.append (List.Sublist.refl (fs.take (pos fs nm))) (List.drop_sublist 1 (fs.drop (pos fs nm)))
    rw [List.drop_drop, List.take_append_drop] at h
    exact h
  · exact List.Sublist.refl _
theorem sorted_del {fs : List Fl} (h : Sorted fs) (nm : ByteArray) : Sorted (delF fs nm) := h.sublist (delF_sub fs nm)
end Go.Proofs.YtcpmicinibfepaaGreatDoor

namespace Go.Proofs.YtcpmicinibfepaaGreatDoor
open Go.ChangeShapes Go.WideShapes Go.ChangeAt Go.RowKit Go.Deep DiskP


def removeD (S : DS) (nm : ByteArray) : DS × Int :=
  if S.on = false then (S, 9) else if has S.fs nm = false then (S, 7) else opD S fun fs => delF fs nm
theorem disk_Remove1 (d b0 b1 : Nat) (A : Option Addr) (c : Nat) (S : DS) (hs : Sorted S.fs) (hl : S.fs.length ≤ 900) (nm : ByteArray) (W : World) (h : Dk d A c S W) (h0 : W.heap[b0]? = some (.cells #[.pointer (some ⟨d, 0, none⟩)] 25 (0, 0))) (h1 : W.heap[b1]? = some (.cells #[.string nm] 9 (0, 0))) :
    Calls Tryz.prog 69 #[.pointer (some ⟨b0, 0, none⟩), .pointer (some ⟨b1, 0, none⟩)] W (DPost d { S with fs := delF S.fs nm } (.tuple #[]) W) := by
  have x0 := bx_cells h0 0
  have x1 := bx_cells h1 0
  have HT := Lib.hid (disk_take d A c S hs hl nm W h)
  clear h h0 h1
  go_enter Tryz.func69, Tryz.ntmps69
  go_wp2_with (go_at_call 70; refine (HT.out).mono ?_; rintro e w1 ⟨rfl, A1, c1, q1, q2⟩)
  go_end0
  exact ⟨rfl, A1, c1, q1, q2⟩
/-- two boxes are laid: a disk's address, a name -/
def two (w : World) (d : Nat) (nm : ByteArray) : World := (w.alloc (.cells #[.pointer (some ⟨d, 0, none⟩)] 25)).alloc (.cells #[.string nm] 9)
theorem two_facts (w : World) (d : Nat) (nm : ByteArray) : (two w d nm).heap.size = w.heap.size + 2 ∧ (two w d nm).heap[w.heap.size]? = some (.cells #[.pointer (some ⟨d, 0, none⟩)] 25 (0, 0)) ∧ (two w d nm).heap[w.heap.size + 1]? = some (.cells #[.string nm] 9 (0, 0)) ∧ Below w.heap.size w (two w d nm) := by
  refine ⟨by simp [two], ?_, ?_, ?_⟩
  · exact kept_new (heap_alloc_new w _) _
  · have := heap_alloc_new (w.alloc (.cells #[.pointer (some ⟨d, 0, none⟩)] 25)) (.cells #[.string nm] 9)
    rw [World.size_alloc] at this
    exact this
  · unfold two
    exact below_alloc' _ (below_alloc' _ (Below.refl _ w))
set_option maxRecDepth 100000 in
set_option maxHeartbeats 4000000 in
theorem disk_Remove (d : Nat) (A : Option Addr) (c : Nat) (S : DS) (hS : OkD S) (nm : ByteArray) (w : World) (h : Dk d A c S w) :
    Calls Tryz.prog 44 #[.pointer (some ⟨d, 0, none⟩), .string nm] w (DPost d (removeD S nm).1 (.int .i64 (removeD S nm).2) w) := by
  have hl : S.fs.length ≤ 1000 := by have := hS.many; omega
  have hm := hS.many
  obtain ⟨hsz, hb0, hb1, hbw⟩ := two_facts w d nm
  have hd0 := h.kept hbw
  have HF := Lib.hid (disk_find d A c S nm hS.sorted hl (two w d nm) hd0)
  have hdl := h.lt
  have e0 := bx_cells hb0 0
  have e1 := bx_cells hb1 0
  have HB := Lib.hid (fun (W : World) (b : Below (two w d nm).heap.size (two w d nm) W) => And.intro (bx_kept hb0 b) (And.intro (bx_kept hb1 b) (hd0.kept b)))
  unfold removeD
  cases hon : S.on with
  | false =>
    rw [if_pos rfl]
    generalize hp : pos S.fs nm = p at HF
    generalize hW : two w d nm = W0 at HF HB e0 e1 hbw hsz
    unfold two at hW
    go_enter Tryz.func44, Tryz.ntmps44
    go_wp2_with (first
      | (go_at_call 41; (with_reducible refine (HF.out).mono ?_); rintro e w1 ⟨rfl, b1⟩; obtain ⟨j0, j1, hd1⟩ := HB.out _ b1; have k0 := bx_cells j0 0; have k1 := bx_cells j1 0)
      | (go_at_call 30; refine (disk_On d A c S _ hd1).mono ?_; rintro e w2 ⟨rfl, rfl⟩; rw [hon]))
    go_ret
    exact ⟨rfl, A, c, hd1, DKeep.of_below (hbw.trans (b1.mono hbw.size)) (Nat.le_of_lt hdl)⟩
  | true =>
    rw [if_neg (by simp)]
    cases hh : has S.fs nm with
    | false =>
      rw [if_pos rfl]
      rw [hh] at HF
      generalize hp : pos S.fs nm = p at HF
      generalize hW : two w d nm = W0 at HF HB e0 e1 hbw hsz
      unfold two at hW
      go_enter Tryz.func44, Tryz.ntmps44
      go_wp2_with (first
        | (go_at_call 41; (with_reducible refine (HF.out).mono ?_); rintro e w1 ⟨rfl, b1⟩; obtain ⟨j0, j1, hd1⟩ := HB.out _ b1; have k0 := bx_cells j0 0; have k1 := bx_cells j1 0)
        | (go_at_call 30; refine (disk_On d A c S _ hd1).mono ?_; rintro e w2 ⟨rfl, rfl⟩; rw [hon]))
      go_ret
      exact ⟨rfl, A, c, hd1, DKeep.of_below (hbw.trans (b1.mono hbw.size)) (Nat.le_of_lt hdl)⟩
    | true =>
      rw [if_neg (by simp)]
      rw [hh] at HF
      have HOP := Lib.hid (fun (W : World) (hd : Dk d A c S W) (h0 : W.heap[w.heap.size]? = some (.cells #[.pointer (some ⟨d, 0, none⟩)] 25 (0, 0))) (h1 : W.heap[w.heap.size + 1]? = some (.cells #[.string nm] 9 (0, 0))) =>
        disk_op_with d A c S hon hS.fuse hS.ops 69 #[.pointer (some ⟨w.heap.size, 0, none⟩), .pointer (some ⟨w.heap.size + 1, 0, none⟩)] (enters_of Tryz.func69 (by kernel_rfl) rfl) (fun fs => delF fs nm) W hd
          (fun X h2 h3 => by
            obtain ⟨q1, _, _⟩ := blow_fs S
            have := disk_Remove1 d w.heap.size (w.heap.size + 1) A c (blow S).1 (by rw [q1]; exact hS.sorted) (by rw [q1]; omega) nm X h2 (dkeep_box h3 h0 (by omega) (by decide)) (dkeep_box h3 h1 (by omega) (by decide))
            rw [q1] at this
            exact this))
      generalize hp : pos S.fs nm = p at HF
      generalize hW : two w d nm = W0 at HF HB e0 e1 hbw hsz
      unfold two at hW
      clear hS h hb0 hb1 hd0
      generalize opD S (fun fs => delF fs nm) = R at HOP ⊢
      go_enter Tryz.func44, Tryz.ntmps44
      go_wp2_with (first
        | (go_at_call 41; (with_reducible refine (HF.out).mono ?_); rintro e w1 ⟨rfl, b1⟩; obtain ⟨j0, j1, hd1⟩ := HB.out _ b1; have k0 := bx_cells j0 0; have k1 := bx_cells j1 0; have HOP1 := Lib.hid (HOP.out _ hd1 j0 j1))
        | (go_at_call 30; refine (disk_On d A c S _ hd1).mono ?_; rintro e w2 ⟨rfl, rfl⟩; rw [hon])
        | (go_at_call 61; refine (HOP1.out).mono ?_; rintro e w6 ⟨rfl, A6, c6, hd6, hk6⟩))
      go_ret
      exact ⟨rfl, A6, c6, hd6, (DKeep.of_below (hbw.trans (b1.mono hbw.size)) (Nat.le_of_lt hdl)).trans hk6⟩
end Go.Proofs.YtcpmicinibfepaaGreatDoor

namespace Go.Proofs.YtcpmicinibfepaaGreatDoor
open Go.ChangeShapes Go.WideShapes Go.ChangeAt Go.RowKit Go.Deep DiskP


def cutFl (n : Nat) (f : Fl) : Fl := { f with all := f.all.extract 0 n, su := min f.su n }
def cutD (S : DS) (nm : ByteArray) (n : Int) : DS × Int :=
  if S.on = false then (S, 9) else if has S.fs nm = false then (S, 7)
  else if n < 0 ∨ (((S.fs.map fun f => f.all.size).getD (pos S.fs nm) 0 : Nat) : Int) < n then (S, 11)
  else opD S fun fs => modF fs nm (cutFl n.toNat)
theorem Dk.set_file2 {d g c : Nat} {S : DS} {w : World} (h : Dk d (some ⟨g, 0, none⟩) c S w) {k : Nat} {f : Fl} {a : ByteArray} {m : Nat} (hk : S.fs[k]? = some f) :
    Dk d (some ⟨g, 0, none⟩) c { S with fs := S.fs.set k { f with all := a, su := m } } ((w.setCell ⟨g, k * 3 + 1, none⟩ (.string a)).setCell ⟨g, k * 3 + 2, none⟩ (.int .i64 (m : Int))) ∧ DKeep d w ((w.setCell ⟨g, k * 3 + 1, none⟩ (.string a)).setCell ⟨g, k * 3 + 2, none⟩ (.int .i64 (m : Int))) := by
  obtain ⟨h1, h2⟩ := h.set_file (k := k) (f' := { f with all := a }) (r := 1) (u := .string a) hk (by omega) rfl
  have hk2 : (S.fs.set k { f with all := a })[k]? = some { f with all := a } := by
    have := (List.getElem?_eq_some_iff.1 hk).1
    rw [List.getElem?_set_self this]
  obtain ⟨h3, h4⟩ := h1.set_file (k := k) (f' := { f with all := a, su := m }) (r := 2) (u := .int .i64 (m : Int)) hk2 (by omega) rfl
  rw [List.set_set] at h3
  exact ⟨h3, h2.trans h4⟩
set_option maxRecDepth 100000 in
set_option maxHeartbeats 4000000 in
theorem disk_Cut1 (d b0 b5 b7 k n : Nat) (A : Option Addr) (c : Nat) (S : DS) (f : Fl) (hk : S.fs[k]? = some f) (hl : S.fs.length ≤ 1000) (hn : n ≤ f.all.size) (W : World) (h : Dk d A c S W) (h0 : W.heap[b0]? = some (.cells #[.pointer (some ⟨d, 0, none⟩)] 25 (0, 0))) (h7 : W.heap[b7]? = some (.cells #[.int .i64 k] 3 (0, 0))) (h5 : W.heap[b5]? = some (.cells #[.int .i64 n] 3 (0, 0))) :
    Calls Tryz.prog 77 #[.pointer (some ⟨b0, 0, none⟩), .pointer (some ⟨b7, 0, none⟩), .pointer (some ⟨b5, 0, none⟩)] W (DPost d { S with fs := S.fs.set k (cutFl n f) } (.tuple #[]) W) := by
  have hp := (List.getElem?_eq_some_iff.1 hk).1
  obtain ⟨g, rfl, hdg, hgl⟩ := row_some h.row (by omega)
  have x0 := bx_cells h0 0
  have x5 := bx_cells h5 0
  have x7 := bx_cells h7 0
  have y0 := bx_cells h.box 0
  have y1 := h.row.cells (g := g) rfl (k * 3 + 1) (.string f.all) (by rw [fC_at _ k f hk 1 (by omega)]; rfl)
  have y2 := h.row.cells (g := g) rfl (k * 3 + 2) (.int .i64 (f.su : Int)) (by rw [fC_at _ k f hk 2 (by omega)]; rfl)
  rw [fl_add_0] at y1 y2
  have y3 := h.row.frozenAt (k * 3 + 1)
  have y4 := h.row.frozenAt (k * 3 + 2)
  have hd' : Dk d (some ⟨g, 0, none⟩) c S W.drew.drew := ⟨h.box, h.row.drew.drew⟩
  obtain ⟨q1, q2⟩ := hd'.set_file2 (k := k) (a := f.all.extract 0 n) (m := min f.su n) hk
  have q3 : DKeep d W W.drew.drew := DKeep.of_below ((Below.refl _ W).drew.drew) (Nat.le_of_lt h.lt)
  have hi1 : (k : Int) < (S.fs.length : Int) := by omega
  have hi2 : (n : Int) ≤ (f.all.size : Int) := by omega
  obtain ⟨m, hm⟩ : ∃ m, min f.su n = m := ⟨_, rfl⟩
  have hmi : min (f.su : Int) (n : Int) = (m : Int) := by omega
  have hcf : cutFl n f = { f with all := f.all.extract 0 n, su := m } := by unfold cutFl; rw [hm]
  rw [hcf]
  rw [hm] at q1 q2
  clear hk h hd' h0 h5 h7 hcf hm
  go_enter Tryz.func77, Tryz.ntmps77
  go_wp2_with fail
  go_region
  go_wp2_with fail
  go_region
  go_end0
  exact ⟨rfl, _, c, q1, q3.trans q2⟩
/-- two boxes are laid: a disk's address, a number -/
def twoI (w : World) (d : Nat) (n : Int) : World := (w.alloc (.cells #[.pointer (some ⟨d, 0, none⟩)] 25)).alloc (.cells #[.int .i64 n] 3)
theorem twoI_facts (w : World) (d : Nat) (n : Int) : (twoI w d n).heap.size = w.heap.size + 2 ∧ (twoI w d n).heap[w.heap.size]? = some (.cells #[.pointer (some ⟨d, 0, none⟩)] 25 (0, 0)) ∧ (twoI w d n).heap[w.heap.size + 1]? = some (.cells #[.int .i64 n] 3 (0, 0)) ∧ Below w.heap.size w (twoI w d n) := by
  refine ⟨by simp [twoI], ?_, ?_, ?_⟩
  · exact kept_new (heap_alloc_new w _) _
  · have := heap_alloc_new (w.alloc (.cells #[.pointer (some ⟨d, 0, none⟩)] 25)) (.cells #[.int .i64 n] 3)
    rw [World.size_alloc] at this
    exact this
  · unfold twoI
    exact below_alloc' _ (below_alloc' _ (Below.refl _ w))

set_option maxRecDepth 100000 in
set_option maxHeartbeats 4000000 in
theorem disk_Cut (d : Nat) (A : Option Addr) (c : Nat) (S : DS) (hS : OkD S) (nm : ByteArray) (n : Int) (w : World) (h : Dk d A c S w) :
    Calls Tryz.prog 52 #[.pointer (some ⟨d, 0, none⟩), .string nm, .int .i64 n] w (DPost d (cutD S nm n).1 (.int .i64 (cutD S nm n).2) w) := by
  have hl : S.fs.length ≤ 1000 := by have := hS.many; omega
  have hm := hS.many
  obtain ⟨hsz, hb0, hb1, hbw⟩ := twoI_facts w d n
  have hd0 := h.kept hbw
  have HF := Lib.hid (disk_find d A c S nm hS.sorted hl (twoI w d n) hd0)
  have hdl := h.lt
  have e0 := bx_cells hb0 0
  have e1 := bx_cells hb1 0
  have HB := Lib.hid (fun (W : World) (b : Below (twoI w d n).heap.size (twoI w d n) W) => And.intro (bx_kept hb0 b) (And.intro (bx_kept hb1 b) (hd0.kept b)))
  have HBA := Lib.hid (fun (W : World) (u : Value) (b : Below (twoI w d n).heap.size (twoI w d n) W) => (b.alloc b.size (.cells #[u] 3) : Below (twoI w d n).heap.size (twoI w d n) (W.alloc (.cells #[u] 3))))
  unfold cutD
  cases hon : S.on with
  | false =>
    rw [if_pos rfl]
    generalize hp : pos S.fs nm = p at HF
    generalize hW : twoI w d n = W0 at HF HB HBA e0 e1 hbw hsz
    unfold twoI at hW
    go_enter Tryz.func52, Tryz.ntmps52
    go_wp2_with (first
      | (go_at_call 41; (with_reducible refine (HF.out).mono ?_); rintro e w1 ⟨rfl, b1⟩; have b2 := HBA.out _ (.int .i64 p) b1; obtain ⟨j0, j1, hd1⟩ := HB.out _ b2; have k0 := bx_cells j0 0; have k1 := bx_cells j1 0)
      | (go_at_call 30; refine (disk_On d A c S _ hd1).mono ?_; rintro e w2 ⟨rfl, rfl⟩; rw [hon]))
    go_ret
    exact ⟨rfl, A, c, hd1, DKeep.of_below (hbw.trans (b2.mono hbw.size)) (Nat.le_of_lt hdl)⟩
  | true =>
    rw [if_neg (by simp)]
    cases hh : has S.fs nm with
    | false =>
      rw [if_pos rfl]
      rw [hh] at HF
      generalize hp : pos S.fs nm = p at HF
      generalize hW : twoI w d n = W0 at HF HB HBA e0 e1 hbw hsz
      unfold twoI at hW
      go_enter Tryz.func52, Tryz.ntmps52
      go_wp2_with (first
        | (go_at_call 41; (with_reducible refine (HF.out).mono ?_); rintro e w1 ⟨rfl, b1⟩; have b2 := HBA.out _ (.int .i64 p) b1; obtain ⟨j0, j1, hd1⟩ := HB.out _ b2; have k0 := bx_cells j0 0; have k1 := bx_cells j1 0)
        | (go_at_call 30; refine (disk_On d A c S _ hd1).mono ?_; rintro e w2 ⟨rfl, rfl⟩; rw [hon]))
      go_ret
      exact ⟨rfl, A, c, hd1, DKeep.of_below (hbw.trans (b2.mono hbw.size)) (Nat.le_of_lt hdl)⟩
    | true =>
      rw [if_neg (by simp)]
      rw [hh] at HF
      obtain ⟨f, hf, -⟩ := has_some hh
      have hgd : (S.fs.map fun f => f.all.size).getD (pos S.fs nm) 0 = f.all.size := by rw [List.getD_eq_getElem?_getD, List.getElem?_map, hf]; rfl
      rw [hgd]
      have hpl := (List.getElem?_eq_some_iff.1 hf).1
      obtain ⟨g, rfl, hdg, hgl⟩ := row_some h.row (by omega)
      by_cases hbad : n < 0 ∨ (f.all.size : Int) < n
      · rw [if_pos hbad]
        have HC := Lib.hid (fun (X : World) (hd : Dk d (some ⟨g, 0, none⟩) c S X) => hd.row.cells (g := g) rfl (pos S.fs nm * 3 + 1) (.string f.all) (by rw [fC_at _ _ f hf 1 (by omega)]; rfl))
        generalize hp : pos S.fs nm = p at HF HC hpl
        generalize hW : twoI w d n = W0 at HF HB HBA e0 e1 hbw hsz
        unfold twoI at hW
        have hi1 : (p : Int) < (S.fs.length : Int) := by omega
        clear hf hgd
        go_enter Tryz.func52, Tryz.ntmps52
        go_wp2_with (first
          | (go_at_call 41; (with_reducible refine (HF.out).mono ?_); rintro e w1 ⟨rfl, b1⟩; have b2 := HBA.out _ (.int .i64 p) b1; obtain ⟨j0, j1, hd1⟩ := HB.out _ b2; have k0 := bx_cells j0 0; have k1 := bx_cells j1 0; have j7 := heap_alloc_new w1 (.cells #[.int .i64 p] 3))
          | (go_at_call 30; refine (disk_On d _ c S _ hd1).mono ?_; rintro e w2 ⟨rfl, rfl⟩; rw [hon]))
        have y1 := HC.out _ hd1
        rw [fl_add_0] at y1
        have y0 := bx_cells hd1.box 0
        have k7 := bx_cells j7 0
        by_cases hn0 : n < 0
        · have d0 : decide (n < 0) = true := decide_eq_true hn0
          go_region
          go_wp2_with fail
          go_ret
          exact ⟨rfl, _, c, ⟨hd1.box, hd1.row.drew⟩, DKeep.of_below ((hbw.trans (b2.mono hbw.size)).drew) (Nat.le_of_lt hdl)⟩
        · have d0 : decide (n < 0) = false := decide_eq_false hn0
          have d1 : decide ((f.all.size : Int) < n) = true := decide_eq_true (hbad.resolve_left hn0)
          go_region
          go_wp2_with fail
          go_ret
          exact ⟨rfl, _, c, ⟨hd1.box, hd1.row.drew⟩, DKeep.of_below ((hbw.trans (b2.mono hbw.size)).drew) (Nat.le_of_lt hdl)⟩
      · rw [if_neg hbad]
        obtain ⟨m, rfl⟩ : ∃ m : Nat, n = (m : Int) := ⟨n.toNat, by omega⟩
        have hml : m ≤ f.all.size := by omega
        rw [Int.toNat_natCast]
        have hmod : modF S.fs nm (cutFl m) = S.fs.set (pos S.fs nm) (cutFl m f) := by unfold modF; rw [hf]
        have HC := Lib.hid (fun (X : World) (hd : Dk d (some ⟨g, 0, none⟩) c S X) => hd.row.cells (g := g) rfl (pos S.fs nm * 3 + 1) (.string f.all) (by rw [fC_at _ _ f hf 1 (by omega)]; rfl))
        generalize hp : pos S.fs nm = p at HF HC hpl hf hmod
        have HOP := Lib.hid (fun (W : World) (b7 : Nat) (hd : Dk d (some ⟨g, 0, none⟩) c S W) (h0 : W.heap[w.heap.size]? = some (.cells #[.pointer (some ⟨d, 0, none⟩)] 25 (0, 0))) (h5 : W.heap[w.heap.size + 1]? = some (.cells #[.int .i64 m] 3 (0, 0))) (h7 : W.heap[b7]? = some (.cells #[.int .i64 p] 3 (0, 0))) (hb7 : b7 ≠ d) =>
          disk_op_with d _ c S hon hS.fuse hS.ops 77 #[.pointer (some ⟨w.heap.size, 0, none⟩), .pointer (some ⟨b7, 0, none⟩), .pointer (some ⟨w.heap.size + 1, 0, none⟩)] (enters_of Tryz.func77 (by kernel_rfl) rfl) (fun fs => modF fs nm (cutFl m)) W hd
            (fun X q1 q2 => by
              obtain ⟨q3, _, _⟩ := blow_fs S
              have := disk_Cut1 d w.heap.size (w.heap.size + 1) b7 p m _ c (blow S).1 f (by rw [q3]; exact hf) (by rw [q3]; exact hl) hml X q1 (dkeep_box q2 h0 (by omega) (by decide)) (dkeep_box q2 h7 hb7 (by decide)) (dkeep_box q2 h5 (by omega) (by decide))
              rw [q3, ← hmod] at this
              exact this))
        generalize hW : twoI w d (m : Int) = W0 at HF HB HBA e0 e1 hbw hsz
        unfold twoI at hW
        have hi1 : (p : Int) < (S.fs.length : Int) := by omega
        have d0 : decide ((m : Int) < 0) = false := decide_eq_false (by omega)
        have d1 : decide ((f.all.size : Int) < (m : Int)) = false := decide_eq_false (by omega)
        clear hf hgd hmod hS h hb0 hb1 hd0
        generalize opD S (fun fs => modF fs nm (cutFl m)) = R at HOP ⊢
        go_enter Tryz.func52, Tryz.ntmps52
        go_wp2_with (first
          | (go_at_call 41; (with_reducible refine (HF.out).mono ?_); rintro e w1 ⟨rfl, b1⟩; have b2 := HBA.out _ (.int .i64 p) b1; obtain ⟨j0, j1, hd1⟩ := HB.out _ b2; have k0 := bx_cells j0 0; have k1 := bx_cells j1 0; have j7 := heap_alloc_new w1 (.cells #[.int .i64 p] 3))
          | (go_at_call 30; refine (disk_On d _ c S _ hd1).mono ?_; rintro e w2 ⟨rfl, rfl⟩; rw [hon]))
        have y1 := HC.out _ hd1
        rw [fl_add_0] at y1
        have y0 := bx_cells hd1.box 0
        have k7 := bx_cells j7 0
        have hdd : Dk d (some ⟨g, 0, none⟩) c S (w1.alloc (.cells #[.int .i64 p] 3)).drew := ⟨hd1.box, hd1.row.drew⟩
        have HOP1 := Lib.hid (HOP.out (w1.alloc (.cells #[.int .i64 p] 3)).drew w1.heap.size hdd j0 j1 j7 (by have := b1.size; omega))
        go_region
        go_wp2_with (go_at_call 61; refine (HOP1.out).mono ?_; rintro e w6 ⟨rfl, A6, c6, hd6, hk6⟩)
        go_ret
        exact ⟨rfl, A6, c6, hd6, (DKeep.of_below ((hbw.trans (b2.mono hbw.size)).drew) (Nat.le_of_lt hdl)).trans hk6⟩
end Go.Proofs.YtcpmicinibfepaaGreatDoor
