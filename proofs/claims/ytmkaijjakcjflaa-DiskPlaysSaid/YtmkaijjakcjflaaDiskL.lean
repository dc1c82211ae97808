/- Walks of layer 7 (disk): take, Remove. -/
import Derived.Test.YtmkaijjakcjflaaDiskK
namespace Go.Proofs.Ytmkaijjakcjflaa
open Go.ChangeShapes Go.WideShapes Go.ChangeAt Go.RowKit Go.Deep DiskP

def flV (f : Fl) : Value := .agg #[.string f.nm, .string f.all, .int .i64 (f.su : Int)]
def delF (fs : List Fl) (nm : ByteArray) : List Fl := if has fs nm then fs.take (pos fs nm) ++ fs.drop (pos fs nm + 1) else fs
def fileF (fs : List Fl) (nm : ByteArray) : Fl := match fs[pos fs nm]? with
  | some f => if has fs nm then f else ⟨⟨#[]⟩, ⟨#[]⟩, 0⟩
  | none => ⟨⟨#[]⟩, ⟨#[]⟩, 0⟩
/-- as DKeep, but of rows of files only the one named may be turned -/
structure RKeep (d : Nat) (r : Option Nat) (w w' : World) : Prop where
  below : Below d w w'
  others : ∀ b, d < b → b < w.heap.size → r ≠ some b → w'.heap[b]? = w.heap[b]?
theorem RKeep.trans {d : Nat} {r : Option Nat} {a b c : World} (h : RKeep d r a b) (k : RKeep d r b c) : RKeep d r a c :=
  ⟨h.below.trans k.below, fun x hx hs ht => (k.others x hx (Nat.lt_of_lt_of_le hs h.below.size) ht).trans (h.others x hx hs ht)⟩
theorem RKeep.of_below {d : Nat} {r : Option Nat} {w w' : World} (h : Below w.heap.size w w') (hd : d ≤ w.heap.size) : RKeep d r w w' := ⟨h.mono hd, fun b _ hs _ => h.block b hs⟩
theorem rkeep_grown {w w' : World} {d n sz : Nat} {v : Value} {xs : List Value} (ho : w.ownsRow (d + 1) 67 sz v n xs) (hg : w.grownBy w' v.ownBlock) (hd : d ≤ w.heap.size) : RKeep d v.ownBlock w w' :=
  ⟨(Below.refl d w).grown hg hd (fun k e => by have := (ho.lt k e).1; omega), fun b _ hs ht => hg.block b hs (fun e => ht e.symm)⟩
theorem rkeep_set {w : World} {d j : Nat} {r : Option Nat} (u : Value) : RKeep d r w (w.setCell ⟨d, j, none⟩ u) :=
  ⟨(Below.refl d w).setCell (p := ⟨d, j, none⟩) (Nat.le_refl _) u, fun b hb _ _ => heap_setCell_other w ⟨d, j, none⟩ b u (by show b ≠ d; omega)⟩
theorem RKeep.set_new {d : Nat} {r : Option Nat} {w W : World} (h : RKeep d r w W) {b : Nat} (hb : w.heap.size ≤ b) (hd : d ≤ b) (j : Nat) (u : Value) : RKeep d r w (W.setCell ⟨b, j, none⟩ u) :=
  ⟨h.below.setCell (p := ⟨b, j, none⟩) hd u, fun k hk hs ht => (heap_setCell_other W ⟨b, j, none⟩ k u (by show k ≠ b; omega)).trans (h.others k hk hs ht)⟩
theorem RKeep.keep {w w' : World} {d n sz : Nat} {v : Value} {xs : List Value} (h : RKeep d v.ownBlock w w') (ho : w.ownsRow (d + 1) 67 sz v n xs) : DKeep d w w' :=
  ⟨h.below, fun b hb hs ht => h.others b hb hs (fun e => by
    rcases ho.2 with ⟨rfl, _⟩ | ⟨g, cap, cur, rfl, _, hgb, _⟩
    · simp [Value.ownBlock] at e
    · obtain rfl : g = b := by simpa [Value.ownBlock] using e
      exact ht _ _ hgb)⟩
theorem own_same (A : Option Addr) (n m c k : Nat) : Value.ownBlock (.slice A n c) = Value.ownBlock (.slice A m k) := by cases A <;> rfl
theorem del_facts {d c q : Nat} {A : Option Addr} {S : DS} {u w4 : World} {rest : List Fl} (hd : Dk d A c S u) (hq : rest.length = q)
    (o4 : w4.ownsRow (d + 1) 67 3 (.slice A q c) q (rest.flatMap fC)) (g4 : u.grownBy w4 (Value.ownBlock (.slice A S.fs.length c))) :
    w4.cell? ⟨d, 0, none⟩ = some (.slice A S.fs.length c) ∧ w4.frozen? ⟨d, 0, none⟩ = false ∧ Dk d A c { S with fs := rest } (w4.setCell ⟨d, 0, none⟩ (.slice A q c)) ∧ RKeep d (Value.ownBlock (.slice A S.fs.length c)) u (w4.setCell ⟨d, 0, none⟩ (.slice A q c)) := by
  subst hq
  have hne : some d ≠ Value.ownBlock (.slice A S.fs.length c) := fun e => by have := (hd.row.lt d e.symm).1; omega
  have hb : w4.heap[d]? = some (.cells #[.slice A S.fs.length c, .int .i64 S.room, .bool S.made, .bool S.on, .int .i64 S.fuse, .int .i64 S.ops] 44 (0, 0)) := (g4.block d hd.lt hne).trans hd.box
  exact ⟨bx_cells hb 0, bx_free hb 0, ⟨by simpa using bx_set hb 0 (.slice A rest.length c), dk_row_other o4 _⟩, (rkeep_grown hd.row g4 (Nat.le_of_lt hd.lt)).trans (rkeep_set _)⟩
theorem grown_box {w w' : World} {v : Value} (hg : w.grownBy w' v.ownBlock) {b : Nat} {o : Obj} (hb : w.heap[b]? = some o) (hne : v.ownBlock ≠ some b) : w'.heap[b]? = some o :=
  (hg.block b (bx_lt hb) (fun e => hne e.symm)).trans hb
theorem own_ne {g n c b : Nat} (h : g ≠ b) : Value.ownBlock (.slice (some ⟨g, 0, none⟩) n c) ≠ some b := by simpa [Value.ownBlock] using h
theorem kept_new {w : World} {b : Nat} {o : Obj} (h : w.heap[b]? = some o) (o' : Obj) : (w.alloc o').heap[b]? = some o := (Below.heap_alloc _ _ _ (bx_lt h)).trans h
theorem Dk.set_other {d : Nat} {A : Option Addr} {c : Nat} {S : DS} {w : World} (h : Dk d A c S w) {b : Nat} (hb : b ≠ d) (hr : Value.ownBlock (.slice A S.fs.length c) ≠ some b) (j : Nat) (u : Value) : Dk d A c S (w.setCell ⟨b, j, none⟩ u) :=
  ⟨(Below.heap_setCell w ⟨b, j, none⟩ u d (fun e => hb e.symm)).trans h.box, h.row.kept (row := some b) ⟨rfl, rfl, rfl, by simp, fun k _ hk => heap_setCell_other w ⟨b, j, none⟩ k u (fun e => hk (by simp [e]))⟩ (.inr hr)⟩
theorem DKeep.set_new {d : Nat} {w W : World} (h : DKeep d w W) {b : Nat} (hb : w.heap.size ≤ b) (hd : d ≤ b) (j : Nat) (u : Value) : DKeep d w (W.setCell ⟨b, j, none⟩ u) :=
  ⟨h.below.setCell (p := ⟨b, j, none⟩) hd u, fun k hk hs ht => (heap_setCell_other W ⟨b, j, none⟩ k u (by show k ≠ b; omega)).trans (h.others k hk hs ht)⟩

set_option maxRecDepth 100000 in
set_option maxHeartbeats 4000000 in
theorem disk_take' (d : Nat) (A : Option Addr) (c : Nat) (S : DS) (hs : Sorted S.fs) (hl : S.fs.length ≤ 900) (nm : ByteArray) (w : World) (h : Dk d A c S w) :
    Calls Try.prog 46 #[.pointer (some ⟨d, 0, none⟩), .string nm] w fun e w' => e = .returned (flV (fileF S.fs nm)) ∧ Dk d A c { S with fs := delF S.fs nm } w' ∧ RKeep d (Value.ownBlock (.slice A S.fs.length c)) w w' := by
  have hdl := h.lt
  cases hh : has S.fs nm with
  | false =>
    have e1 : delF S.fs nm = S.fs := by unfold delF; simp [hh]
    have e2 : fileF S.fs nm = ⟨⟨#[]⟩, ⟨#[]⟩, 0⟩ := by unfold fileF; split <;> simp [hh]
    rw [e1, e2]
    have HF := Lib.hid (disk_find d A c S nm hs (by omega) (w.alloc (.cells #[.string ⟨#[]⟩, .string ⟨#[]⟩, .int .i64 0] 67)) (h.kept (alloc_kept w _)))
    rw [hh] at HF
    have hb0 := heap_alloc_new w (.cells #[.string ⟨#[]⟩, .string ⟨#[]⟩, .int .i64 0] 67)
    have hd1 := h.kept (alloc_kept w (.cells #[.string ⟨#[]⟩, .string ⟨#[]⟩, .int .i64 0] 67))
    generalize hW : w.alloc (.cells #[.string ⟨#[]⟩, .string ⟨#[]⟩, .int .i64 0] 67) = W at HF hb0 hd1
    have hbW : Below w.heap.size w W := by rw [← hW]; exact alloc_kept w _
    go_enter Try.func46, Try.ntmps46
    go_wp2_with (go_at_call 34; (with_reducible refine (HF.out).mono ?_); rintro e w1 ⟨rfl, b1⟩; have q1 := bx_kept hb0 b1; have c0 := bx_cells q1 0; have c1 := bx_cells q1 1; have c2 := bx_cells q1 2; have f0 := bx_free q1 0; have f1 := bx_free q1 1; have f2 := bx_free q1 2; have q2 := bx_cells (bx_set (bx_set (bx_set q1 0 (.string ⟨#[]⟩)) 1 (.string ⟨#[]⟩)) 2 (.int .i64 0)); have r0 := q2 0; have r1 := q2 1; have r2 := q2 2)
    have hne : Value.ownBlock (.slice A S.fs.length c) ≠ some w.heap.size := fun e => by have := (h.row.lt _ e).2; omega
    have D1 := (((hd1.kept b1).set_other (b := w.heap.size) (by omega) hne 0 (.string ⟨#[]⟩)).set_other (b := w.heap.size) (by omega) hne 1 (.string ⟨#[]⟩)).set_other (b := w.heap.size) (by omega) hne 2 (.int .i64 0)
    have K1 := (((RKeep.of_below (r := Value.ownBlock (.slice A S.fs.length c)) (hbW.trans (b1.mono hbW.size)) (Nat.le_of_lt hdl)).set_new (b := w.heap.size) (Nat.le_refl _) (Nat.le_of_lt hdl) 0 (.string ⟨#[]⟩)).set_new (b := w.heap.size) (Nat.le_refl _) (Nat.le_of_lt hdl) 1 (.string ⟨#[]⟩)).set_new (b := w.heap.size) (Nat.le_refl _) (Nat.le_of_lt hdl) 2 (.int .i64 0)
    refine bodyPost_ret (v := flV ⟨⟨#[]⟩, ⟨#[]⟩, 0⟩) (by simp [results, Try.results46, go_sem, flV, r0, r1, r2]) rfl ⟨rfl, D1, K1⟩
  | true =>
    obtain ⟨f, hf, -⟩ := has_some hh
    have e1 : delF S.fs nm = S.fs.take (pos S.fs nm) ++ S.fs.drop (pos S.fs nm + 1) := by unfold delF; simp [hh]
    have e2 : fileF S.fs nm = f := by unfold fileF; rw [hf]; simp [hh]
    rw [e1, e2]
    have hp := (List.getElem?_eq_some_iff.1 hf).1
    have HF := Lib.hid (disk_find d A c S nm hs (by omega) (w.alloc (.cells #[.string ⟨#[]⟩, .string ⟨#[]⟩, .int .i64 0] 67)) (h.kept (alloc_kept w _)))
    rw [hh] at HF
    have hb0 := heap_alloc_new w (.cells #[.string ⟨#[]⟩, .string ⟨#[]⟩, .int .i64 0] 67)
    have hd1 := h.kept (alloc_kept w (.cells #[.string ⟨#[]⟩, .string ⟨#[]⟩, .int .i64 0] 67))
    generalize hW : w.alloc (.cells #[.string ⟨#[]⟩, .string ⟨#[]⟩, .int .i64 0] 67) = W at HF hb0 hd1
    have hbW : Below w.heap.size w W := by rw [← hW]; exact alloc_kept w _
    obtain ⟨g, rfl, hdg, hgl⟩ := row_some h.row (by omega)
    generalize pos S.fs nm = p at HF hf hp ⊢
    have HC := Lib.hid (fun (X : World) (hd : Dk d (some ⟨g, 0, none⟩) c S X) => (And.intro (hd.row.cells (g := g) rfl (p * 3) (.string f.nm) (by have := fC_at _ p f hf 0 (by omega); rw [Nat.add_zero] at this; rw [this]; rfl)) (And.intro (hd.row.cells (g := g) rfl (p * 3 + 1) (.string f.all) (by rw [fC_at _ p f hf 1 (by omega)]; rfl)) (hd.row.cells (g := g) rfl (p * 3 + 2) (.int .i64 (f.su : Int)) (by rw [fC_at _ p f hf 2 (by omega)]; rfl)))))
    have HDEL := Lib.hid (fun (X : World) (hd : Dk d (some ⟨g, 0, none⟩) c S X) => disk_delete (d + 1) (some ⟨g, 0, none⟩) c p S.fs hl hp X hd.row)
    have HFA := Lib.hid (fun (X w4 : World) (hd : Dk d (some ⟨g, 0, none⟩) c S X) (o4 : w4.ownsRow (d + 1) 67 3 (.slice (some ⟨g, 0, none⟩) (S.fs.length - 1) c) (S.fs.length - 1) ((S.fs.take p ++ S.fs.drop (p + 1)).flatMap fC)) (g4 : X.grownBy w4 (Value.ownBlock (.slice (some ⟨g, 0, none⟩) S.fs.length c))) =>
      del_facts hd (by rw [List.length_append, List.length_take, List.length_drop]; omega) o4 g4)
    have hi1 : (p : Int) < (S.fs.length : Int) := by omega
    have hgW : g < W.heap.size := Nat.lt_of_lt_of_le hgl hbW.size
    have hb0l : w.heap.size < W.heap.size := bx_lt hb0
    clear hf h e1 e2 hh
    go_enter Try.func46, Try.ntmps46
    go_wp2_with (first
      | (go_at_call 34; (with_reducible refine (HF.out).mono ?_); rintro e w1 ⟨rfl, b1⟩; have q1 := bx_kept hb0 b1; have hdw := hd1.kept b1; have y0 := bx_cells hdw.box 0; obtain ⟨y1, y2, y3⟩ := HC.out _ hdw; rw [fl_add_0] at y1 y2 y3; have hdw2 := hdw.kept (alloc_kept w1 (.cells #[.string f.nm, .string f.all, .int .i64 (f.su : Int)] 67)); have z0 := bx_cells hdw2.box 0; have HD2 := Lib.hid (HDEL.out _ hdw2))
      | (go_at_call 59; refine (HD2.out).mono ?_; rintro e w4 ⟨rfl, o4, g4⟩; obtain ⟨z1, z2, hd5, hk5⟩ := HFA.out _ _ hdw2 o4 g4; have m4 := grown_box g4 (kept_new q1 _) (own_ne (by omega)); have m7 := grown_box g4 (heap_alloc_new w1 _) (own_ne (by have := b1.size; omega)); have n4 := (Below.heap_setCell w4 ⟨d, 0, none⟩ (.slice (some ⟨g, 0, none⟩) (S.fs.length - 1) c) w.heap.size (by show w.heap.size ≠ d; omega)).trans m4; have n7 := (Below.heap_setCell w4 ⟨d, 0, none⟩ (.slice (some ⟨g, 0, none⟩) (S.fs.length - 1) c) w1.heap.size (by have := b1.size; show w1.heap.size ≠ d; omega)).trans m7; have c0 := bx_cells n4 0; have c1 := bx_cells n4 1; have c2 := bx_cells n4 2; have f0 := bx_free n4 0; have f1 := bx_free n4 1; have f2 := bx_free n4 2; have k0 := bx_cells n7 0; have k1 := bx_cells n7 1; have k2 := bx_cells n7 2; have q2 := bx_cells (bx_set (bx_set (bx_set n4 0 (.string f.nm)) 1 (.string f.all)) 2 (.int .i64 (f.su : Int))); have r0 := q2 0; have r1 := q2 1; have r2 := q2 2))
    have hne : Value.ownBlock (.slice (some ⟨g, 0, none⟩) (S.fs.take p ++ S.fs.drop (p + 1)).length c) ≠ some w.heap.size := own_ne (by omega)
    have D1 := ((hd5.set_other (b := w.heap.size) (by omega) hne 0 (.string f.nm)).set_other (b := w.heap.size) (by omega) hne 1 (.string f.all)).set_other (b := w.heap.size) (by omega) hne 2 (.int .i64 (f.su : Int))
    have K0 : RKeep d (Value.ownBlock (.slice (some ⟨g, 0, none⟩) S.fs.length c)) w (w1.alloc (.cells #[.string f.nm, .string f.all, .int .i64 (f.su : Int)] 67)) := RKeep.of_below ((hbW.trans (b1.mono hbW.size)).trans ((alloc_kept w1 _).mono (by have := b1.size; omega))) (Nat.le_of_lt hdl)
    have K1 := (((K0.trans hk5).set_new (b := w.heap.size) (Nat.le_refl _) (Nat.le_of_lt hdl) 0 (.string f.nm)).set_new (b := w.heap.size) (Nat.le_refl _) (Nat.le_of_lt hdl) 1 (.string f.all)).set_new (b := w.heap.size) (Nat.le_refl _) (Nat.le_of_lt hdl) 2 (.int .i64 (f.su : Int))
    refine bodyPost_ret (v := flV f) (by simp [results, Try.results46, go_sem, flV, r0, r1, r2]) rfl ⟨rfl, D1, K1⟩
theorem disk_take (d : Nat) (A : Option Addr) (c : Nat) (S : DS) (hs : Sorted S.fs) (hl : S.fs.length ≤ 900) (nm : ByteArray) (w : World) (h : Dk d A c S w) :
    Calls Try.prog 46 #[.pointer (some ⟨d, 0, none⟩), .string nm] w (DPost d { S with fs := delF S.fs nm } (flV (fileF S.fs nm)) w) :=
  (disk_take' d A c S hs hl nm w h).mono fun _ _ ⟨q1, q2, q3⟩ => ⟨q1, A, c, q2, q3.keep h.row⟩
theorem delF_sub (fs : List Fl) (nm : ByteArray) : List.Sublist (delF fs nm) fs := by
  unfold delF
  split
  · have h := List.Sublist.append (List.Sublist.refl (fs.take (pos fs nm))) (List.drop_sublist 1 (fs.drop (pos fs nm)))
    rw [List.drop_drop, List.take_append_drop] at h
    exact h
  · exact List.Sublist.refl _
theorem sorted_del {fs : List Fl} (h : Sorted fs) (nm : ByteArray) : Sorted (delF fs nm) := h.sublist (delF_sub fs nm)
end Go.Proofs.Ytmkaijjakcjflaa
