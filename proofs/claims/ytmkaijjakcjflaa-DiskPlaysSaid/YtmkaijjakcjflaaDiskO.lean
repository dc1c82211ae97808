/- Walks of layer 7 (disk): Cut. -/
import Derived.Test.YtmkaijjakcjflaaDiskM
namespace Go.Proofs.Ytmkaijjakcjflaa
open Go.ChangeShapes Go.WideShapes Go.ChangeAt Go.RowKit Go.Deep DiskP

def cutFl (n : Nat) (f : Fl) : Fl := { f with all := f.all.extract 0 n, su := min f.su n }
def cutD (S : DS) (nm : ByteArray) (n : Int) : DS × Int :=
  if S.on = false then (S, 9) else if has S.fs nm = false then (S, 7)
  else if n < 0 ∨ (((S.fs.map fun f => f.all.size).getD (pos S.fs nm) 0 : Nat) : Int) < n then (S, 11)
  else opD S fun fs => modF fs nm (cutFl n.toNat)
theorem Dk.set_file2 {d g c : Nat} {S : DS} {w : World} (h : Dk d (some ⟨g, 0, none⟩) c S w) {k : Nat} {f : Fl} {a : ByteArray} {m : Nat} (hk : S.fs[k]? = some f) :
    Dk d (some ⟨g, 0, none⟩) c { S with fs := S.fs.set k { f with all := a, su := m } } ((w.setCell ⟨g, k * 3 + 1, none⟩ (.string a)).setCell ⟨g, k * 3 + 2, none⟩ (.int .i64 (m : Int))) ∧ DKeep d w ((w.setCell ⟨g, k * 3 + 1, none⟩ (.string a)).setCell ⟨g, k * 3 + 2, none⟩ (.int .i64 (m : Int))) := by
  obtain ⟨h1, h2⟩ := h.set_file (k := k) (f' := { f with all := a }) (r := 1) (u := .string a) hk (by omega) rfl
  have hk2 : (S.fs.set k { f with all := a })[k]? = some { f with all := a } := by
    have := (List.getElem?_eq_some_iff.1 hk).1
    rw [List.getElem?_set_self this]
  obtain ⟨h3, h4⟩ := h1.set_file (k := k) (f' := { f with all := a, su := m }) (r := 2) (u := .int .i64 (m : Int)) hk2 (by omega) rfl
  rw [List.set_set] at h3
  exact ⟨h3, h2.trans h4⟩
set_option maxRecDepth 100000 in
set_option maxHeartbeats 4000000 in
theorem disk_Cut1 (d b0 b5 b7 k n : Nat) (A : Option Addr) (c : Nat) (S : DS) (f : Fl) (hk : S.fs[k]? = some f) (hl : S.fs.length ≤ 1000) (hn : n ≤ f.all.size) (W : World) (h : Dk d A c S W) (h0 : W.heap[b0]? = some (.cells #[.pointer (some ⟨d, 0, none⟩)] 25 (0, 0))) (h7 : W.heap[b7]? = some (.cells #[.int .i64 k] 3 (0, 0))) (h5 : W.heap[b5]? = some (.cells #[.int .i64 n] 3 (0, 0))) :
    Calls Try.prog 48 #[.pointer (some ⟨b0, 0, none⟩), .pointer (some ⟨b7, 0, none⟩), .pointer (some ⟨b5, 0, none⟩)] W (DPost d { S with fs := S.fs.set k (cutFl n f) } (.tuple #[]) W) := by
  have hp := (List.getElem?_eq_some_iff.1 hk).1
  obtain ⟨g, rfl, hdg, hgl⟩ := row_some h.row (by omega)
  have x0 := bx_cells h0 0
  have x5 := bx_cells h5 0
  have x7 := bx_cells h7 0
  have y0 := bx_cells h.box 0
  have y1 := h.row.cells (g := g) rfl (k * 3 + 1) (.string f.all) (by rw [fC_at _ k f hk 1 (by omega)]; rfl)
  have y2 := h.row.cells (g := g) rfl (k * 3 + 2) (.int .i64 (f.su : Int)) (by rw [fC_at _ k f hk 2 (by omega)]; rfl)
  rw [fl_add_0] at y1 y2
  have y3 := h.row.frozenAt (k * 3 + 1)
  have y4 := h.row.frozenAt (k * 3 + 2)
  have hd' : Dk d (some ⟨g, 0, none⟩) c S W.drew.drew := ⟨h.box, h.row.drew.drew⟩
  obtain ⟨q1, q2⟩ := hd'.set_file2 (k := k) (a := f.all.extract 0 n) (m := min f.su n) hk
  have q3 : DKeep d W W.drew.drew := DKeep.of_below ((Below.refl _ W).drew.drew) (Nat.le_of_lt h.lt)
  have hi1 : (k : Int) < (S.fs.length : Int) := by omega
  have hi2 : (n : Int) ≤ (f.all.size : Int) := by omega
  obtain ⟨m, hm⟩ : ∃ m, min f.su n = m := ⟨_, rfl⟩
  have hmi : min (f.su : Int) (n : Int) = (m : Int) := by omega
  have hcf : cutFl n f = { f with all := f.all.extract 0 n, su := m } := by unfold cutFl; rw [hm]
  rw [hcf]
  rw [hm] at q1 q2
  clear hk h hd' h0 h5 h7 hcf hm
  go_enter Try.func48, Try.ntmps48
  go_wp2_with fail
  go_region
  go_wp2_with fail
  go_region
  go_end0
  exact ⟨rfl, _, c, q1, q3.trans q2⟩
/-- two boxes are laid: a disk's address, a number -/
def twoI (w : World) (d : Nat) (n : Int) : World := (w.alloc (.cells #[.pointer (some ⟨d, 0, none⟩)] 25)).alloc (.cells #[.int .i64 n] 3)
theorem twoI_facts (w : World) (d : Nat) (n : Int) : (twoI w d n).heap.size = w.heap.size + 2 ∧ (twoI w d n).heap[w.heap.size]? = some (.cells #[.pointer (some ⟨d, 0, none⟩)] 25 (0, 0)) ∧ (twoI w d n).heap[w.heap.size + 1]? = some (.cells #[.int .i64 n] 3 (0, 0)) ∧ Below w.heap.size w (twoI w d n) := by
  refine ⟨by simp [twoI], ?_, ?_, ?_⟩
  · exact kept_new (heap_alloc_new w _) _
  · have := heap_alloc_new (w.alloc (.cells #[.pointer (some ⟨d, 0, none⟩)] 25)) (.cells #[.int .i64 n] 3)
    rw [World.size_alloc] at this
    exact this
  · unfold twoI
    exact below_alloc' _ (below_alloc' _ (Below.refl _ w))

set_option maxRecDepth 100000 in
set_option maxHeartbeats 4000000 in
theorem disk_Cut (d : Nat) (A : Option Addr) (c : Nat) (S : DS) (hS : OkD S) (nm : ByteArray) (n : Int) (w : World) (h : Dk d A c S w) :
    Calls Try.prog 29 #[.pointer (some ⟨d, 0, none⟩), .string nm, .int .i64 n] w (DPost d (cutD S nm n).1 (.int .i64 (cutD S nm n).2) w) := by
  have hl : S.fs.length ≤ 1000 := by have := hS.many; omega
  have hm := hS.many
  obtain ⟨hsz, hb0, hb1, hbw⟩ := twoI_facts w d n
  have hd0 := h.kept hbw
  have HF := Lib.hid (disk_find d A c S nm hS.sorted hl (twoI w d n) hd0)
  have hdl := h.lt
  have e0 := bx_cells hb0 0
  have e1 := bx_cells hb1 0
  have HB := Lib.hid (fun (W : World) (b : Below (twoI w d n).heap.size (twoI w d n) W) => And.intro (bx_kept hb0 b) (And.intro (bx_kept hb1 b) (hd0.kept b)))
  have HBA := Lib.hid (fun (W : World) (u : Value) (b : Below (twoI w d n).heap.size (twoI w d n) W) => (b.alloc b.size (.cells #[u] 3) : Below (twoI w d n).heap.size (twoI w d n) (W.alloc (.cells #[u] 3))))
  unfold cutD
  cases hon : S.on with
  | false =>
    rw [if_pos rfl]
    generalize hp : pos S.fs nm = p at HF
    generalize hW : twoI w d n = W0 at HF HB HBA e0 e1 hbw hsz
    unfold twoI at hW
    go_enter Try.func29, Try.ntmps29
    go_wp2_with (first
      | (go_at_call 34; (with_reducible refine (HF.out).mono ?_); rintro e w1 ⟨rfl, b1⟩; have b2 := HBA.out _ (.int .i64 p) b1; obtain ⟨j0, j1, hd1⟩ := HB.out _ b2; have k0 := bx_cells j0 0; have k1 := bx_cells j1 0)
      | (go_at_call 11; refine (disk_On d A c S _ hd1).mono ?_; rintro e w2 ⟨rfl, rfl⟩; rw [hon]))
    go_ret
    exact ⟨rfl, A, c, hd1, DKeep.of_below (hbw.trans (b2.mono hbw.size)) (Nat.le_of_lt hdl)⟩
  | true =>
    rw [if_neg (by simp)]
    cases hh : has S.fs nm with
    | false =>
      rw [if_pos rfl]
      rw [hh] at HF
      generalize hp : pos S.fs nm = p at HF
      generalize hW : twoI w d n = W0 at HF HB HBA e0 e1 hbw hsz
      unfold twoI at hW
      go_enter Try.func29, Try.ntmps29
      go_wp2_with (first
        | (go_at_call 34; (with_reducible refine (HF.out).mono ?_); rintro e w1 ⟨rfl, b1⟩; have b2 := HBA.out _ (.int .i64 p) b1; obtain ⟨j0, j1, hd1⟩ := HB.out _ b2; have k0 := bx_cells j0 0; have k1 := bx_cells j1 0)
        | (go_at_call 11; refine (disk_On d A c S _ hd1).mono ?_; rintro e w2 ⟨rfl, rfl⟩; rw [hon]))
      go_ret
      exact ⟨rfl, A, c, hd1, DKeep.of_below (hbw.trans (b2.mono hbw.size)) (Nat.le_of_lt hdl)⟩
    | true =>
      rw [if_neg (by simp)]
      rw [hh] at HF
      obtain ⟨f, hf, -⟩ := has_some hh
      have hgd : (S.fs.map fun f => f.all.size).getD (pos S.fs nm) 0 = f.all.size := by rw [List.getD_eq_getElem?_getD, List.getElem?_map, hf]; rfl
      rw [hgd]
      have hpl := (List.getElem?_eq_some_iff.1 hf).1
      obtain ⟨g, rfl, hdg, hgl⟩ := row_some h.row (by omega)
      by_cases hbad : n < 0 ∨ (f.all.size : Int) < n
      · rw [if_pos hbad]
        have HC := Lib.hid (fun (X : World) (hd : Dk d (some ⟨g, 0, none⟩) c S X) => hd.row.cells (g := g) rfl (pos S.fs nm * 3 + 1) (.string f.all) (by rw [fC_at _ _ f hf 1 (by omega)]; rfl))
        generalize hp : pos S.fs nm = p at HF HC hpl
        generalize hW : twoI w d n = W0 at HF HB HBA e0 e1 hbw hsz
        unfold twoI at hW
        have hi1 : (p : Int) < (S.fs.length : Int) := by omega
        clear hf hgd
        go_enter Try.func29, Try.ntmps29
        go_wp2_with (first
          | (go_at_call 34; (with_reducible refine (HF.out).mono ?_); rintro e w1 ⟨rfl, b1⟩; have b2 := HBA.out _ (.int .i64 p) b1; obtain ⟨j0, j1, hd1⟩ := HB.out _ b2; have k0 := bx_cells j0 0; have k1 := bx_cells j1 0; have j7 := heap_alloc_new w1 (.cells #[.int .i64 p] 3))
          | (go_at_call 11; refine (disk_On d _ c S _ hd1).mono ?_; rintro e w2 ⟨rfl, rfl⟩; rw [hon]))
        have y1 := HC.out _ hd1
        rw [fl_add_0] at y1
        have y0 := bx_cells hd1.box 0
        have k7 := bx_cells j7 0
        by_cases hn0 : n < 0
        · have d0 : decide (n < 0) = true := decide_eq_true hn0
          go_region
          go_wp2_with fail
          go_ret
          exact ⟨rfl, _, c, ⟨hd1.box, hd1.row.drew⟩, DKeep.of_below ((hbw.trans (b2.mono hbw.size)).drew) (Nat.le_of_lt hdl)⟩
        · have d0 : decide (n < 0) = false := decide_eq_false hn0
          have d1 : decide ((f.all.size : Int) < n) = true := decide_eq_true (hbad.resolve_left hn0)
          go_region
          go_wp2_with fail
          go_ret
          exact ⟨rfl, _, c, ⟨hd1.box, hd1.row.drew⟩, DKeep.of_below ((hbw.trans (b2.mono hbw.size)).drew) (Nat.le_of_lt hdl)⟩
      · rw [if_neg hbad]
        obtain ⟨m, rfl⟩ : ∃ m : Nat, n = (m : Int) := ⟨n.toNat, by omega⟩
        have hml : m ≤ f.all.size := by omega
        rw [Int.toNat_natCast]
        have hmod : modF S.fs nm (cutFl m) = S.fs.set (pos S.fs nm) (cutFl m f) := by unfold modF; rw [hf]
        have HC := Lib.hid (fun (X : World) (hd : Dk d (some ⟨g, 0, none⟩) c S X) => hd.row.cells (g := g) rfl (pos S.fs nm * 3 + 1) (.string f.all) (by rw [fC_at _ _ f hf 1 (by omega)]; rfl))
        generalize hp : pos S.fs nm = p at HF HC hpl hf hmod
        have HOP := Lib.hid (fun (W : World) (b7 : Nat) (hd : Dk d (some ⟨g, 0, none⟩) c S W) (h0 : W.heap[w.heap.size]? = some (.cells #[.pointer (some ⟨d, 0, none⟩)] 25 (0, 0))) (h5 : W.heap[w.heap.size + 1]? = some (.cells #[.int .i64 m] 3 (0, 0))) (h7 : W.heap[b7]? = some (.cells #[.int .i64 p] 3 (0, 0))) (hb7 : b7 ≠ d) =>
          disk_op_with d _ c S hon hS.fuse hS.ops 48 #[.pointer (some ⟨w.heap.size, 0, none⟩), .pointer (some ⟨b7, 0, none⟩), .pointer (some ⟨w.heap.size + 1, 0, none⟩)] (enters_of Try.func48 (by kernel_rfl) rfl) (fun fs => modF fs nm (cutFl m)) W hd
            (fun X q1 q2 => by
              obtain ⟨q3, _, _⟩ := blow_fs S
              have := disk_Cut1 d w.heap.size (w.heap.size + 1) b7 p m _ c (blow S).1 f (by rw [q3]; exact hf) (by rw [q3]; exact hl) hml X q1 (dkeep_box q2 h0 (by omega) (by decide)) (dkeep_box q2 h7 hb7 (by decide)) (dkeep_box q2 h5 (by omega) (by decide))
              rw [q3, ← hmod] at this
              exact this))
        generalize hW : twoI w d (m : Int) = W0 at HF HB HBA e0 e1 hbw hsz
        unfold twoI at hW
        have hi1 : (p : Int) < (S.fs.length : Int) := by omega
        have d0 : decide ((m : Int) < 0) = false := decide_eq_false (by omega)
        have d1 : decide ((f.all.size : Int) < (m : Int)) = false := decide_eq_false (by omega)
        clear hf hgd hmod hS h hb0 hb1 hd0
        generalize opD S (fun fs => modF fs nm (cutFl m)) = R at HOP ⊢
        go_enter Try.func29, Try.ntmps29
        go_wp2_with (first
          | (go_at_call 34; (with_reducible refine (HF.out).mono ?_); rintro e w1 ⟨rfl, b1⟩; have b2 := HBA.out _ (.int .i64 p) b1; obtain ⟨j0, j1, hd1⟩ := HB.out _ b2; have k0 := bx_cells j0 0; have k1 := bx_cells j1 0; have j7 := heap_alloc_new w1 (.cells #[.int .i64 p] 3))
          | (go_at_call 11; refine (disk_On d _ c S _ hd1).mono ?_; rintro e w2 ⟨rfl, rfl⟩; rw [hon]))
        have y1 := HC.out _ hd1
        rw [fl_add_0] at y1
        have y0 := bx_cells hd1.box 0
        have k7 := bx_cells j7 0
        have hdd : Dk d (some ⟨g, 0, none⟩) c S (w1.alloc (.cells #[.int .i64 p] 3)).drew := ⟨hd1.box, hd1.row.drew⟩
        have HOP1 := Lib.hid (HOP.out (w1.alloc (.cells #[.int .i64 p] 3)).drew w1.heap.size hdd j0 j1 j7 (by have := b1.size; omega))
        go_region
        go_wp2_with (go_at_call 42; refine (HOP1.out).mono ?_; rintro e w6 ⟨rfl, A6, c6, hd6, hk6⟩)
        go_ret
        exact ⟨rfl, A6, c6, hd6, (DKeep.of_below ((hbw.trans (b2.mono hbw.size)).drew) (Nat.le_of_lt hdl)).trans hk6⟩
end Go.Proofs.Ytmkaijjakcjflaa
