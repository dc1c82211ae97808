/- Walks of layer 7 (disk): Remove, Rename. -/
import Derived.Test.YtmkaijjakcjflaaDiskL
namespace Go.Proofs.Ytmkaijjakcjflaa
open Go.ChangeShapes Go.WideShapes Go.ChangeAt Go.RowKit Go.Deep DiskP

def removeD (S : DS) (nm : ByteArray) : DS × Int :=
  if S.on = false then (S, 9) else if has S.fs nm = false then (S, 7) else opD S fun fs => delF fs nm
theorem disk_Remove1 (d b0 b1 : Nat) (A : Option Addr) (c : Nat) (S : DS) (hs : Sorted S.fs) (hl : S.fs.length ≤ 900) (nm : ByteArray) (W : World) (h : Dk d A c S W) (h0 : W.heap[b0]? = some (.cells #[.pointer (some ⟨d, 0, none⟩)] 25 (0, 0))) (h1 : W.heap[b1]? = some (.cells #[.string nm] 9 (0, 0))) :
    Calls Try.prog 45 #[.pointer (some ⟨b0, 0, none⟩), .pointer (some ⟨b1, 0, none⟩)] W (DPost d { S with fs := delF S.fs nm } (.tuple #[]) W) := by
  have x0 := bx_cells h0 0
  have x1 := bx_cells h1 0
  have HT := Lib.hid (disk_take d A c S hs hl nm W h)
  clear h h0 h1
  go_enter Try.func45, Try.ntmps45
  go_wp2_with (go_at_call 46; refine (HT.out).mono ?_; rintro e w1 ⟨rfl, A1, c1, q1, q2⟩)
  go_end0
  exact ⟨rfl, A1, c1, q1, q2⟩
/-- two boxes are laid: a disk's address, a name -/
def two (w : World) (d : Nat) (nm : ByteArray) : World := (w.alloc (.cells #[.pointer (some ⟨d, 0, none⟩)] 25)).alloc (.cells #[.string nm] 9)
theorem two_facts (w : World) (d : Nat) (nm : ByteArray) : (two w d nm).heap.size = w.heap.size + 2 ∧ (two w d nm).heap[w.heap.size]? = some (.cells #[.pointer (some ⟨d, 0, none⟩)] 25 (0, 0)) ∧ (two w d nm).heap[w.heap.size + 1]? = some (.cells #[.string nm] 9 (0, 0)) ∧ Below w.heap.size w (two w d nm) := by
  refine ⟨by simp [two], ?_, ?_, ?_⟩
  · exact kept_new (heap_alloc_new w _) _
  · have := heap_alloc_new (w.alloc (.cells #[.pointer (some ⟨d, 0, none⟩)] 25)) (.cells #[.string nm] 9)
    rw [World.size_alloc] at this
    exact this
  · unfold two
    exact below_alloc' _ (below_alloc' _ (Below.refl _ w))
set_option maxRecDepth 100000 in
set_option maxHeartbeats 4000000 in
theorem disk_Remove (d : Nat) (A : Option Addr) (c : Nat) (S : DS) (hS : OkD S) (nm : ByteArray) (w : World) (h : Dk d A c S w) :
    Calls Try.prog 26 #[.pointer (some ⟨d, 0, none⟩), .string nm] w (DPost d (removeD S nm).1 (.int .i64 (removeD S nm).2) w) := by
  have hl : S.fs.length ≤ 1000 := by have := hS.many; omega
  have hm := hS.many
  obtain ⟨hsz, hb0, hb1, hbw⟩ := two_facts w d nm
  have hd0 := h.kept hbw
  have HF := Lib.hid (disk_find d A c S nm hS.sorted hl (two w d nm) hd0)
  have hdl := h.lt
  have e0 := bx_cells hb0 0
  have e1 := bx_cells hb1 0
  have HB := Lib.hid (fun (W : World) (b : Below (two w d nm).heap.size (two w d nm) W) => And.intro (bx_kept hb0 b) (And.intro (bx_kept hb1 b) (hd0.kept b)))
  unfold removeD
  cases hon : S.on with
  | false =>
    rw [if_pos rfl]
    generalize hp : pos S.fs nm = p at HF
    generalize hW : two w d nm = W0 at HF HB e0 e1 hbw hsz
    unfold two at hW
    go_enter Try.func26, Try.ntmps26
    go_wp2_with (first
      | (go_at_call 34; (with_reducible refine (HF.out).mono ?_); rintro e w1 ⟨rfl, b1⟩; obtain ⟨j0, j1, hd1⟩ := HB.out _ b1; have k0 := bx_cells j0 0; have k1 := bx_cells j1 0)
      | (go_at_call 11; refine (disk_On d A c S _ hd1).mono ?_; rintro e w2 ⟨rfl, rfl⟩; rw [hon]))
    go_ret
    exact ⟨rfl, A, c, hd1, DKeep.of_below (hbw.trans (b1.mono hbw.size)) (Nat.le_of_lt hdl)⟩
  | true =>
    rw [if_neg (by simp)]
    cases hh : has S.fs nm with
    | false =>
      rw [if_pos rfl]
      rw [hh] at HF
      generalize hp : pos S.fs nm = p at HF
      generalize hW : two w d nm = W0 at HF HB e0 e1 hbw hsz
      unfold two at hW
      go_enter Try.func26, Try.ntmps26
      go_wp2_with (first
        | (go_at_call 34; (with_reducible refine (HF.out).mono ?_); rintro e w1 ⟨rfl, b1⟩; obtain ⟨j0, j1, hd1⟩ := HB.out _ b1; have k0 := bx_cells j0 0; have k1 := bx_cells j1 0)
        | (go_at_call 11; refine (disk_On d A c S _ hd1).mono ?_; rintro e w2 ⟨rfl, rfl⟩; rw [hon]))
      go_ret
      exact ⟨rfl, A, c, hd1, DKeep.of_below (hbw.trans (b1.mono hbw.size)) (Nat.le_of_lt hdl)⟩
    | true =>
      rw [if_neg (by simp)]
      rw [hh] at HF
      have HOP := Lib.hid (fun (W : World) (hd : Dk d A c S W) (h0 : W.heap[w.heap.size]? = some (.cells #[.pointer (some ⟨d, 0, none⟩)] 25 (0, 0))) (h1 : W.heap[w.heap.size + 1]? = some (.cells #[.string nm] 9 (0, 0))) =>
        disk_op_with d A c S hon hS.fuse hS.ops 45 #[.pointer (some ⟨w.heap.size, 0, none⟩), .pointer (some ⟨w.heap.size + 1, 0, none⟩)] (enters_of Try.func45 (by kernel_rfl) rfl) (fun fs => delF fs nm) W hd
          (fun X h2 h3 => by
            obtain ⟨q1, _, _⟩ := blow_fs S
            have := disk_Remove1 d w.heap.size (w.heap.size + 1) A c (blow S).1 (by rw [q1]; exact hS.sorted) (by rw [q1]; omega) nm X h2 (dkeep_box h3 h0 (by omega) (by decide)) (dkeep_box h3 h1 (by omega) (by decide))
            rw [q1] at this
            exact this))
      generalize hp : pos S.fs nm = p at HF
      generalize hW : two w d nm = W0 at HF HB e0 e1 hbw hsz
      unfold two at hW
      clear hS h hb0 hb1 hd0
      generalize opD S (fun fs => delF fs nm) = R at HOP ⊢
      go_enter Try.func26, Try.ntmps26
      go_wp2_with (first
        | (go_at_call 34; (with_reducible refine (HF.out).mono ?_); rintro e w1 ⟨rfl, b1⟩; obtain ⟨j0, j1, hd1⟩ := HB.out _ b1; have k0 := bx_cells j0 0; have k1 := bx_cells j1 0; have HOP1 := Lib.hid (HOP.out _ hd1 j0 j1))
        | (go_at_call 11; refine (disk_On d A c S _ hd1).mono ?_; rintro e w2 ⟨rfl, rfl⟩; rw [hon])
        | (go_at_call 42; refine (HOP1.out).mono ?_; rintro e w6 ⟨rfl, A6, c6, hd6, hk6⟩))
      go_ret
      exact ⟨rfl, A6, c6, hd6, (DKeep.of_below (hbw.trans (b1.mono hbw.size)) (Nat.le_of_lt hdl)).trans hk6⟩
end Go.Proofs.Ytmkaijjakcjflaa
