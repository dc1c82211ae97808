/- Walks of layer 7 (disk): Rename. -/
import Derived.Test.YtmkaijjakcjflaaDiskN
import Derived.Test.YtmkaijjakcjflaaDiskQ
namespace Go.Proofs.Ytmkaijjakcjflaa
open Go.ChangeShapes Go.WideShapes Go.ChangeAt Go.RowKit Go.Deep DiskP

/-- three boxes are laid: a disk's address, two names -/
def three (w : World) (d : Nat) (fr to_ : ByteArray) : World := (two w d fr).alloc (.cells #[.string to_] 9)
theorem three_facts (w : World) (d : Nat) (fr to_ : ByteArray) : (three w d fr to_).heap[w.heap.size]? = some (.cells #[.pointer (some ⟨d, 0, none⟩)] 25 (0, 0)) ∧ (three w d fr to_).heap[w.heap.size + 1]? = some (.cells #[.string fr] 9 (0, 0)) ∧ (three w d fr to_).heap[w.heap.size + 1 + 1]? = some (.cells #[.string to_] 9 (0, 0)) ∧ Below w.heap.size w (three w d fr to_) := by
  obtain ⟨h1, h2, h3, h4⟩ := two_facts w d fr
  refine ⟨kept_new h2 _, kept_new h3 _, ?_, ?_⟩
  · have := heap_alloc_new (two w d fr) (.cells #[.string to_] 9)
    rw [h1] at this
    exact this
  · unfold three
    exact below_alloc' _ h4
set_option maxRecDepth 100000 in
set_option maxHeartbeats 4000000 in
theorem disk_Rename (d : Nat) (A : Option Addr) (c : Nat) (S : DS) (hS : OkD S) (fr to_ : ByteArray) (hto : to_.size ≤ 1000) (w : World) (h : Dk d A c S w) :
    Calls Try.prog 28 #[.pointer (some ⟨d, 0, none⟩), .string fr, .string to_] w (DPost d (renameD S fr to_).1 (.int .i64 (renameD S fr to_).2) w) := by
  have hl : S.fs.length ≤ 1000 := by have := hS.many; omega
  have hm := hS.many
  obtain ⟨hb0, hb1, hb2, hbw⟩ := three_facts w d fr to_
  have hd0 := h.kept hbw
  have HF := Lib.hid (disk_find d A c S fr hS.sorted hl (three w d fr to_) hd0)
  have HN := Lib.hid (fun W => disk_named to_ (by unfold maxLen; omega) W)
  have hdl := h.lt
  have e0 := bx_cells hb0 0
  have e1 := bx_cells hb1 0
  have HB := Lib.hid (fun (W : World) (b : Below (three w d fr to_).heap.size (three w d fr to_) W) => And.intro (bx_kept hb0 b) (And.intro (bx_kept hb1 b) (And.intro (bx_kept hb2 b) (hd0.kept b))))
  have HOP := Lib.hid (fun (hon : S.on = true) (W : World) (hd : Dk d A c S W) (h0 : W.heap[w.heap.size]? = some (.cells #[.pointer (some ⟨d, 0, none⟩)] 25 (0, 0))) (h1 : W.heap[w.heap.size + 1]? = some (.cells #[.string fr] 9 (0, 0))) (h2 : W.heap[w.heap.size + 1 + 1]? = some (.cells #[.string to_] 9 (0, 0))) =>
    disk_op_with d A c S hon hS.fuse hS.ops 47 #[.pointer (some ⟨w.heap.size, 0, none⟩), .pointer (some ⟨w.heap.size + 1, 0, none⟩), .pointer (some ⟨w.heap.size + 1 + 1, 0, none⟩)] (enters_of Try.func47 (by kernel_rfl) rfl) (fun fs => renF fs fr to_) W hd
      (fun X q2 q3 => by
        obtain ⟨q1, _, _⟩ := blow_fs S
        have := disk_Rename1 d w.heap.size (w.heap.size + 1) (w.heap.size + 1 + 1) A c (blow S).1 (by rw [q1]; exact hS.sorted) (by rw [q1]; exact hm) fr to_ X q2 (dkeep_box q3 h0 (by omega) (by decide)) (dkeep_box q3 h1 (by omega) (by decide)) (dkeep_box q3 h2 (by omega) (by decide)) (by omega) (by omega) (by omega)
        rw [q1] at this
        exact this))
  unfold renameD
  clear hS h hb0 hb1 hb2 hd0
  generalize opD S (fun fs => renF fs fr to_) = R at HOP ⊢
  generalize hW : three w d fr to_ = W0 at HF HB e0 e1 hbw
  unfold three two at hW
  generalize hp : pos S.fs fr = p at HF
  cases hon : S.on with
  | false =>
    rw [if_pos rfl]
    clear HOP
    go_enter Try.func28, Try.ntmps28
    go_wp2_with (first
      | (go_at_call 34; (with_reducible refine (HF.out).mono ?_); rintro e w1 ⟨rfl, b1⟩; obtain ⟨j0, j1, j2, hd1⟩ := HB.out _ b1; have k0 := bx_cells j0 0; have k1 := bx_cells j1 0; have k2 := bx_cells j2 0)
      | (go_at_call 11; refine (disk_On d A c S _ hd1).mono ?_; rintro e w2 ⟨rfl, rfl⟩; rw [hon]))
    go_ret
    exact ⟨rfl, A, c, hd1, DKeep.of_below (hbw.trans (b1.mono hbw.size)) (Nat.le_of_lt hdl)⟩
  | true =>
    rw [if_neg (by simp)]
    have HOP2 := Lib.hid (HOP.out hon)
    clear HOP
    cases hh : has S.fs fr with
    | false =>
      rw [if_pos rfl]
      rw [hh] at HF
      go_enter Try.func28, Try.ntmps28
      go_wp2_with (first
        | (go_at_call 34; (with_reducible refine (HF.out).mono ?_); rintro e w1 ⟨rfl, b1⟩; obtain ⟨j0, j1, j2, hd1⟩ := HB.out _ b1; have k0 := bx_cells j0 0; have k1 := bx_cells j1 0; have k2 := bx_cells j2 0)
        | (go_at_call 11; refine (disk_On d A c S _ hd1).mono ?_; rintro e w2 ⟨rfl, rfl⟩; rw [hon]))
      go_ret
      exact ⟨rfl, A, c, hd1, DKeep.of_below (hbw.trans (b1.mono hbw.size)) (Nat.le_of_lt hdl)⟩
    | true =>
      rw [if_neg (by simp)]
      rw [hh] at HF
      cases hn : namedD to_ with
      | false =>
        rw [if_pos rfl]
        rw [hn] at HN
        go_enter Try.func28, Try.ntmps28
        go_wp2_with (first
          | (go_at_call 34; (with_reducible refine (HF.out).mono ?_); rintro e w1 ⟨rfl, b1⟩; obtain ⟨j0, j1, j2, hd1⟩ := HB.out _ b1; have k0 := bx_cells j0 0; have k1 := bx_cells j1 0; have k2 := bx_cells j2 0)
          | (go_at_call 11; refine (disk_On d A c S _ hd1).mono ?_; rintro e w2 ⟨rfl, rfl⟩; rw [hon])
          | (go_at_call 40; (with_reducible refine (HN.out _).mono ?_); rintro e w3 ⟨rfl, b3⟩))
        go_ret
        exact ⟨rfl, A, c, hd1.kept b3, (DKeep.of_below (hbw.trans (b1.mono hbw.size)) (Nat.le_of_lt hdl)).trans (DKeep.of_below b3 (Nat.le_of_lt hd1.lt))⟩
      | true =>
        rw [if_neg (by simp)]
        rw [hn] at HN
        go_enter Try.func28, Try.ntmps28
        go_wp2_with (first
          | (go_at_call 34; (with_reducible refine (HF.out).mono ?_); rintro e w1 ⟨rfl, b1⟩; obtain ⟨j0, j1, j2, hd1⟩ := HB.out _ b1; have k0 := bx_cells j0 0; have k1 := bx_cells j1 0; have k2 := bx_cells j2 0)
          | (go_at_call 11; refine (disk_On d A c S _ hd1).mono ?_; rintro e w2 ⟨rfl, rfl⟩; rw [hon])
          | (go_at_call 40; (with_reducible refine (HN.out _).mono ?_); rintro e w3 ⟨rfl, b3⟩; have l0 := bx_kept j0 b3; have l1 := bx_kept j1 b3; have l2 := bx_kept j2 b3; have hd3 := hd1.kept b3; have n0 := bx_cells l0 0; have HOP3 := Lib.hid (HOP2.out _ hd3 l0 l1 l2))
          | (go_at_call 42; refine (HOP3.out).mono ?_; rintro e w6 ⟨rfl, A6, c6, hd6, hk6⟩))
        go_ret
        exact ⟨rfl, A6, c6, hd6, ((DKeep.of_below (hbw.trans (b1.mono hbw.size)) (Nat.le_of_lt hdl)).trans (DKeep.of_below b3 (Nat.le_of_lt hd1.lt))).trans hk6⟩
end Go.Proofs.Ytmkaijjakcjflaa
