/- Layer 32: what a log is in memory; New, made, Next, Synced, last · Layer 32: Sync, place · Layer 32: Append, New, Trim · Layer 32: Trim · Layer 32, plain: what is trimmed, and what is left. -/
import Derived.Test.YtcpmicinibfepaaGreatDoorWBf
import Derived.Test.YtcpmicinibfepaaGreatDoorWBd
import Derived.Test.YtcpmicinibfepaaGreatDoorWAh
import Derived.Test.YtcpmicinibfepaaGreatDoorWAw
import Derived.Test.YtcpmicinibfepaaGreatDoorWAt
namespace Go.Proofs.YtcpmicinibfepaaGreatDoor
open Go.ChangeShapes Go.WideShapes Go.ChangeAt Go.RowKit Go.Deep DiskP NameP


/-- the log at block a, on the disk at block d -/
structure Lg (a d : Nat) (A : Option Addr) (c : Nat) (size : Int) (L : WL) (w : World) : Prop where
  dk : Dk d A c L.S w
  box : w.heap[a]? = some (.cells #[.pointer (some ⟨d, 0, none⟩), .int .i64 size, .int .i64 L.nx, .int .i64 L.sy] 74 (0, 0))
/-- what a log's calls leave alone -/
structure LKeep (d a : Nat) (w w' : World) : Prop where
  below : Below d w w'
  others : ∀ b, d < b → b ≠ a → b < w.heap.size → (∀ cs z, w.heap[b]? ≠ some (.cells cs 81 z)) → w'.heap[b]? = w.heap[b]?
theorem LKeep.of_d {d a : Nat} {w w' : World} (h : DKeep d w w') : LKeep d a w w' := ⟨h.below, fun b hb _ hs ht => h.others b hb hs ht⟩
theorem LKeep.refl (d a : Nat) (w : World) : LKeep d a w w := .of_d (DKeep.refl d w)
theorem LKeep.trans {d a : Nat} {u v w : World} (h : LKeep d a u v) (k : LKeep d a v w) : LKeep d a u w :=
  ⟨h.below.trans k.below, fun x hx hn hs ht => by
    have h1 := h.others x hx hn hs ht
    rw [k.others x hx hn (Nat.lt_of_lt_of_le hs h.below.size) (by rw [h1]; exact ht), h1]⟩
theorem LKeep.of_below {d a : Nat} {w w' : World} (h : Below w.heap.size w w') (hd : d ≤ w.heap.size) : LKeep d a w w' := .of_d (DKeep.of_below h hd)
theorem LKeep.set {w : World} {d a j : Nat} (hda : d < a) (u : Value) : LKeep d a w (w.setCell ⟨a, j, none⟩ u) :=
  ⟨(Below.refl d w).setCell (p := ⟨a, j, none⟩) (Nat.le_of_lt hda) u, fun b hb hn _ _ => heap_setCell_other w ⟨a, j, none⟩ b u (by show b ≠ a; exact hn)⟩
theorem lkeep_box {d a b : Nat} {w w' : World} {cs : Array Value} {T : TypeId} {fr : Nat × Nat} (h : LKeep d a w w') (hb : w.heap[b]? = some (.cells cs T fr)) (hd : b ≠ d) (ha : b ≠ a) (ht : T ≠ 81) : w'.heap[b]? = some (.cells cs T fr) := by
  rcases Nat.lt_or_ge b d with h1 | h1
  · exact (h.below.block b h1).trans hb
  · exact (h.others b (by omega) ha (bx_lt hb) (fun cs' z e => by rw [hb] at e; simp at e; exact ht e.2.1)).trans hb
/-- rows of no file are kept -/
theorem own_lkeep {d a base n sz : Nat} {w w' : World} {e : TypeId} {v : Value} {xs : List Value} (h : w.ownsRow base e sz v n xs) (hk : LKeep d a w w') (hd : d < base) (ha : ∀ g, v.ownBlock = some g → g ≠ a) (ht : e ≠ 81) : w'.ownsRow base e sz v n xs := by
  refine own_at h fun g hg => ?_
  obtain ⟨cur, hc⟩ := own_type h hg
  have h1 := h.lt g hg
  exact (lkeep_box hk hc (by omega) (ha g hg) ht).trans hc.symm
section
variable {a d c : Nat} {A : Option Addr} {size : Int} {L : WL} {w w' : World}
theorem Lg.lt (h : Lg a d A c size L w) : a < w.heap.size := bx_lt h.box
theorem Lg.kept (h : Lg a d A c size L w) (hb : Below w.heap.size w w') : Lg a d A c size L w' := ⟨h.dk.kept hb, bx_kept h.box hb⟩
theorem Lg.step {S' : DS} {A' : Option Addr} {c' : Nat} (h : Lg a d A c size L w) (hk : DKeep d w w') (hd : Dk d A' c' S' w') (hda : d < a) : Lg a d A' c' size ⟨S', L.nx, L.sy⟩ w' :=
  ⟨hd, dkeep_box hk h.box (by omega) (by decide)⟩
theorem dk_set_far {S : DS} (h : Dk d A c S w) {b j : Nat} (hb : w.heap[b]? = some (.cells #[.pointer (some ⟨d, 0, none⟩), .int .i64 size, .int .i64 L.nx, .int .i64 L.sy] 74 (0, 0))) (hda : d < b) (u : Value) : Dk d A c S (w.setCell ⟨b, j, none⟩ u) := by
  refine ⟨(heap_setCell_other w ⟨b, j, none⟩ d u (by show d ≠ b; omega)).trans h.box, own_at h.row fun g hg => heap_setCell_other w ⟨b, j, none⟩ g u (fun e => ?_)⟩
  obtain ⟨cur, hc⟩ := own_type h.row hg
  obtain rfl : g = b := e
  rw [hb] at hc
  simp at hc
theorem Lg.set_nx (h : Lg a d A c size L w) (hda : d < a) (n : Int) : Lg a d A c size ⟨L.S, n, L.sy⟩ (w.setCell ⟨a, 2, none⟩ (.int .i64 n)) := ⟨dk_set_far h.dk h.box hda _, bx_set h.box 2 _⟩
theorem Lg.set_sy (h : Lg a d A c size L w) (hda : d < a) (n : Int) : Lg a d A c size ⟨L.S, L.nx, n⟩ (w.setCell ⟨a, 3, none⟩ (.int .i64 n)) := ⟨dk_set_far h.dk h.box hda _, bx_set h.box 3 _⟩
end
/-- what a call on a log leaves -/
def LPost (a d : Nat) (size : Int) (L : WL) (v : Value) (w : World) (e : Ending) (w' : World) : Prop := e = .returned v ∧ ∃ A c, Lg a d A c size L w' ∧ LKeep d a w w'
theorem kind1_range (s : List UInt8) (h : (kindS s).1 = 1) : 1 ≤ (kindS s).2 ∧ (kindS s).2 ≤ 999999999999999999 := by
  have h1 := of_kind s (by omega)
  rw [h] at h1
  refine digS_ne.1 fun hc => ?_
  unfold ofS withS at h1
  rw [if_pos rfl, if_pos hc] at h1
  rw [← h1] at h
  exact absurd h (by decide)
theorem nums1_range (l : List ByteArray) : ∀ n ∈ numsX 1 l, 1 ≤ n ∧ n ≤ 999999999999999999 := by
  intro n hn
  have h2 := (nums_both 1 l).2.mem_iff.1 hn
  rw [numsA_eq] at h2
  obtain ⟨s, hs, rfl⟩ := List.mem_map.1 h2
  have := (List.mem_filter.1 hs).2
  exact kind1_range _ (of_decide_eq_true this)
theorem I64_small {n : Int} (h : 1 ≤ n ∧ n ≤ 999999999999999999) : I64 n := by unfold I64; omega
/-- what a log needs of its disk -/
structure OkW (L : WL) : Prop where
  ok : OkD L.S
  names : ∀ s ∈ names L.S.fs, s.size ≤ 100
  nx : 1 ≤ L.nx ∧ L.nx ≤ 1000000
  sy : 0 ≤ L.sy ∧ L.sy ≤ 1000000

set_option maxRecDepth 100000 in
theorem wal_made (a d : Nat) (A : Option Addr) (c : Nat) (size : Int) (L : WL) (hn : 1 ≤ L.nx) (w : World) (h : Lg a d A c size L w) :
    Calls Tryz.prog 36 #[.pointer (some ⟨a, 0, none⟩)] w fun e w' => e = .returned (.bool true) ∧ w = w' := by
  have x2 := bx_cells h.box 2
  have hn2 : (0 : Int) < L.nx := by omega
  go_enter Tryz.func36, Tryz.ntmps36
  go_wp2
  go_ret
  exact ⟨rfl, rfl⟩

theorem wal_Next (a d : Nat) (A : Option Addr) (c : Nat) (size : Int) (L : WL) (w : World) (h : Lg a d A c size L w) :
    Calls Tryz.prog 18 #[.pointer (some ⟨a, 0, none⟩)] w fun e w' => e = .returned (.int .i64 L.nx) ∧ w = w' := by
  have x2 := bx_cells h.box 2
  go_enter Tryz.func18, Tryz.ntmps18
  go_wp2
  go_ret
  exact ⟨rfl, rfl⟩

theorem wal_Synced (a d : Nat) (A : Option Addr) (c : Nat) (size : Int) (L : WL) (w : World) (h : Lg a d A c size L w) :
    Calls Tryz.prog 21 #[.pointer (some ⟨a, 0, none⟩)] w fun e w' => e = .returned (.int .i64 L.sy) ∧ w = w' := by
  have x3 := bx_cells h.box 3
  go_enter Tryz.func21, Tryz.ntmps21
  go_wp2
  go_ret
  exact ⟨rfl, rfl⟩

set_option maxRecDepth 100000 in
theorem wal_last (a d : Nat) (A : Option Addr) (c : Nat) (size : Int) (L : WL) (hL : OkW L) (w : World) (ht : ∀ W, Below d w W → TabW W) (h : Lg a d A c size L w) :
    Calls Tryz.prog 54 #[.pointer (some ⟨a, 0, none⟩)] w fun e w' => e = .returned (.string (lastW L.S.fs)) ∧ Below w.heap.size w w' := by
  have x0 := bx_cells h.box 0
  have hlt := h.lt
  have hmany := hL.ok.many
  have hlen : (names L.S.fs).length = L.S.fs.length := by unfold names; simp
  have CN' : Calls Tryz.prog 13 #[.pointer (some ⟨d, 0, none⟩)] w fun e w' => ∃ A' c', e = .returned (.slice A' (names L.S.fs).length c') ∧ Rd w' w'.heap.size A' ((names L.S.fs).map Value.string) ∧ Below w.heap.size w w' := by
    refine (disk_Names d A c L.S (by omega) w h.dk).mono ?_
    rintro e w' ⟨A', c', rfl, ho, hb⟩
    refine ⟨A', c', by rw [hlen], ?_, hb⟩
    have := Rd.own ho
    unfold names
    rw [List.map_map]
    exact this
  have CN := Lib.hid CN'
  have CM := Lib.hid (fun (A' : Option Addr) (c' : Nat) (W : World) (hr : Rd W W.heap.size A' ((names L.S.fs).map Value.string)) => name_Numbers 1 A' c' (names L.S.fs) (by omega) hL.names W hr)
  have HT := Lib.hid (fun W (hb : Below w.heap.size w W) => ht W (hb.mono (by have := h.dk.lt; omega)))
  have HLW := Lib.hid (show lastW L.S.fs = match (numsX 1 (names L.S.fs)).getLast? with | none => ⟨#[]⟩ | some n => tB n from rfl)
  have hnl : (numsX 1 (names L.S.fs)).length ≤ 1000 := by rw [numsX_len]; have := numsA_len 1 (names L.S.fs); omega
  have HRG := Lib.hid (nums1_range (names L.S.fs))
  clear CN' ht h hL hlen hmany
  generalize numsX 1 (names L.S.fs) = ns at *
  generalize names L.S.fs = nl at *
  generalize lastW L.S.fs = lw at *
  cases hn : ns.getLast? with
  | none =>
    obtain rfl : ns = [] := List.getLast?_eq_none_iff.1 hn
    obtain rfl : lw = ⟨#[]⟩ := HLW.out
    clear HLW hn
    have CM' : ∀ (A' : Option Addr) (c' : Nat) (W : World), Rd W W.heap.size A' (nl.map Value.string) → Calls Tryz.prog 43 #[.int .i64 1, .slice A' nl.length c'] W fun e w' => ∃ A' c', e = .returned (.slice A' 0 c') ∧ Below W.heap.size W w' := fun A' c' W h => (CM.out A' c' W h).mono fun e w' ⟨A2, c2, h1, h2, h3⟩ => ⟨A2, c2, h1, h3⟩
    have CM := Lib.hid CM'
    clear CM'
    go_enter Tryz.func54, Tryz.ntmps54
    go_wp2_with (first
      | (go_at_call 13; (with_reducible refine (CN.out).mono ?_); rintro e w1 ⟨A1, c1, rfl, r1, b1⟩)
      | (go_at_call 43; (with_reducible refine (CM.out _ _ _ r1).mono ?_); rintro e w2 ⟨A2, c2, rfl, b2⟩))
    go_ret
    exact ⟨rfl, below_step b2 b1⟩
  | some n =>
    rw [hn] at HLW
    obtain rfl : lw = tB n := HLW.out
    obtain ⟨q, hq⟩ : ∃ q, ns.length = q + 1 := ⟨ns.length - 1, by cases ns with | nil => simp at hn | cons x r => simp⟩
    have hg : (ns.map (Value.int .i64))[q]? = some (.int .i64 n) := by
      rw [List.getLast?_eq_getElem?, hq] at hn
      rw [List.getElem?_map, show q + 1 - 1 = q by omega] at *
      rw [hn]; rfl
    have CM' : ∀ (A' : Option Addr) (c' : Nat) (W : World), Rd W W.heap.size A' (nl.map Value.string) → Calls Tryz.prog 43 #[.int .i64 1, .slice A' nl.length c'] W fun e w' => ∃ ad c', e = .returned (.slice (some ad) (q + 1) c') ∧ w'.cell? (ad.add q) = some (.int .i64 n) ∧ Below W.heap.size W w' := fun A' c' W h => (CM.out A' c' W h).mono fun e w' ⟨A2, c2, h1, h2, h3⟩ => by
      obtain ⟨ad, rfl, _, h4⟩ := h2 q _ hg
      exact ⟨ad, c2, by rw [h1, hq], h4, h3⟩
    have CM := Lib.hid CM'
    have hqi : (0 : Int) ≤ (q : Int) := by omega
    have CO := Lib.hid (fun (W : World) (hb : Below w.heap.size w W) => name_Of 1 n (I64_small (HRG.out n (List.mem_of_getLast? hn))) W (HT.out W hb))
    rw [hq] at hnl
    clear HLW hn CM' hg hq
    go_enter Tryz.func54, Tryz.ntmps54
    go_wp2_with (first
      | (go_at_call 13; (with_reducible refine (CN.out).mono ?_); rintro e w1 ⟨A1, c1, rfl, r1, b1⟩)
      | (go_at_call 43; (with_reducible refine (CM.out _ _ _ r1).mono ?_); rintro e w2 ⟨ad, c2, rfl, z2, b2⟩; have b12 := below_step b2 b1)
      | (go_at_call 45; (with_reducible refine (CO.out _ b12).mono ?_); rintro e w3 ⟨rfl, b3⟩))
    go_ret
    exact ⟨rfl, below_step b3 b12⟩
end Go.Proofs.YtcpmicinibfepaaGreatDoor

namespace Go.Proofs.YtcpmicinibfepaaGreatDoor
open Go.ChangeShapes Go.WideShapes Go.ChangeAt Go.RowKit Go.Deep DiskP NameP


set_option maxRecDepth 100000 in
set_option maxHeartbeats 4000000 in
theorem wal_Sync (a d : Nat) (A : Option Addr) (c : Nat) (size : Int) (L : WL) (hL : OkW L) (w : World) (ht : ∀ W, Below d w W → TabW W) (hda : d < a) (h : Lg a d A c size L w) :
    Calls Tryz.prog 32 #[.pointer (some ⟨a, 0, none⟩)] w (LPost a d size (syncW L).1 (.int .i64 (syncW L).2) w) := by
  have x2 := bx_cells h.box 2
  have x3 := bx_cells h.box 3
  have CM := Lib.hid (wal_made a d A c size L hL.nx.1 w h)
  have hnx := hL.nx
  have hsy := hL.sy
  by_cases he : L.sy = L.nx - 1
  · have hr : syncW L = (L, 0) := by unfold syncW; rw [if_pos he]
    rw [hr]
    have hp : ∀ n, LPost a d size L (.int .i64 0) w (.returned (.int .i64 0)) (w.drewN n) := fun n => ⟨rfl, A, c, h.kept (below_drewN (Below.refl _ w) n), LKeep.of_below (below_drewN (Below.refl _ w) n) (Nat.le_of_lt h.dk.lt)⟩
    have HP := Lib.hid hp
    have hg : (L.sy == L.nx - 1) = true := by simpa using he
    clear hp hr h hL ht
    go_enter Tryz.func32, Tryz.ntmps32
    go_wp2_with (go_at_call 36; (with_reducible refine (CM.out).mono ?_); rintro e w1 ⟨rfl, rfl⟩)
    go_quiet (fail)
    go_wp2_with fail
    go_ret
    exact ⟨rfl, (HP.out _).2⟩
  · have hr : syncW L = (⟨(syncD L.S (lastW L.S.fs)).1, L.nx, if (syncD L.S (lastW L.S.fs)).2 = 0 then L.nx - 1 else L.sy⟩, (syncD L.S (lastW L.S.fs)).2) := by unfold syncW; rw [if_neg he]
    rw [hr]
    have hg : (L.sy == L.nx - 1) = false := by simpa using he
    have CL := Lib.hid (fun (W : World) (hb : Below w.heap.size w W) => wal_last a d A c size L hL W (fun W' hb' => ht W' ((hb.mono (Nat.le_of_lt h.dk.lt)).trans hb')) (h.kept hb))
    have CS := Lib.hid (fun (A : Option Addr) (c : Nat) (W : World) (hd : Dk d A c L.S W) => disk_Sync d A c L.S hL.ok (lastW L.S.fs) W hd)
    have HL := Lib.hid h
    have hlt := h.lt
    have hdl := h.dk.lt
    clear hr h hL ht
    generalize lastW L.S.fs = lw at *
    generalize (syncD L.S lw).1 = S1 at *
    generalize (syncD L.S lw).2 = r1 at *
    by_cases h0 : r1 = 0
    · subst h0
      rw [if_pos rfl]
      (go_enter Tryz.func32, Tryz.ntmps32; (go_wp2_with (go_at_call 36; (with_reducible refine (CM.out).mono ?_); rintro e w1 ⟨rfl, rfl⟩)); go_quiet (fail); (go_wp2_with fail); have hb0 : Below w.heap.size w (w.drewN nq) := below_drewN (Below.refl _ w) nq; have hbx : (w.drewN nq).heap[a]? = some (.cells #[.pointer (some ⟨d, 0, none⟩), .int .i64 size, .int .i64 L.nx, .int .i64 L.sy] 74 (0, 0)) := (HL.out.kept hb0).box; clear x2 x3; refine wp_region_noPanic ?_; refine wp_region_held_drew (S := fun W => W.heap[a]? = some (.cells #[.pointer (some ⟨d, 0, none⟩), .int .i64 size, .int .i64 L.nx, .int .i64 L.sy] 74 (0, 0))) (by kernel_rfl) hbx (fun hA => ?_); have hb1 : Below w.heap.size w (w.drewN nq).drew := hb0.drew; generalize (w.drewN nq).drew = v0 at hA hb1 ⊢; (refine wpAnyH_seg (by kernel_rfl) (fun _ _ _ _ _ h => h) hA 3 5 0 _ _ (by decide) (by kernel_rfl) ?_; simp only [List.drop_zero, List.take_succ_cons, List.take_zero]; ((iterate 5 ((refine' wpTake_cons (by rfl) (fun W hW => ?_) ?_); rotate_left; (have m0 := bx_cells hW 0; go_simp; (try simp only [ne_eq, not_true_eq_false, decide_false, Bool.not_true, bne_self_eq_false, beq_self_eq_true, go_sem]); with_reducible rfl); simp only [Act.put, List.setIfInBounds_toArray, List.set_cons_zero, List.set_cons_succ])); refine wpTake_nil ?_)); (refine wpAnyH_one 5 (by kernel_rfl) rfl (fun K hK => ?_); rw [if_pos (by rfl)]; go_simp); go_at_call 54; ((with_reducible refine (CL.out _ hb1).mono ?_)); rintro e v1 ⟨rfl, g1⟩; (go_wp2_with fail); have hL1 := (HL.out.kept hb1).kept g1; have hA1 := hL1.box; refine hK.out _ _ hA1 (fun _ => ?_); clear hK K; ((try simp only [Act.put, List.setIfInBounds_toArray, List.set_cons_zero, List.set_cons_succ])); (refine wpAnyH_one 6 (by kernel_rfl) rfl (fun K hK => ?_); rw [if_pos (by rfl)]; go_simp); go_at_call 53; ((with_reducible refine (CS.out _ _ _ hL1.dk).mono ?_)); rintro e v2 ⟨rfl, A2, c2, hd2, k2⟩; (go_wp2_with fail); have hL2 := hL1.step k2 hd2 hda; have k02 := (LKeep.of_below hb1 (Nat.le_of_lt hdl)).trans ((LKeep.of_below (a := a) g1 (Nat.le_of_lt (HL.out.kept hb1).dk.lt)).trans (LKeep.of_d k2)); have hA2 := hL2.box; refine hK.out _ _ hA2 (fun _ => ?_); clear hK K; ((try simp only [Act.put, List.setIfInBounds_toArray, List.set_cons_zero, List.set_cons_succ])); (refine wpAnyH_seg (by kernel_rfl) (fun _ _ _ _ _ h => h) hA2 0 1 7 _ _ (by decide) (by kernel_rfl) ?_; simp only [List.drop_succ_cons, List.drop_zero, List.take_succ_cons, List.take_zero]; ((iterate 1 ((refine' wpTake_cons (by rfl) (fun W hW => ?_) ?_); rotate_left; (skip; go_simp; (try simp only [ne_eq, not_true_eq_false, decide_false, Bool.not_true, bne_self_eq_false, beq_self_eq_true, go_sem]); with_reducible rfl); simp only [Act.put, List.setIfInBounds_toArray, List.set_cons_zero, List.set_cons_succ])); refine wpTake_nil ?_)); refine wpAnyH_done (by kernel_rfl) ?_ _; refine NoPanic.normal ?_; have y2 := bx_cells hA2 2; have y3c := bx_cells hA2 3; have y3 := bx_free hA2 3; (go_wp2_with fail); go_ret; exact ⟨rfl, A2, c2, hL2.set_sy hda _, k02.trans (LKeep.set hda _)⟩)
    · rw [if_neg h0]
      have h1 : (r1 == 0) = false := by simpa using h0
      (go_enter Tryz.func32, Tryz.ntmps32; (go_wp2_with (go_at_call 36; (with_reducible refine (CM.out).mono ?_); rintro e w1 ⟨rfl, rfl⟩)); go_quiet (fail); (go_wp2_with fail); have hb0 : Below w.heap.size w (w.drewN nq) := below_drewN (Below.refl _ w) nq; have hbx : (w.drewN nq).heap[a]? = some (.cells #[.pointer (some ⟨d, 0, none⟩), .int .i64 size, .int .i64 L.nx, .int .i64 L.sy] 74 (0, 0)) := (HL.out.kept hb0).box; clear x2 x3; refine wp_region_noPanic ?_; refine wp_region_held_drew (S := fun W => W.heap[a]? = some (.cells #[.pointer (some ⟨d, 0, none⟩), .int .i64 size, .int .i64 L.nx, .int .i64 L.sy] 74 (0, 0))) (by kernel_rfl) hbx (fun hA => ?_); have hb1 : Below w.heap.size w (w.drewN nq).drew := hb0.drew; generalize (w.drewN nq).drew = v0 at hA hb1 ⊢; (refine wpAnyH_seg (by kernel_rfl) (fun _ _ _ _ _ h => h) hA 3 5 0 _ _ (by decide) (by kernel_rfl) ?_; simp only [List.drop_zero, List.take_succ_cons, List.take_zero]; ((iterate 5 ((refine' wpTake_cons (by rfl) (fun W hW => ?_) ?_); rotate_left; (have m0 := bx_cells hW 0; go_simp; (try simp only [ne_eq, not_true_eq_false, decide_false, Bool.not_true, bne_self_eq_false, beq_self_eq_true, go_sem]); with_reducible rfl); simp only [Act.put, List.setIfInBounds_toArray, List.set_cons_zero, List.set_cons_succ])); refine wpTake_nil ?_)); (refine wpAnyH_one 5 (by kernel_rfl) rfl (fun K hK => ?_); rw [if_pos (by rfl)]; go_simp); go_at_call 54; ((with_reducible refine (CL.out _ hb1).mono ?_)); rintro e v1 ⟨rfl, g1⟩; (go_wp2_with fail); have hL1 := (HL.out.kept hb1).kept g1; have hA1 := hL1.box; refine hK.out _ _ hA1 (fun _ => ?_); clear hK K; ((try simp only [Act.put, List.setIfInBounds_toArray, List.set_cons_zero, List.set_cons_succ])); (refine wpAnyH_one 6 (by kernel_rfl) rfl (fun K hK => ?_); rw [if_pos (by rfl)]; go_simp); go_at_call 53; ((with_reducible refine (CS.out _ _ _ hL1.dk).mono ?_)); rintro e v2 ⟨rfl, A2, c2, hd2, k2⟩; (go_wp2_with fail); have hL2 := hL1.step k2 hd2 hda; have k02 := (LKeep.of_below hb1 (Nat.le_of_lt hdl)).trans ((LKeep.of_below (a := a) g1 (Nat.le_of_lt (HL.out.kept hb1).dk.lt)).trans (LKeep.of_d k2)); have hA2 := hL2.box; refine hK.out _ _ hA2 (fun _ => ?_); clear hK K; ((try simp only [Act.put, List.setIfInBounds_toArray, List.set_cons_zero, List.set_cons_succ])); (refine wpAnyH_seg (by kernel_rfl) (fun _ _ _ _ _ h => h) hA2 0 1 7 _ _ (by decide) (by kernel_rfl) ?_; simp only [List.drop_succ_cons, List.drop_zero, List.take_succ_cons, List.take_zero]; ((iterate 1 ((refine' wpTake_cons (by rfl) (fun W hW => ?_) ?_); rotate_left; (skip; go_simp; (try simp only [ne_eq, not_true_eq_false, decide_false, Bool.not_true, bne_self_eq_false, beq_self_eq_true, go_sem]); with_reducible rfl); simp only [Act.put, List.setIfInBounds_toArray, List.set_cons_zero, List.set_cons_succ])); refine wpTake_nil ?_)); refine wpAnyH_done (by kernel_rfl) ?_ _; refine NoPanic.normal ?_; have y2 := bx_cells hA2 2; have y3c := bx_cells hA2 3; have y3 := bx_free hA2 3; (go_wp2_with fail); go_ret; exact ⟨rfl, A2, c2, hL2, k02⟩)

/-- what place leaves -/
def PlPost (a d : Nat) (size : Int) (r : WL × ByteArray × Int) (w : World) (e : Ending) (w' : World) : Prop := e = .returned (.tuple #[.string r.2.1, .int .i64 r.2.2]) ∧ ∃ A c, Lg a d A c size r.1 w' ∧ LKeep d a w w'
theorem readD_size {S : DS} (h : OkD S) (nm : ByteArray) : (readD S nm).1.size ≤ 100000000 := by
  have hu := h.size
  unfold readD
  split
  · exact Nat.zero_le _
  · split
    · rename_i f hf
      split
      · have := used_mem hf; simp only; omega
      · exact Nat.zero_le _
    · exact Nat.zero_le _
theorem emp_eq (b : ByteArray) : b.toList.isEmpty = decide (b = ⟨#[]⟩) := by
  rw [Lib.toList_data, Bool.eq_iff_iff]
  obtain ⟨⟨l⟩⟩ := b
  simp
theorem tB_ne {n : Int} (h : 1 ≤ n ∧ n ≤ 999999999999999999) : tB n ≠ ⟨#[]⟩ := fun e => by have := tB_pos h; rw [e] at this; exact absurd this (by decide)

set_option maxRecDepth 100000 in
set_option maxHeartbeats 4000000 in
theorem wal_place (a d : Nat) (A : Option Addr) (c : Nat) (size : Int) (hsz : I64 size) (L : WL) (hL : OkW L) (n : Int) (hn : 0 ≤ n ∧ n ≤ 1000000) (w : World) (ht : ∀ W, Below d w W → TabW W) (hda : d < a) (h : Lg a d A c size L w) :
    Calls Tryz.prog 38 #[.pointer (some ⟨a, 0, none⟩), .int .i64 n] w (PlPost a d size (placeW size L n) w) := by
  have hnx := hL.nx
  have hsy := hL.sy
  have hdl := h.dk.lt
  have hrs := readD_size hL.ok (lastW L.S.fs)
  have CL := Lib.hid (wal_last a d A c size L hL w ht h)
  have CR := Lib.hid (fun (W : World) (hd : Dk d A c L.S W) => disk_Read d A c L.S (lastW L.S.fs) hL.ok.sorted (by have := hL.ok.many; omega) W hd)
  have CS := Lib.hid (fun (W : World) (hd : Dk d A c L.S W) => disk_Sync d A c L.S hL.ok (lastW L.S.fs) W hd)
  have CO := Lib.hid (fun (W : World) (hb : Below d w W) => name_Of 1 L.nx (I64_small (by omega)) W (ht W hb))
  have HL := Lib.hid h
  have x2 := bx_cells h.box 2
  unfold placeW
  clear h hL ht
  generalize lastW L.S.fs = lw at *
  by_cases h0 : lw = ⟨#[]⟩
  · subst h0
    rw [if_pos rfl]
    go_enter Tryz.func38, Tryz.ntmps38
    go_wp2_with (first
      | (go_at_call 54; (with_reducible refine (CL.out).mono ?_); rintro e w1 ⟨rfl, b1⟩; have hL1 := HL.out.kept b1; have y0 := bx_cells hL1.box 0)
      | (go_at_call 14; (with_reducible refine (CR.out _ hL1.dk).mono ?_); rintro e w2 ⟨rfl, b2⟩; have hL2 := hL1.kept b2; have y2 := bx_cells hL2.box 2; have b12 := below_step b2 b1)
      | (go_at_call 45; (with_reducible refine (CO.out _ (b12.mono (Nat.le_of_lt hdl))).mono ?_); rintro e w3 ⟨rfl, b3⟩; have hL3 := hL2.kept b3; have b13 := below_step b3 b12))
    go_ret2
    exact ⟨rfl, A, c, hL3, LKeep.of_below b13 (Nat.le_of_lt hdl)⟩
  · rw [if_neg h0]
    have g0 : lw.toList.isEmpty = false := by rw [emp_eq]; simpa using h0
    by_cases h1 : (readD L.S lw).2 ≠ 0
    · rw [if_pos h1]
      generalize (readD L.S lw).1 = rd at *
      generalize (readD L.S lw).2 = re at *
      have h2 : (re == 0) = false := by simpa using h1
      go_enter Tryz.func38, Tryz.ntmps38
      go_wp2_with (first
        | (go_at_call 54; (with_reducible refine (CL.out).mono ?_); rintro e w1 ⟨rfl, b1⟩; have hL1 := HL.out.kept b1; have y0 := bx_cells hL1.box 0)
        | (go_at_call 14; (with_reducible refine (CR.out _ hL1.dk).mono ?_); rintro e w2 ⟨rfl, b2⟩; have hL2 := hL1.kept b2; have y2 := bx_cells hL2.box 2; have b12 := below_step b2 b1))
      go_ret2
      exact ⟨rfl, A, c, hL2, LKeep.of_below b12 (Nat.le_of_lt hdl)⟩
    · rw [if_neg h1]
      have h1' : (readD L.S lw).2 = 0 := by omega
      rw [h1'] at CR
      generalize (readD L.S lw).1 = rd at *
      clear h1 h1'
      unfold I64 at hsz
      by_cases h4 : rd = ⟨#[]⟩
      · rw [if_pos (.inl h4)]
        have g1 : rd.toList.isEmpty = true := by rw [emp_eq]; simpa using h4
        clear h4
        go_enter Tryz.func38, Tryz.ntmps38
        go_wp2_with (first
          | (go_at_call 54; (with_reducible refine (CL.out).mono ?_); rintro e w1 ⟨rfl, b1⟩; have hL1 := HL.out.kept b1; have y0 := bx_cells hL1.box 0)
          | (go_at_call 14; (with_reducible refine (CR.out _ hL1.dk).mono ?_); rintro e w2 ⟨rfl, b2⟩; have hL2 := hL1.kept b2; have y20 := bx_cells hL2.box 0; have y21 := bx_cells hL2.box 1; have y2 := bx_cells hL2.box 2; have b12 := below_step b2 b1))
        go_ret2
        exact ⟨rfl, A, c, hL2, LKeep.of_below b12 (Nat.le_of_lt hdl)⟩
      · have g1 : rd.toList.isEmpty = false := by rw [emp_eq]; simpa using h4
        by_cases h3 : (rd.size : Int) + n ≤ size
        · rw [if_pos (.inr h3)]
          clear h4
          go_enter Tryz.func38, Tryz.ntmps38
          go_wp2_with (first
          | (go_at_call 54; (with_reducible refine (CL.out).mono ?_); rintro e w1 ⟨rfl, b1⟩; have hL1 := HL.out.kept b1; have y0 := bx_cells hL1.box 0)
          | (go_at_call 14; (with_reducible refine (CR.out _ hL1.dk).mono ?_); rintro e w2 ⟨rfl, b2⟩; have hL2 := hL1.kept b2; have y20 := bx_cells hL2.box 0; have y21 := bx_cells hL2.box 1; have y2 := bx_cells hL2.box 2; have b12 := below_step b2 b1))
          go_ret2
          exact ⟨rfl, A, c, hL2, LKeep.of_below b12 (Nat.le_of_lt hdl)⟩
        · rw [if_neg (fun h => h.elim h4 h3)]
          clear h4
          by_cases h5 : (syncD L.S lw).2 ≠ 0
          · rw [if_pos h5]
            generalize (syncD L.S lw).2 = r1 at *
            generalize (syncD L.S lw).1 = S1 at *
            have g5 : (r1 == 0) = false := by simpa using h5
            go_enter Tryz.func38, Tryz.ntmps38
            go_wp2_with (first
          | (go_at_call 54; (with_reducible refine (CL.out).mono ?_); rintro e w1 ⟨rfl, b1⟩; have hL1 := HL.out.kept b1; have y0 := bx_cells hL1.box 0)
          | (go_at_call 14; (with_reducible refine (CR.out _ hL1.dk).mono ?_); rintro e w2 ⟨rfl, b2⟩; have hL2 := hL1.kept b2; have y20 := bx_cells hL2.box 0; have y21 := bx_cells hL2.box 1; have y2 := bx_cells hL2.box 2; have b12 := below_step b2 b1)
              | (go_at_call 53; (with_reducible refine (CS.out _ hL2.dk).mono ?_); rintro e w3 ⟨rfl, A3, c3, hd3, k3⟩; have hL3 := hL2.step k3 hd3 hda; have k13 := (LKeep.of_below (a := a) b12 (Nat.le_of_lt hdl)).trans (LKeep.of_d k3); have z2 := bx_cells hL3.box 2; have z3 := bx_cells hL3.box 3; have f3 := bx_free hL3.box 3))
            go_ret2
            exact ⟨rfl, A3, c3, hL3, k13⟩
          · rw [if_neg h5]
            have h5' : (syncD L.S lw).2 = 0 := by omega
            rw [h5'] at CS
            generalize (syncD L.S lw).1 = S1 at *
            clear h5 h5'
            go_enter Tryz.func38, Tryz.ntmps38
            go_wp2_with (first
          | (go_at_call 54; (with_reducible refine (CL.out).mono ?_); rintro e w1 ⟨rfl, b1⟩; have hL1 := HL.out.kept b1; have y0 := bx_cells hL1.box 0)
          | (go_at_call 14; (with_reducible refine (CR.out _ hL1.dk).mono ?_); rintro e w2 ⟨rfl, b2⟩; have hL2 := hL1.kept b2; have y20 := bx_cells hL2.box 0; have y21 := bx_cells hL2.box 1; have y2 := bx_cells hL2.box 2; have b12 := below_step b2 b1)
              | (go_at_call 53; (with_reducible refine (CS.out _ hL2.dk).mono ?_); rintro e w3 ⟨rfl, A3, c3, hd3, k3⟩; have hL3 := hL2.step k3 hd3 hda; have k13 := (LKeep.of_below (a := a) b12 (Nat.le_of_lt hdl)).trans (LKeep.of_d k3); have z2 := bx_cells hL3.box 2; have z3 := bx_cells hL3.box 3; have f3 := bx_free hL3.box 3; have hL4 := hL3.set_sy hda (L.nx - 1); have k14 := k13.trans (LKeep.set hda (j := 3) (.int .i64 (L.nx - 1))); have q2 := bx_cells hL4.box 2)
              | (go_at_call 45; (with_reducible refine (CO.out _ k14.below).mono ?_); rintro e w4 ⟨rfl, b4⟩; have hL5 := hL4.kept b4; have k15 := k14.trans (LKeep.of_below b4 (Nat.le_of_lt hL4.dk.lt))))
            go_ret2
            exact ⟨rfl, A3, c3, hL5, k15⟩
end Go.Proofs.YtcpmicinibfepaaGreatDoor

namespace Go.Proofs.YtcpmicinibfepaaGreatDoor
open Go.ChangeShapes Go.WideShapes Go.ChangeAt Go.RowKit Go.Deep DiskP NameP


theorem lastW_size (F : List Fl) : (lastW F).size ≤ 22 := by
  unfold lastW
  split
  · exact Nat.zero_le _
  · exact tB_size _
theorem placeW_facts (size : Int) (L : WL) (n : Int) : (placeW size L n).1.nx = L.nx ∧ (placeW size L n).2.1.size ≤ 22 ∧ ((placeW size L n).1.sy = L.sy ∨ (placeW size L n).1.sy = L.nx - 1) := by
  unfold placeW
  have h1 := lastW_size L.S.fs
  have h2 := tB_size L.nx
  split
  · exact ⟨rfl, h2, .inl rfl⟩
  · split
    · exact ⟨rfl, Nat.zero_le _, .inl rfl⟩
    · split
      · exact ⟨rfl, h1, .inl rfl⟩
      · split
        · exact ⟨rfl, Nat.zero_le _, .inl rfl⟩
        · exact ⟨rfl, h2, .inr rfl⟩

set_option maxRecDepth 100000 in
set_option maxHeartbeats 4000000 in
theorem wal_Append (a d : Nat) (A : Option Addr) (c : Nat) (size : Int) (hsz : I64 size) (L : WL) (hL : OkW L) (R : Int) (i j : Nat) (hI : DInv R i j L.S) (hij : i ≤ 900 ∧ j ≤ 900) (s : ByteArray) (hs : s.size ≤ 100) (w : World) (ht : ∀ W, Below d w W → TabW W) (hda : d < a) (h : Lg a d A c size L w) :
    Calls Tryz.prog 11 #[.pointer (some ⟨a, 0, none⟩), .string s] w (LPost a d size (appendW size L s).1 (.tuple #[.int .i64 (appendW size L s).2.1, .int .i64 (appendW size L s).2.2]) w) := by
  have hnx := hL.nx
  have hdl := h.dk.lt
  have hfs := fB_size L.nx.toNat s
  have CM := Lib.hid (wal_made a d A c size L hL.nx.1 w h)
  have CP' : ∀ W : World, Calls Tryz.prog 37 #[.int .i64 L.nx, .string s] W fun e w' => e = .returned (.tuple #[.string (fB L.nx.toNat s), .int .i64 0]) ∧ Below W.heap.size W w' := fun W => by
    have := frame_Put L.nx s (by unfold I64; omega) (by unfold maxLen; omega) W
    have e : FrameP.put L.nx s.data.toList = (FrameP.enc L.nx.toNat s.data.toList, 0) := by
      have hz : s.data.toList.length = s.size := rfl
      unfold FrameP.put
      rw [if_neg (by omega), if_neg (by omega)]
    rw [e] at this
    exact this
  have CP := Lib.hid CP'
  have CL := Lib.hid (fun (W : World) (hb : Below w.heap.size w W) (hl : Lg a d A c size L W) => wal_place a d A c size hsz L hL (fB L.nx.toNat s).size (by omega) W (fun W' hb' => ht W' ((hb.mono (Nat.le_of_lt hdl)).trans hb')) hda hl)
  have hPI := placeW_inv hI size (fB L.nx.toNat s).size
  obtain ⟨p1, p2, p3⟩ := placeW_facts size L (fB L.nx.toNat s).size
  have HL := Lib.hid h
  have x2 := bx_cells h.box 2
  unfold appendW
  clear h hL ht CP'
  generalize placeW size L (fB L.nx.toNat s).size = P at *
  obtain ⟨⟨PS, pnx, psy⟩, nm, pe⟩ := P
  simp only at p1 p2 p3 hPI
  subst p1
  generalize fB L.nx.toNat s = b at *
  have CA := Lib.hid (fun (A : Option Addr) (c : Nat) (W : World) (hd : Dk d A c PS W) => disk_Append d A c PS (hPI.ok (by omega) (by omega)) nm b (by omega) (by omega) W hd)
  clear hfs
  unfold putW
  simp only
  by_cases h0 : pe ≠ 0
  · rw [if_pos h0]
    have g0 : (pe == 0) = false := by simpa using h0
    go_enter Tryz.func11, Tryz.ntmps11
    go_wp2_with (first
      | (go_at_call 36; (with_reducible refine (CM.out).mono ?_); rintro e w1 ⟨rfl, rfl⟩)
      | (go_at_call 37; (with_reducible refine (CP.out _).mono ?_); rintro e w2 ⟨rfl, b2⟩; have hL2 := HL.out.kept b2)
      | (go_at_call 38; (with_reducible refine (CL.out _ b2 hL2).mono ?_); rintro e w3 ⟨rfl, A3, c3, hL3, k3⟩))
    go_ret2
    exact ⟨rfl, A3, c3, hL3, (LKeep.of_below b2 (Nat.le_of_lt hdl)).trans k3⟩
  · rw [if_neg h0]
    obtain rfl : pe = 0 := by omega
    clear h0
    by_cases h1 : (appendD PS nm b).2 ≠ 0
    · rw [if_pos h1]
      generalize (appendD PS nm b).2 = r1 at *
      generalize (appendD PS nm b).1 = S1 at *
      have g1 : (r1 == 0) = false := by simpa using h1
      go_enter Tryz.func11, Tryz.ntmps11
      go_wp2_with (first
        | (go_at_call 36; (with_reducible refine (CM.out).mono ?_); rintro e w1 ⟨rfl, rfl⟩)
        | (go_at_call 37; (with_reducible refine (CP.out _).mono ?_); rintro e w2 ⟨rfl, b2⟩; have hL2 := HL.out.kept b2)
        | (go_at_call 38; (with_reducible refine (CL.out _ b2 hL2).mono ?_); rintro e w3 ⟨rfl, A3, c3, hL3, k3⟩; have y0 := bx_cells hL3.box 0)
        | (go_at_call 39; (with_reducible refine (CA.out _ _ _ hL3.dk).mono ?_); rintro e w4 ⟨rfl, A4, c4, hd4, k4⟩; have hL4 := hL3.step k4 hd4 hda))
      go_ret2
      exact ⟨rfl, A4, c4, hL4, ((LKeep.of_below b2 (Nat.le_of_lt hdl)).trans k3).trans (LKeep.of_d k4)⟩
    · rw [if_neg h1]
      have h1' : (appendD PS nm b).2 = 0 := by omega
      rw [h1'] at CA
      generalize (appendD PS nm b).1 = S1 at *
      clear h1 h1'
      go_enter Tryz.func11, Tryz.ntmps11
      go_wp2_with (first
        | (go_at_call 36; (with_reducible refine (CM.out).mono ?_); rintro e w1 ⟨rfl, rfl⟩)
        | (go_at_call 37; (with_reducible refine (CP.out _).mono ?_); rintro e w2 ⟨rfl, b2⟩; have hL2 := HL.out.kept b2)
        | (go_at_call 38; (with_reducible refine (CL.out _ b2 hL2).mono ?_); rintro e w3 ⟨rfl, A3, c3, hL3, k3⟩; have y0 := bx_cells hL3.box 0)
        | (go_at_call 39; (with_reducible refine (CA.out _ _ _ hL3.dk).mono ?_); rintro e w4 ⟨rfl, A4, c4, hd4, k4⟩; have hL4 := hL3.step k4 hd4 hda; have z2 := bx_cells hL4.box 2; have f2 := bx_free hL4.box 2; have hL5 := hL4.set_nx hda (L.nx + 1); have z5 := bx_cells hL5.box 2))
      go_ret2
      exact ⟨rfl, A4, c4, hL5, (((LKeep.of_below b2 (Nat.le_of_lt hdl)).trans k3).trans (LKeep.of_d k4)).trans (LKeep.set hda _)⟩

theorem sat_Clamp1 (n : Int) (w : World) : Calls Tryz.prog 35 #[.int .i64 n, .int .i64 1, .int .i64 100000000000000000] w fun e w' => e = .returned (.int .i64 (max 1 (min n 100000000000000000))) ∧ w = w' := by
  go_enter Tryz.func35, Tryz.ntmps35
  go_wp2_with fail
  go_ret
  exact ⟨rfl, rfl⟩

set_option maxRecDepth 100000 in
theorem wal_New (d : Nat) (size next : Int) (w : World) : Calls Tryz.prog 10 #[.pointer (some ⟨d, 0, none⟩), .int .i64 size, .int .i64 next] w fun e w' => e = .returned (.pointer (some ⟨w.heap.size, 0, none⟩)) ∧
    w'.heap[w.heap.size]? = some (.cells #[.pointer (some ⟨d, 0, none⟩), .int .i64 size, .int .i64 (max 1 (min next 100000000000000000)), .int .i64 (max 1 (min next 100000000000000000) - 1)] 74 (0, 0)) ∧ Below w.heap.size w w' := by
  have CC := Lib.hid (sat_Clamp1 next w)
  have h1 : 1 ≤ max 1 (min next 100000000000000000) ∧ max 1 (min next 100000000000000000) ≤ 100000000000000000 := by omega
  generalize max 1 (min next 100000000000000000) = m at *
  go_enter Tryz.func10, Tryz.ntmps10
  go_wp2_with (go_at_call 35; (with_reducible refine (CC.out).mono ?_); rintro e w1 ⟨rfl, rfl⟩)
  go_ret
  exact ⟨rfl, heap_alloc_new _ _, (Below.refl _ _).alloc (Nat.le_refl _) _⟩
end Go.Proofs.YtcpmicinibfepaaGreatDoor

namespace Go.Proofs.YtcpmicinibfepaaGreatDoor
open Go.ChangeShapes Go.WideShapes Go.ChangeAt Go.RowKit Go.Deep DiskP NameP


def trimD : DS → List Int → Int → DS × Int
  | S, a :: b :: r, seq => if b - 1 ≤ seq then (if (removeD S (tB a)).2 ≠ 0 then removeD S (tB a) else trimD (removeD S (tB a)).1 (b :: r) seq) else (S, 0)
  | S, _, _ => (S, 0)
theorem trimD_step {S : DS} {a b seq : Int} {r : List Int} (h : b - 1 ≤ seq) (h2 : (removeD S (tB a)).2 = 0) : trimD S (a :: b :: r) seq = trimD (removeD S (tB a)).1 (b :: r) seq := by
  simp only [trimD]
  rw [if_pos h, if_neg (fun hc => hc h2)]
theorem trimD_bad {S : DS} {a b seq : Int} {r : List Int} (h : b - 1 ≤ seq) (h2 : (removeD S (tB a)).2 ≠ 0) : trimD S (a :: b :: r) seq = removeD S (tB a) := by
  simp only [trimD]
  rw [if_pos h, if_pos h2]
theorem trimD_stop {S : DS} {a b seq : Int} {r : List Int} (h : ¬ b - 1 ≤ seq) : trimD S (a :: b :: r) seq = (S, 0) := by
  simp only [trimD]
  rw [if_neg h]
theorem trimD_end {S : DS} {ns : List Int} {seq : Int} (h : ns.length ≤ 1) : trimD S ns seq = (S, 0) := by
  match ns, h with
  | [], _ => rfl
  | [_], _ => rfl
theorem drop_two {ns : List Int} {k : Nat} {a b : Int} (h1 : ns[k]? = some a) (h2 : ns[k + 1]? = some b) : ns.drop k = a :: b :: ns.drop (k + 2) := by
  obtain ⟨l1, e1⟩ := List.getElem?_eq_some_iff.1 h1
  obtain ⟨l2, e2⟩ := List.getElem?_eq_some_iff.1 h2
  rw [List.drop_eq_getElem_cons l1, List.drop_eq_getElem_cons l2, e1, e2]
theorem drop_one {ns : List Int} {k : Nat} {b : Int} (h2 : ns[k + 1]? = some b) : ns.drop (k + 1) = b :: ns.drop (k + 2) := by
  obtain ⟨l2, e2⟩ := List.getElem?_eq_some_iff.1 h2
  rw [List.drop_eq_getElem_cons l2, e2]
/-- a removal of the first of files -/
theorem rem_first {S X : DS} (hs : Sorted S.fs) (h : Sim S X) (hon : S.on = true) (hf : S.fuse = -1) {f : Fl} {L : List Fl} {a : Int} (hX : X.fs = f :: L) (hfa : f.nm = tB a) (hL : ∀ x ∈ L, x.nm ≠ tB a) :
    ∃ X', Sim (removeD S (tB a)).1 X' ∧ X'.fs = L ∧ (removeD S (tB a)).2 = 0 ∧ (removeD S (tB a)).1.on = true ∧ (removeD S (tB a)).1.fuse = -1 := by
  have h1 := do_sim hs h 4 (tB a) ⟨#[]⟩ 0 (by omega)
  simp only [show ¬ (4 : Int) = 2 by decide, show ¬ (4 : Int) = 3 by decide, if_false, if_true] at h1
  obtain ⟨h2, h3⟩ := h1
  have hXon : X.on = true := h.on.trans hon
  have hat : X.fs[fnd X.fs (tB a)]? = some f := by
    have : fnd X.fs (tB a) = 0 := by unfold fnd; rw [hX, List.findIdx_cons]; simp [hfa]
    rw [this, hX]; rfl
  have hdo : doX X 4 (tB a) ⟨#[]⟩ 0 = opD X fun L => doT L 4 (tB a) ⟨#[]⟩ 0 := by
    unfold doX
    rw [if_neg (by simp [hXon]), hat]
    simp
  rw [hdo] at h2 h3
  refine ⟨_, h2, ?_⟩
  rw [← h3, ← h2.on, ← h2.fuse]
  have hXf : X.fuse = -1 := h.fuse.trans hf
  have hb : blow X = ({ X with ops := X.ops + 1 }, false) := by unfold blow; rw [if_pos hXf]
  unfold opD
  rw [hb]
  refine ⟨?_, rfl, hXon, hXf⟩
  show doT X.fs 4 (tB a) ⟨#[]⟩ 0 = L
  unfold doT
  rw [hat]
  simp only [show ¬ (4 : Int) = 2 by decide, show ¬ (4 : Int) = 3 by decide, if_false, if_true]
  unfold outX
  rw [hX, List.filter_cons_of_neg (by simp [hfa]), List.filter_eq_self.2]
  intro x hx
  simpa using hL x hx
/-- what is trimmed -/
theorem trim_law (R seq : Int) (j : Nat) (ns : List Int) : ∀ (i : Nat) (S X : DS) (L : List Fl), DInv R i j S → Sim S X → S.on = true → S.fuse = -1 → X.fs = L → names L = ns.map tB → (∀ n ∈ ns, 1 ≤ n ∧ n ≤ 999999999999999999) → ns.Pairwise (· < ·) →
    ∃ K X', Sim (trimD S ns seq).1 X' ∧ (trimD S ns seq).2 = 0 ∧ X'.fs = L.drop K ∧ (trimD S ns seq).1.on = true ∧ DInv R (i + K) j (trimD S ns seq).1 ∧ (K = 0 ∨ K + 1 ≤ ns.length) ∧
      (∀ k, k < K → ∀ b, ns[k + 1]? = some b → b - 1 ≤ seq) ∧ (∀ b, ns[K + 1]? = some b → ¬ b - 1 ≤ seq) := by
  induction ns with
  | nil => intro i S X L hI hX hon _ hL _ _ _; exact ⟨0, X, hX, rfl, hL, hon, hI, .inl rfl, fun k hk => by omega, fun b hb => by simp at hb⟩
  | cons a ns ih =>
    intro i S X L hI hX hon hf hL hn hr hp
    cases ns with
    | nil => exact ⟨0, X, hX, rfl, hL, hon, hI, .inl rfl, fun k hk => by omega, fun b hb => by simp at hb⟩
    | cons b r =>
      by_cases hb : b - 1 ≤ seq
      · cases L with
        | nil => simp [names] at hn
        | cons f L =>
          have hn0 : f.nm = tB a := by have := congrArg List.head? hn; simpa [names] using this
          have hn1 : names L = (b :: r).map tB := by have := congrArg List.tail hn; simpa [names] using this
          have hne : ∀ x ∈ L, x.nm ≠ tB a := fun x hx e => by
            have hm : x.nm ∈ names L := List.mem_map_of_mem hx
            rw [hn1] at hm
            obtain ⟨y, hy, e2⟩ := List.mem_map.1 hm
            have := tB_inj (hr y (List.mem_cons_of_mem _ hy)) (hr a List.mem_cons_self) (e2.trans e)
            have := (List.pairwise_cons.1 hp).1 y hy
            omega
          obtain ⟨X1, s1, s2, s3, s4, s5⟩ := rem_first hI.sorted hX hon hf hL hn0 hne
          rw [trimD_step hb s3]
          obtain ⟨K, X', t1, t2, t3, t4, t5, t6, t7, t8⟩ := ih (i + 1) _ X1 L (removeD_inv hI (tB a)).1 s1 s4 s5 s2 hn1 (fun n h => hr n (List.mem_cons_of_mem _ h)) (List.pairwise_cons.1 hp).2
          refine ⟨K + 1, X', t1, t2, by rw [t3]; rfl, t4, by rw [show i + (K + 1) = i + 1 + K by omega]; exact t5, ?_, ?_, ?_⟩
          · right
            rcases t6 with rfl | h
            · simp
            · simp only [List.length_cons] at h ⊢; omega
          · intro k hk y hy
            cases k with
            | zero =>
              obtain rfl : b = y := by simpa using hy
              exact hb
            | succ k => exact t7 k (by omega) y (by simpa using hy)
          · intro y hy
            exact t8 y (by simpa using hy)
      · rw [trimD_stop hb]
        refine ⟨0, X, hX, rfl, hL, hon, hI, .inl rfl, fun k hk => by omega, fun y hy => ?_⟩
        obtain rfl : b = y := by simpa using hy
        exact hb

set_option maxRecDepth 100000 in
set_option maxHeartbeats 8000000 in
theorem wal_Trim (a d : Nat) (A : Option Addr) (c : Nat) (size : Int) (L : WL) (hL : OkW L) (R : Int) (i j : Nat) (hI : DInv R i j L.S) (hij : i ≤ 800 ∧ j ≤ 900) (seq : Int) (w : World) (ht : ∀ W, Below d w W → TabW W) (hda : d < a) (h : Lg a d A c size L w) :
    Calls Tryz.prog 16 #[.pointer (some ⟨a, 0, none⟩), .int .i64 seq] w (LPost a d size ⟨(trimD L.S (numsX 1 (names L.S.fs)) seq).1, L.nx, L.sy⟩ (.int .i64 (trimD L.S (numsX 1 (names L.S.fs)) seq).2) w) := by
  have x0 := bx_cells h.box 0
  have hlt := h.lt
  have hdl := h.dk.lt
  have hmany := hI.many
  have hlen : (names L.S.fs).length = L.S.fs.length := by unfold names; simp
  have CM := Lib.hid (wal_made a d A c size L hL.nx.1 w h)
  have CN' : Calls Tryz.prog 13 #[.pointer (some ⟨d, 0, none⟩)] w fun e w' => ∃ A' c', e = .returned (.slice A' (names L.S.fs).length c') ∧ Rd w' w'.heap.size A' ((names L.S.fs).map Value.string) ∧ Below w.heap.size w w' := by
    refine (disk_Names d A c L.S (by omega) w h.dk).mono ?_
    rintro e w' ⟨A', c', rfl, ho, hb⟩
    refine ⟨A', c', by rw [hlen], ?_, hb⟩
    have := Rd.own ho
    unfold names
    rw [List.map_map]
    exact this
  have CN := Lib.hid CN'
  have CX := Lib.hid (fun (A' : Option Addr) (c' : Nat) (W : World) (hr : Rd W W.heap.size A' ((names L.S.fs).map Value.string)) => name_NumbersO 1 A' c' (names L.S.fs) (by omega) hL.names W hr)
  have HRG := Lib.hid (nums1_range (names L.S.fs))
  have HT := Lib.hid ht
  have hnl : (numsX 1 (names L.S.fs)).length ≤ 64 := by rw [numsX_len]; have := numsA_len 1 (names L.S.fs); omega
  have HL := Lib.hid h
  have HI := Lib.hid hI
  obtain ⟨S, nx, sy⟩ := L
  simp only at *
  clear CN' ht h hL hI hlen hmany
  generalize numsX 1 (names S.fs) = ns at *
  generalize names S.fs = nl at *
  go_enter Tryz.func16, Tryz.ntmps16
  go_wp2_with (first
    | (go_at_call 36; (with_reducible refine (CM.out).mono ?_); rintro e w1 ⟨rfl, rfl⟩)
    | (go_at_call 13; (with_reducible refine (CN.out).mono ?_); rintro e w2 ⟨A1, c1, rfl, r1, b1⟩)
    | (go_at_call 43; (with_reducible refine (CX.out _ _ _ r1).mono ?_); rintro e w3 ⟨A2, c2, rfl, o2, b2⟩; have b12 := below_step b2 b1; have hL3 := HL.out.kept b12))
  have hw2 : a < w2.heap.size := Nat.lt_of_lt_of_le hlt b1.size
  have HO := Lib.hid o2
  clear o2 r1 x0 b1 b2 CM CN CX
  go_loopw [6] (fun vi wr => ∃ (k : Nat) (S' : DS) (A' : Option Addr) (c' : Nat), k ≤ ns.length ∧ vi = .int .i64 k ∧ Lg a d A' c' size ⟨S', nx, sy⟩ wr ∧ LKeep d a w wr ∧ Hid (DInv R (i + k) j S' ∧ trimD S' (ns.drop k) seq = trimD S ns seq ∧ wr.ownsRow w2.heap.size 3 1 (.slice A2 ns.length c2) ns.length (ns.map (Value.int .i64)))) (fun vi _ => ns.length - (intOf vi).toNat)
  case atStart => exact ⟨0, S, A, c, by omega, rfl, hL3, LKeep.of_below b12 (Nat.le_of_lt hdl), Lib.hid ⟨HI.out, rfl, HO.out⟩⟩
  case round =>
    obtain ⟨k, S', A', c', hk, rfl, hl, hkp, HQ⟩ := hrel
    clear HO hL3 b12
    obtain ⟨hI', hT', hO'⟩ := HQ.out
    by_cases hlt2 : k + 1 < ns.length
    · obtain ⟨n0, hn0⟩ : ∃ y, ns[k]? = some y := ⟨ns[k], List.getElem?_eq_getElem (by omega)⟩
      obtain ⟨n1, hn1⟩ : ∃ y, ns[k + 1]? = some y := ⟨ns[k + 1], List.getElem?_eq_getElem hlt2⟩
      have hr0 := HRG.out n0 (List.mem_of_getElem? hn0)
      have hr1 := HRG.out n1 (List.mem_of_getElem? hn1)
      obtain ⟨g, rfl⟩ : ∃ g, A2 = some ⟨g, 0, none⟩ := by
        rcases row_sliceN hO' with ⟨_, h0⟩ | ⟨g, cap, e1, _⟩
        · omega
        · exact ⟨g, by injection e1⟩
      have z0 := own_cell hO' k (.int .i64 n0) (by rw [List.getElem?_map, hn0]; rfl)
      have z1 := own_cell hO' (k + 1) (.int .i64 n1) (by rw [List.getElem?_map, hn1]; rfl)
      have hd2 := drop_two hn0 hn1
      have hd1 := drop_one hn1
      have hi1 : (k : Int) + 1 < (ns.length : Int) := by omega
      have hkn : k < ns.length := by omega
      by_cases hle : n1 - 1 ≤ seq
      · have CO' : ∀ W : World, LKeep d a w W → Calls Tryz.prog 45 #[.int .i64 1, .int .i64 n0] W fun e w' => e = .returned (.string (tB n0)) ∧ Below W.heap.size W w' := fun W hb => name_Of 1 n0 (I64_small hr0) W (HT.out W hb.below)
        have CO := Lib.hid CO'
        have CRm := Lib.hid (fun (W : World) (A' : Option Addr) (c' : Nat) (hd : Dk d A' c' S' W) => disk_Remove d A' c' S' (hI'.ok (by omega) (by omega)) (tB n0) W hd)
        have hI2 := (removeD_inv hI' (tB n0)).1
        have HN0 := Lib.hid hn0
        rw [hd2] at hT'
        by_cases hbad : (removeD S' (tB n0)).2 ≠ 0
        · rw [trimD_bad hle hbad] at hT'
          have HTE := Lib.hid (And.intro (congrArg Prod.fst hT') (congrArg Prod.snd hT'))
          have g0 : ((removeD S' (tB n0)).2 == 0) = false := by simpa using hbad
          clear hd2 hd1 hn0 hn1 hT' HQ hI' hI2
          generalize (removeD S' (tB n0)).1 = S1 at *
          generalize (removeD S' (tB n0)).2 = r1 at *
          go_wp2_with fail
          refine wp_region_noPanic ?_
          refine wp_region_held_drew (S := fun W => W.heap[a]? = some (.cells #[.pointer (some ⟨d, 0, none⟩), .int .i64 size, .int .i64 nx, .int .i64 sy] 74 (0, 0)) ∧ W.cell? ⟨g, k, none⟩ = some (.int .i64 n0)) (by kernel_rfl) ⟨hl.box, z0⟩ (fun hA => ?_)
          have hl1 := hl.kept (Below.refl _ wr).drew
          have kp1 := hkp.trans (LKeep.of_below (a := a) (Below.refl _ wr).drew (Nat.le_of_lt hl.dk.lt))
          have HOW := Lib.hid (hO'.drew)
          generalize wr.drew = v0 at hA hl1 kp1 HOW ⊢
          clear z0 z1 hl hkp hO'
          (refine wpAnyH_seg (by kernel_rfl) (fun _ _ _ _ _ h => h) hA 3 8 0 _ _ (by decide) (by kernel_rfl) ?_; simp only [List.drop_zero, List.take_succ_cons, List.take_zero]; ((iterate 8 ((refine' wpTake_cons (by rfl) (fun W hW => ?_) ?_); rotate_left; (have m0 := bx_cells hW.1 0; have m1 := hW.2; go_simp; (try simp only [ne_eq, not_true_eq_false, decide_false, Bool.not_true, bne_self_eq_false, beq_self_eq_true, go_sem]); with_reducible rfl); simp only [Act.put, List.setIfInBounds_toArray, List.set_cons_zero, List.set_cons_succ])); refine wpTake_nil ?_))
          (refine wpAnyH_one 8 (by kernel_rfl) rfl (fun K hK => ?_); rw [if_pos (by rfl)]; go_simp)
          go_at_call 45
          (with_reducible refine (CO.out _ kp1).mono ?_); rintro e v1 ⟨rfl, g1⟩
          go_wp2_with fail
          have hl2 := hl1.kept g1
          have kp2 := kp1.trans (LKeep.of_below (a := a) g1 (Nat.le_of_lt hl1.dk.lt))
          have HOW2 := Lib.hid (own_below HOW.out g1)
          have hA2 := And.intro hl2.box (own_cell HOW2.out k (.int .i64 n0) (by rw [List.getElem?_map, HN0.out]; rfl))
          refine hK.out _ _ hA2 (fun _ => ?_)
          clear hK K hA
          ((try simp only [Act.put, List.setIfInBounds_toArray, List.set_cons_zero, List.set_cons_succ]))
          (refine wpAnyH_one 9 (by kernel_rfl) rfl (fun K hK => ?_); rw [if_pos (by rfl)]; go_simp)
          go_at_call 44
          (with_reducible refine (CRm.out _ _ _ hl2.dk).mono ?_); rintro e v2 ⟨rfl, A5, c5, hd5, k5⟩
          go_wp2_with fail
          have hl3 := hl2.step k5 hd5 hda
          have kp3 := kp2.trans (LKeep.of_d k5)
          have HOW3 := Lib.hid (own_lkeep HOW2.out (LKeep.of_d (a := a) k5) (by omega) (fun g hg => by have := (HOW2.out.lt g hg).1; omega) (by decide))
          have hA3 := And.intro hl3.box (own_cell HOW3.out k (.int .i64 n0) (by rw [List.getElem?_map, HN0.out]; rfl))
          refine hK.out _ _ hA3 (fun _ => ?_)
          clear hK K hA2
          ((try simp only [Act.put, List.setIfInBounds_toArray, List.set_cons_zero, List.set_cons_succ]))
          (refine wpAnyH_seg (by kernel_rfl) (fun _ _ _ _ _ h => h) hA3 0 1 10 _ _ (by decide) (by kernel_rfl) ?_; simp only [List.drop_succ_cons, List.drop_zero, List.take_succ_cons, List.take_zero]; ((iterate 1 ((refine' wpTake_cons (by rfl) (fun W hW => ?_) ?_); rotate_left; (skip; go_simp; (try simp only [ne_eq, not_true_eq_false, decide_false, Bool.not_true, bne_self_eq_false, beq_self_eq_true, go_sem]); with_reducible rfl); simp only [Act.put, List.setIfInBounds_toArray, List.set_cons_zero, List.set_cons_succ])); refine wpTake_nil ?_))
          refine wpAnyH_done (by kernel_rfl) ?_ _
          refine NoPanic.normal ?_
          go_wp2_with fail
          go_ret
          exact ⟨by rw [← HTE.out.2]; rfl, A5, c5, by rw [← HTE.out.1]; exact hl3, kp3⟩
        · have hok : (removeD S' (tB n0)).2 = 0 := by omega
          rw [trimD_step hle hok, ← hd1] at hT'
          rw [hok] at CRm
          have HI2 := Lib.hid hI2
          have HT2 := Lib.hid hT'
          clear hd2 hd1 hn0 hn1 hT' HQ hI' hI2 hbad hok
          generalize (removeD S' (tB n0)).1 = S1 at *
          go_wp2_with fail
          refine wp_region_noPanic ?_
          refine wp_region_held_drew (S := fun W => W.heap[a]? = some (.cells #[.pointer (some ⟨d, 0, none⟩), .int .i64 size, .int .i64 nx, .int .i64 sy] 74 (0, 0)) ∧ W.cell? ⟨g, k, none⟩ = some (.int .i64 n0)) (by kernel_rfl) ⟨hl.box, z0⟩ (fun hA => ?_)
          have hl1 := hl.kept (Below.refl _ wr).drew
          have kp1 := hkp.trans (LKeep.of_below (a := a) (Below.refl _ wr).drew (Nat.le_of_lt hl.dk.lt))
          have HOW := Lib.hid (hO'.drew)
          generalize wr.drew = v0 at hA hl1 kp1 HOW ⊢
          clear z0 z1 hl hkp hO'
          (refine wpAnyH_seg (by kernel_rfl) (fun _ _ _ _ _ h => h) hA 3 8 0 _ _ (by decide) (by kernel_rfl) ?_; simp only [List.drop_zero, List.take_succ_cons, List.take_zero]; ((iterate 8 ((refine' wpTake_cons (by rfl) (fun W hW => ?_) ?_); rotate_left; (have m0 := bx_cells hW.1 0; have m1 := hW.2; go_simp; (try simp only [ne_eq, not_true_eq_false, decide_false, Bool.not_true, bne_self_eq_false, beq_self_eq_true, go_sem]); with_reducible rfl); simp only [Act.put, List.setIfInBounds_toArray, List.set_cons_zero, List.set_cons_succ])); refine wpTake_nil ?_))
          (refine wpAnyH_one 8 (by kernel_rfl) rfl (fun K hK => ?_); rw [if_pos (by rfl)]; go_simp)
          go_at_call 45
          (with_reducible refine (CO.out _ kp1).mono ?_); rintro e v1 ⟨rfl, g1⟩
          go_wp2_with fail
          have hl2 := hl1.kept g1
          have kp2 := kp1.trans (LKeep.of_below (a := a) g1 (Nat.le_of_lt hl1.dk.lt))
          have HOW2 := Lib.hid (own_below HOW.out g1)
          have hA2 := And.intro hl2.box (own_cell HOW2.out k (.int .i64 n0) (by rw [List.getElem?_map, HN0.out]; rfl))
          refine hK.out _ _ hA2 (fun _ => ?_)
          clear hK K hA
          ((try simp only [Act.put, List.setIfInBounds_toArray, List.set_cons_zero, List.set_cons_succ]))
          (refine wpAnyH_one 9 (by kernel_rfl) rfl (fun K hK => ?_); rw [if_pos (by rfl)]; go_simp)
          go_at_call 44
          (with_reducible refine (CRm.out _ _ _ hl2.dk).mono ?_); rintro e v2 ⟨rfl, A5, c5, hd5, k5⟩
          go_wp2_with fail
          have hl3 := hl2.step k5 hd5 hda
          have kp3 := kp2.trans (LKeep.of_d k5)
          have HOW3 := Lib.hid (own_lkeep HOW2.out (LKeep.of_d (a := a) k5) (by omega) (fun g hg => by have := (HOW2.out.lt g hg).1; omega) (by decide))
          have hA3 := And.intro hl3.box (own_cell HOW3.out k (.int .i64 n0) (by rw [List.getElem?_map, HN0.out]; rfl))
          refine hK.out _ _ hA3 (fun _ => ?_)
          clear hK K hA2
          ((try simp only [Act.put, List.setIfInBounds_toArray, List.set_cons_zero, List.set_cons_succ]))
          (refine wpAnyH_seg (by kernel_rfl) (fun _ _ _ _ _ h => h) hA3 0 1 10 _ _ (by decide) (by kernel_rfl) ?_; simp only [List.drop_succ_cons, List.drop_zero, List.take_succ_cons, List.take_zero]; ((iterate 1 ((refine' wpTake_cons (by rfl) (fun W hW => ?_) ?_); rotate_left; (skip; go_simp; (try simp only [ne_eq, not_true_eq_false, decide_false, Bool.not_true, bne_self_eq_false, beq_self_eq_true, go_sem]); with_reducible rfl); simp only [Act.put, List.setIfInBounds_toArray, List.set_cons_zero, List.set_cons_succ])); refine wpTake_nil ?_))
          refine wpAnyH_done (by kernel_rfl) ?_ _
          refine NoPanic.normal ?_
          go_wp2_with fail
          exact ⟨⟨k + 1, S1, A5, c5, by omega, by go_num, hl3, kp3, Lib.hid ⟨by rw [← Nat.add_assoc]; exact HI2.out, HT2.out, HOW3.out⟩⟩, by show ns.length - ((k : Int) + 1).toNat < ns.length - ((k : Int)).toNat; omega⟩
      · rw [hd2, trimD_stop hle] at hT'
        have HTE := Lib.hid (And.intro (congrArg Prod.fst hT') (congrArg Prod.snd hT'))
        have HLl := Lib.hid hl
        clear hO' hd2 hd1 hn0 hn1 hT' HQ hI'
        go_wp2_with fail
        go_ret
        exact ⟨by rw [← HTE.out.2]; rfl, A', c', by rw [← HTE.out.1]; exact HLl.out, hkp⟩
    · have hi1 : ¬ (k : Int) + 1 < (ns.length : Int) := by omega
      rw [trimD_end (by rw [List.length_drop]; omega)] at hT'
      have HTE := Lib.hid (And.intro (congrArg Prod.fst hT') (congrArg Prod.snd hT'))
      clear hO' hT' HQ hI'
      go_wp2_with fail
      go_ret
      exact ⟨by rw [← HTE.out.2]; rfl, A', c', by rw [← HTE.out.1]; exact hl, hkp⟩
end Go.Proofs.YtcpmicinibfepaaGreatDoor

namespace Go.Proofs.YtcpmicinibfepaaGreatDoor
open Go.ChangeShapes Go.WideShapes Go.ChangeAt Go.RowKit Go.Deep DiskP NameP


theorem read_mem {S : DS} (hs : Sorted S.fs) (hon : S.on = true) {f : Fl} (hf : f ∈ S.fs) : readD S f.nm = (f.all, 0) := by
  obtain ⟨h1, h2⟩ := file_at hs hf
  unfold readD
  rw [if_neg (by simp [hon]), h1]
  simp [h2]
/-- how the segments lie after a trim -/
structure TrimW (S : DS) (seq : Int) (G : List Sg) (K : Nat) (S2 : DS) : Prop where
  on : S2.on = true
  fuse : S2.fs.length = G.length - K
  nums : numsX 1 (names S2.fs) = (G.map fun g => (g.1 : Int)).drop K
  many : K = 0 ∨ K + 1 ≤ G.length
  low : ∀ k, k < K → ∀ g, G[k]? = some g → (g.1 : Int) + g.2.length - 1 ≤ seq
  high : K + 1 < G.length → ∀ g, G[K]? = some g → ¬ (g.1 : Int) + g.2.length - 1 ≤ seq
  read : ∀ (k : Nat) g, K ≤ k → G[k]? = some g → readD S2 (tB g.1) = (sgB g, 0)
  names : ∀ s ∈ names S2.fs, s.size ≤ 100
theorem cont_next {G : List Sg} (h : cont 1 G) {k : Nat} {g g' : Sg} (h1 : G[k]? = some g) (h2 : G[k + 1]? = some g') : g'.1 = g.1 + g.2.length := by
  have a := (cont_at G 1 h k g h1).1
  have b := (cont_at G 1 h (k + 1) g' h2).1
  rw [flat_take_snoc h1, List.length_append] at b
  omega
theorem trims_law {R : Int} {i j : Nat} {S : DS} {T : List ByteArray} {p : Nat} (hI : DInv R i j S) (h : CoreW S T p) (hon : S.on = true) (hfu : S.fuse = -1) (hT : T.length ≤ 1000) (seq : Int) :
    ∃ G K, MidW S T G ∧ (trimD S (G.map fun g => (g.1 : Int)) seq).2 = 0 ∧ DInv R (i + K) j (trimD S (G.map fun g => (g.1 : Int)) seq).1 ∧ TrimW S seq G K (trimD S (G.map fun g => (g.1 : Int)) seq).1 ∧ K ≤ G.length := by
  have hcore := h
  obtain ⟨X, hX, hseg⟩ := h
  rcases hseg with ⟨hF, rfl, rfl⟩ | ⟨G0, g, su, hF, hc, hfl, h4, h5, h6⟩
  · have hS : S.fs = [] := by have := hX.perm; rw [hF] at this; exact this.symm.eq_nil
    refine ⟨[], 0, ⟨trivial, rfl, Nat.le_refl _, by rw [hS]; rfl, by rw [hS]; rfl, fun k g hk => by simp at hk, fun _ k g hk => by simp at hk, by rw [hS]; intro s hs; cases hs⟩, rfl, hI, ⟨hon, by show S.fs.length = _; rw [hS]; rfl, by show numsX 1 (names S.fs) = _; rw [hS]; rfl, .inl rfl, fun k hk => by omega, fun hk => by simp at hk, fun k g _ hk => by simp at hk, by show ∀ s ∈ names S.fs, _; rw [hS]; intro s hs; cases hs⟩, Nat.le_refl _⟩
  · subst hfl
    have hp : (G0.map full ++ [fl g su]).Perm S.fs := hF ▸ hX.perm
    have hnm := names_segs G0 g su
    have hr := cont_range hc hT
    have hrise := cont_rise hc
    have hnm2 : names (G0.map full ++ [fl g su]) = ((G0 ++ [g]).map fun g => (g.1 : Int)).map tB := by rw [hnm, List.map_map]; rfl
    obtain ⟨K, X', t1, t2, t3, t4, t5, t6, t7, t8⟩ := trim_law R seq j ((G0 ++ [g]).map fun g => (g.1 : Int)) i S X _ hI hX hon hfu hF hnm2 (fun n hn => by obtain ⟨y, hy, rfl⟩ := List.mem_map.1 hn; exact hr y hy) hrise
    have hmid : ∃ G, MidW S (flat (G0 ++ [g])) G := mid_law hI.sorted hcore hT
    have hG : MidW S (flat (G0 ++ [g])) (G0 ++ [g]) := by
      refine ⟨hc, rfl, cont_len _ 1 hc, by rw [← hp.length_eq]; simp, nums_files hc hT hnm hp, ?_, ?_, ?_⟩
      · intro k x hk h1
        rw [List.length_append, List.length_singleton] at h1
        rw [List.getElem?_append_left (by omega)] at hk
        have hm : full x ∈ X.fs := by rw [hF]; exact List.mem_append_left _ (List.mem_map_of_mem (List.mem_of_getElem? hk))
        have h9 := sure_sim hI.sorted hX hm
        simp only [full, fl] at h9
        exact h9
      · intro _ k x hk
        have hm : ∃ s, fl x s ∈ S.fs := by
          rcases List.mem_append.1 (List.mem_of_getElem? hk) with h | h
          · exact ⟨_, hp.mem_iff.1 (List.mem_append_left _ (List.mem_map_of_mem h))⟩
          · rw [List.mem_singleton.1 h]; exact ⟨su, hp.mem_iff.1 (by simp)⟩
        obtain ⟨s, hm⟩ := hm
        have h9 := read_mem hI.sorted hon hm
        simp only [fl] at h9
        exact h9
      · intro s hs
        have hp2 : (names (G0.map full ++ [fl g su])).Perm (names S.fs) := hp.map _
        have := hp2.mem_iff.2 hs
        rw [hnm] at this
        obtain ⟨y, _, rfl⟩ := List.mem_map.1 this
        have := tB_size y.1
        omega
    rw [List.length_map] at t6
    have hKl : K ≤ (G0 ++ [g]).length := by omega
    have hp3 : ((G0.map full ++ [fl g su]).drop K).Perm (trimD S ((G0 ++ [g]).map fun g => (g.1 : Int)) seq).1.fs := t3 ▸ t1.perm
    have hnm3 : names ((G0.map full ++ [fl g su]).drop K) = (((G0 ++ [g]).map fun g => (g.1 : Int)).drop K).map tB := by
      unfold names at hnm2 ⊢
      rw [List.map_drop, hnm2, List.map_drop]
    refine ⟨G0 ++ [g], K, hG, t2, t5, ⟨t4, ?_, ?_, t6, ?_, ?_, ?_, ?_⟩, hKl⟩
    · rw [← hp3.length_eq]; simp
    · exact nums_of (fun n hn => by obtain ⟨y, hy, rfl⟩ := List.mem_map.1 (List.mem_of_mem_drop hn); exact hr y hy) (hrise.drop) hnm3 hp3
    · intro k hk x hx
      obtain ⟨x', hx'⟩ : ∃ x', (G0 ++ [g])[k + 1]? = some x' := ⟨_, List.getElem?_eq_getElem (by omega)⟩
      have := t7 k hk (x'.1 : Int) (by rw [List.getElem?_map, hx']; rfl)
      have := cont_next hc hx hx'
      omega
    · intro hk x hx
      obtain ⟨x', hx'⟩ : ∃ x', (G0 ++ [g])[K + 1]? = some x' := ⟨_, List.getElem?_eq_getElem (by omega)⟩
      have := t8 (x'.1 : Int) (by rw [List.getElem?_map, hx']; rfl)
      have := cont_next hc hx hx'
      omega
    · intro k x hk hx
      have hm : ∃ s, (G0.map full ++ [fl g su])[k]? = some (fl x s) := by
        have hkl := (List.getElem?_eq_some_iff.1 hx).1
        rw [List.length_append, List.length_singleton] at hkl
        rcases Nat.lt_or_ge k G0.length with h | h
        · rw [List.getElem?_append_left h] at hx
          exact ⟨_, by rw [List.getElem?_append_left (by simpa using h), List.getElem?_map, hx]; rfl⟩
        · obtain rfl : k = G0.length := by omega
          rw [List.getElem?_append_right (Nat.le_refl _), Nat.sub_self] at hx
          obtain rfl := Option.some.inj hx
          exact ⟨su, by rw [List.getElem?_append_right (by simp), List.length_map, Nat.sub_self]; rfl⟩
      obtain ⟨s, hm⟩ := hm
      have hm2 : fl x s ∈ (G0.map full ++ [fl g su]).drop K := by
        refine List.mem_of_getElem? (i := k - K) ?_
        rw [List.getElem?_drop, show K + (k - K) = k by omega]
        exact hm
      have h9 := read_mem t5.sorted t4 (hp3.mem_iff.1 hm2)
      simp only [fl] at h9
      exact h9
    · intro s hs
      have hp2 : (names ((G0.map full ++ [fl g su]).drop K)).Perm (names (trimD S ((G0 ++ [g]).map fun g => (g.1 : Int)) seq).1.fs) := hp3.map _
      have := hp2.mem_iff.2 hs
      rw [hnm3] at this
      obtain ⟨y, _, rfl⟩ := List.mem_map.1 this
      have := tB_size y
      omega
/-- the frames of a whole segment -/
theorem all_sgB {T : List ByteArray} {G : List Sg} (hc : cont 1 G) (hf : flat G = T) (hT : T.length ≤ 1000) (hd : ∀ d ∈ T, d.size ≤ 100) {k : Nat} {g : Sg} (hk : G[k]? = some g) :
    ∃ er, FrameP.all (sgB g).data.toList = (frs g.1 g.2, (sgB g).size, er) ∧ 1 ≤ g.1 ∧ g.2 ≠ [] ∧ g.1 + g.2.length ≤ T.length + 1 ∧ (sgB g).size ≤ 116 * T.length := by
  obtain ⟨h1, h2⟩ := cont_at G 1 hc k g hk
  have hle := flat_take_le G (k + 1)
  rw [flat_take_snoc hk, List.length_append, hf] at hle
  have hsub : ∀ d ∈ g.2, d ∈ T := fun d hd' => by rw [← hf]; unfold flat; exact List.mem_flatMap.2 ⟨g, List.mem_of_getElem? hk, hd'⟩
  obtain ⟨m, er, a1, a2, a3, a4, a5⟩ := all_full (g := g) (by omega) (by omega) (fun d hd' => by have := hd d (hsub d hd'); omega) (sgB g).size (Nat.le_refl _)
  obtain ⟨a6, a7⟩ := a5 rfl
  rw [show (sgB g).extract 0 (sgB g).size = sgB g by simp] at a1
  rw [a6, List.take_length] at a1 a7
  refine ⟨er, by rw [a1, a7], by omega, h2, by omega, ?_⟩
  rw [← a7]
  have := bytesT_le g.2 (fun d hd' => hd d (hsub d hd'))
  omega
end Go.Proofs.YtcpmicinibfepaaGreatDoor
