/- Layer 32: what a log is in memory; New, made, Next, Synced, last · Layer 32: Sync, place · Layer 32: Append, New, Trim. -/
import Derived.Test.YtcpmicinibfepaaGreatDoorUBj
import Derived.Test.YtcpmicinibfepaaGreatDoorUBa
import Derived.Test.YtcpmicinibfepaaGreatDoorUBi
import Derived.Test.YtcpmicinibfepaaGreatDoorUAs
import Derived.Test.YtcpmicinibfepaaGreatDoorUAp
namespace Go.Proofs.YtcpmicinibfepaaGreatDoor
open Go.ChangeShapes Go.WideShapes Go.ChangeAt Go.RowKit Go.Deep DiskP NameP


/-- the log at block a, on the disk at block d -/
structure Lg (a d : Nat) (A : Option Addr) (c : Nat) (size : Int) (L : WL) (w : World) : Prop where
  dk : Dk d A c L.S w
  box : w.heap[a]? = some (.cells #[.pointer (some ⟨d, 0, none⟩), .int .i64 size, .int .i64 L.nx, .int .i64 L.sy] 74 (0, 0))
/-- what a log's calls leave alone -/
structure LKeep (d a : Nat) (w w' : World) : Prop where
  below : Below d w w'
  others : ∀ b, d < b → b ≠ a → b < w.heap.size → (∀ cs z, w.heap[b]? ≠ some (.cells cs 81 z)) → w'.heap[b]? = w.heap[b]?
theorem LKeep.of_d {d a : Nat} {w w' : World} (h : DKeep d w w') : LKeep d a w w' := ⟨h.below, fun b hb _ hs ht => h.others b hb hs ht⟩
theorem LKeep.refl (d a : Nat) (w : World) : LKeep d a w w := .of_d (DKeep.refl d w)
theorem LKeep.trans {d a : Nat} {u v w : World} (h : LKeep d a u v) (k : LKeep d a v w) : LKeep d a u w :=
  ⟨h.below.trans k.below, fun x hx hn hs ht => by
    have h1 := h.others x hx hn hs ht
    rw [k.others x hx hn (Nat.lt_of_lt_of_le hs h.below.size) (by rw [h1]; exact ht), h1]⟩
theorem LKeep.of_below {d a : Nat} {w w' : World} (h : Below w.heap.size w w') (hd : d ≤ w.heap.size) : LKeep d a w w' := .of_d (DKeep.of_below h hd)
theorem LKeep.set {w : World} {d a j : Nat} (hda : d < a) (u : Value) : LKeep d a w (w.setCell ⟨a, j, none⟩ u) :=
  ⟨(Below.refl d w).setCell (p := ⟨a, j, none⟩) (Nat.le_of_lt hda) u, fun b hb hn _ _ => heap_setCell_other w ⟨a, j, none⟩ b u (by show b ≠ a; exact hn)⟩
theorem lkeep_box {d a b : Nat} {w w' : World} {cs : Array Value} {T : TypeId} {fr : Nat × Nat} (h : LKeep d a w w') (hb : w.heap[b]? = some (.cells cs T fr)) (hd : b ≠ d) (ha : b ≠ a) (ht : T ≠ 81) : w'.heap[b]? = some (.cells cs T fr) := by
  rcases Nat.lt_or_ge b d with h1 | h1
  · exact (h.below.block b h1).trans hb
  · exact (h.others b (by omega) ha (bx_lt hb) (fun cs' z e => by rw [hb] at e; simp at e; exact ht e.2.1)).trans hb
/-- rows of no file are kept -/
theorem own_lkeep {d a base n sz : Nat} {w w' : World} {e : TypeId} {v : Value} {xs : List Value} (h : w.ownsRow base e sz v n xs) (hk : LKeep d a w w') (hd : d < base) (ha : ∀ g, v.ownBlock = some g → g ≠ a) (ht : e ≠ 81) : w'.ownsRow base e sz v n xs := by
  refine own_at h fun g hg => ?_
  obtain ⟨cur, hc⟩ := own_type h hg
  have h1 := h.lt g hg
  exact (lkeep_box hk hc (by omega) (ha g hg) ht).trans hc.symm
section
variable {a d c : Nat} {A : Option Addr} {size : Int} {L : WL} {w w' : World}
theorem Lg.lt (h : Lg a d A c size L w) : a < w.heap.size := bx_lt h.box
theorem Lg.kept (h : Lg a d A c size L w) (hb : Below w.heap.size w w') : Lg a d A c size L w' := ⟨h.dk.kept hb, bx_kept h.box hb⟩
theorem Lg.step {S' : DS} {A' : Option Addr} {c' : Nat} (h : Lg a d A c size L w) (hk : DKeep d w w') (hd : Dk d A' c' S' w') (hda : d < a) : Lg a d A' c' size ⟨S', L.nx, L.sy⟩ w' :=
  ⟨hd, dkeep_box hk h.box (by omega) (by decide)⟩
theorem dk_set_far {S : DS} (h : Dk d A c S w) {b j : Nat} (hb : w.heap[b]? = some (.cells #[.pointer (some ⟨d, 0, none⟩), .int .i64 size, .int .i64 L.nx, .int .i64 L.sy] 74 (0, 0))) (hda : d < b) (u : Value) : Dk d A c S (w.setCell ⟨b, j, none⟩ u) := by
  refine ⟨(heap_setCell_other w ⟨b, j, none⟩ d u (by show d ≠ b; omega)).trans h.box, own_at h.row fun g hg => heap_setCell_other w ⟨b, j, none⟩ g u (fun e => ?_)⟩
  obtain ⟨cur, hc⟩ := own_type h.row hg
  obtain rfl : g = b := e
  rw [hb] at hc
  simp at hc
theorem Lg.set_nx (h : Lg a d A c size L w) (hda : d < a) (n : Int) : Lg a d A c size ⟨L.S, n, L.sy⟩ (w.setCell ⟨a, 2, none⟩ (.int .i64 n)) := ⟨dk_set_far h.dk h.box hda _, bx_set h.box 2 _⟩
theorem Lg.set_sy (h : Lg a d A c size L w) (hda : d < a) (n : Int) : Lg a d A c size ⟨L.S, L.nx, n⟩ (w.setCell ⟨a, 3, none⟩ (.int .i64 n)) := ⟨dk_set_far h.dk h.box hda _, bx_set h.box 3 _⟩
end
/-- what a call on a log leaves -/
def LPost (a d : Nat) (size : Int) (L : WL) (v : Value) (w : World) (e : Ending) (w' : World) : Prop := e = .returned v ∧ ∃ A c, Lg a d A c size L w' ∧ LKeep d a w w'
theorem kind1_range (s : List UInt8) (h : (kindS s).1 = 1) : 1 ≤ (kindS s).2 ∧ (kindS s).2 ≤ 999999999999999999 := by
  have h1 := of_kind s (by omega)
  rw [h] at h1
  refine digS_ne.1 fun hc => ?_
  unfold ofS withS at h1
  rw [if_pos rfl, if_pos hc] at h1
  rw [← h1] at h
  exact absurd h (by decide)
theorem nums1_range (l : List ByteArray) : ∀ n ∈ numsX 1 l, 1 ≤ n ∧ n ≤ 999999999999999999 := by
  intro n hn
  have h2 := (nums_both 1 l).2.mem_iff.1 hn
  rw [numsA_eq] at h2
  obtain ⟨s, hs, rfl⟩ := List.mem_map.1 h2
  have := (List.mem_filter.1 hs).2
  exact kind1_range _ (of_decide_eq_true this)
theorem I64_small {n : Int} (h : 1 ≤ n ∧ n ≤ 999999999999999999) : I64 n := by unfold I64; omega
/-- what a log needs of its disk -/
structure OkW (L : WL) : Prop where
  ok : OkD L.S
  names : ∀ s ∈ names L.S.fs, s.size ≤ 100
  nx : 1 ≤ L.nx ∧ L.nx ≤ 1000000
  sy : 0 ≤ L.sy ∧ L.sy ≤ 1000000

set_option maxRecDepth 100000 in
theorem wal_made (a d : Nat) (A : Option Addr) (c : Nat) (size : Int) (L : WL) (hn : 1 ≤ L.nx) (w : World) (h : Lg a d A c size L w) :
    Calls Tryz.prog 36 #[.pointer (some ⟨a, 0, none⟩)] w fun e w' => e = .returned (.bool true) ∧ w = w' := by
  have x2 := bx_cells h.box 2
  have hn2 : (0 : Int) < L.nx := by omega
  go_enter Tryz.func36, Tryz.ntmps36
  go_wp2
  go_ret
  exact ⟨rfl, rfl⟩

theorem wal_Next (a d : Nat) (A : Option Addr) (c : Nat) (size : Int) (L : WL) (w : World) (h : Lg a d A c size L w) :
    Calls Tryz.prog 18 #[.pointer (some ⟨a, 0, none⟩)] w fun e w' => e = .returned (.int .i64 L.nx) ∧ w = w' := by
  have x2 := bx_cells h.box 2
  go_enter Tryz.func18, Tryz.ntmps18
  go_wp2
  go_ret
  exact ⟨rfl, rfl⟩

theorem wal_Synced (a d : Nat) (A : Option Addr) (c : Nat) (size : Int) (L : WL) (w : World) (h : Lg a d A c size L w) :
    Calls Tryz.prog 21 #[.pointer (some ⟨a, 0, none⟩)] w fun e w' => e = .returned (.int .i64 L.sy) ∧ w = w' := by
  have x3 := bx_cells h.box 3
  go_enter Tryz.func21, Tryz.ntmps21
  go_wp2
  go_ret
  exact ⟨rfl, rfl⟩

set_option maxRecDepth 100000 in
theorem wal_last (a d : Nat) (A : Option Addr) (c : Nat) (size : Int) (L : WL) (hL : OkW L) (w : World) (ht : ∀ W, Below d w W → TabW W) (h : Lg a d A c size L w) :
    Calls Tryz.prog 54 #[.pointer (some ⟨a, 0, none⟩)] w fun e w' => e = .returned (.string (lastW L.S.fs)) ∧ Below w.heap.size w w' := by
  have x0 := bx_cells h.box 0
  have hlt := h.lt
  have hmany := hL.ok.many
  have hlen : (names L.S.fs).length = L.S.fs.length := by unfold names; simp
  have CN' : Calls Tryz.prog 13 #[.pointer (some ⟨d, 0, none⟩)] w fun e w' => ∃ A' c', e = .returned (.slice A' (names L.S.fs).length c') ∧ Rd w' w'.heap.size A' ((names L.S.fs).map Value.string) ∧ Below w.heap.size w w' := by
    refine (disk_Names d A c L.S (by omega) w h.dk).mono ?_
    rintro e w' ⟨A', c', rfl, ho, hb⟩
    refine ⟨A', c', by rw [hlen], ?_, hb⟩
    have := Rd.own ho
    unfold names
    rw [List.map_map]
    exact this
  have CN := Lib.hid CN'
  have CM := Lib.hid (fun (A' : Option Addr) (c' : Nat) (W : World) (hr : Rd W W.heap.size A' ((names L.S.fs).map Value.string)) => name_Numbers 1 A' c' (names L.S.fs) (by omega) hL.names W hr)
  have HT := Lib.hid (fun W (hb : Below w.heap.size w W) => ht W (hb.mono (by have := h.dk.lt; omega)))
  have HLW := Lib.hid (show lastW L.S.fs = match (numsX 1 (names L.S.fs)).getLast? with | none => ⟨#[]⟩ | some n => tB n from rfl)
  have hnl : (numsX 1 (names L.S.fs)).length ≤ 1000 := by rw [numsX_len]; have := numsA_len 1 (names L.S.fs); omega
  have HRG := Lib.hid (nums1_range (names L.S.fs))
  clear CN' ht h hL hlen hmany
  generalize numsX 1 (names L.S.fs) = ns at *
  generalize names L.S.fs = nl at *
  generalize lastW L.S.fs = lw at *
  cases hn : ns.getLast? with
  | none =>
    obtain rfl : ns = [] := List.getLast?_eq_none_iff.1 hn
    obtain rfl : lw = ⟨#[]⟩ := HLW.out
    clear HLW hn
    have CM' : ∀ (A' : Option Addr) (c' : Nat) (W : World), Rd W W.heap.size A' (nl.map Value.string) → Calls Tryz.prog 43 #[.int .i64 1, .slice A' nl.length c'] W fun e w' => ∃ A' c', e = .returned (.slice A' 0 c') ∧ Below W.heap.size W w' := fun A' c' W h => (CM.out A' c' W h).mono fun e w' ⟨A2, c2, h1, h2, h3⟩ => ⟨A2, c2, h1, h3⟩
    have CM := Lib.hid CM'
    clear CM'
    go_enter Tryz.func54, Tryz.ntmps54
    go_wp2_with (first
      | (go_at_call 13; (with_reducible refine (CN.out).mono ?_); rintro e w1 ⟨A1, c1, rfl, r1, b1⟩)
      | (go_at_call 43; (with_reducible refine (CM.out _ _ _ r1).mono ?_); rintro e w2 ⟨A2, c2, rfl, b2⟩))
    go_ret
    exact ⟨rfl, below_step b2 b1⟩
  | some n =>
    rw [hn] at HLW
    obtain rfl : lw = tB n := HLW.out
    obtain ⟨q, hq⟩ : ∃ q, ns.length = q + 1 := ⟨ns.length - 1, by cases ns with | nil => simp at hn | cons x r => simp⟩
    have hg : (ns.map (Value.int .i64))[q]? = some (.int .i64 n) := by
      rw [List.getLast?_eq_getElem?, hq] at hn
      rw [List.getElem?_map, show q + 1 - 1 = q by omega] at *
      rw [hn]; rfl
    have CM' : ∀ (A' : Option Addr) (c' : Nat) (W : World), Rd W W.heap.size A' (nl.map Value.string) → Calls Tryz.prog 43 #[.int .i64 1, .slice A' nl.length c'] W fun e w' => ∃ ad c', e = .returned (.slice (some ad) (q + 1) c') ∧ w'.cell? (ad.add q) = some (.int .i64 n) ∧ Below W.heap.size W w' := fun A' c' W h => (CM.out A' c' W h).mono fun e w' ⟨A2, c2, h1, h2, h3⟩ => by
      obtain ⟨ad, rfl, _, h4⟩ := h2 q _ hg
      exact ⟨ad, c2, by rw [h1, hq], h4, h3⟩
    have CM := Lib.hid CM'
    have hqi : (0 : Int) ≤ (q : Int) := by omega
    have CO := Lib.hid (fun (W : World) (hb : Below w.heap.size w W) => name_Of 1 n (I64_small (HRG.out n (List.mem_of_getLast? hn))) W (HT.out W hb))
    rw [hq] at hnl
    clear HLW hn CM' hg hq
    go_enter Tryz.func54, Tryz.ntmps54
    go_wp2_with (first
      | (go_at_call 13; (with_reducible refine (CN.out).mono ?_); rintro e w1 ⟨A1, c1, rfl, r1, b1⟩)
      | (go_at_call 43; (with_reducible refine (CM.out _ _ _ r1).mono ?_); rintro e w2 ⟨ad, c2, rfl, z2, b2⟩; have b12 := below_step b2 b1)
      | (go_at_call 45; (with_reducible refine (CO.out _ b12).mono ?_); rintro e w3 ⟨rfl, b3⟩))
    go_ret
    exact ⟨rfl, below_step b3 b12⟩
end Go.Proofs.YtcpmicinibfepaaGreatDoor

namespace Go.Proofs.YtcpmicinibfepaaGreatDoor
open Go.ChangeShapes Go.WideShapes Go.ChangeAt Go.RowKit Go.Deep DiskP NameP


set_option maxRecDepth 100000 in
set_option maxHeartbeats 4000000 in
theorem wal_Sync (a d : Nat) (A : Option Addr) (c : Nat) (size : Int) (L : WL) (hL : OkW L) (w : World) (ht : ∀ W, Below d w W → TabW W) (hda : d < a) (h : Lg a d A c size L w) :
    Calls Tryz.prog 32 #[.pointer (some ⟨a, 0, none⟩)] w (LPost a d size (syncW L).1 (.int .i64 (syncW L).2) w) := by
  have x2 := bx_cells h.box 2
  have x3 := bx_cells h.box 3
  have CM := Lib.hid (wal_made a d A c size L hL.nx.1 w h)
  have hnx := hL.nx
  have hsy := hL.sy
  by_cases he : L.sy = L.nx - 1
  · have hr : syncW L = (L, 0) := by unfold syncW; rw [if_pos he]
    rw [hr]
    have hp : ∀ n, LPost a d size L (.int .i64 0) w (.returned (.int .i64 0)) (w.drewN n) := fun n => ⟨rfl, A, c, h.kept (below_drewN (Below.refl _ w) n), LKeep.of_below (below_drewN (Below.refl _ w) n) (Nat.le_of_lt h.dk.lt)⟩
    have HP := Lib.hid hp
    have hg : (L.sy == L.nx - 1) = true := by simpa using he
    clear hp hr h hL ht
    go_enter Tryz.func32, Tryz.ntmps32
    go_wp2_with (go_at_call 36; (with_reducible refine (CM.out).mono ?_); rintro e w1 ⟨rfl, rfl⟩)
    go_quiet (fail)
    go_wp2_with fail
    go_ret
    exact ⟨rfl, (HP.out _).2⟩
  · have hr : syncW L = (⟨(syncD L.S (lastW L.S.fs)).1, L.nx, if (syncD L.S (lastW L.S.fs)).2 = 0 then L.nx - 1 else L.sy⟩, (syncD L.S (lastW L.S.fs)).2) := by unfold syncW; rw [if_neg he]
    rw [hr]
    have hg : (L.sy == L.nx - 1) = false := by simpa using he
    have CL := Lib.hid (fun (W : World) (hb : Below w.heap.size w W) => wal_last a d A c size L hL W (fun W' hb' => ht W' ((hb.mono (Nat.le_of_lt h.dk.lt)).trans hb')) (h.kept hb))
    have CS := Lib.hid (fun (A : Option Addr) (c : Nat) (W : World) (hd : Dk d A c L.S W) => disk_Sync d A c L.S hL.ok (lastW L.S.fs) W hd)
    have HL := Lib.hid h
    have hlt := h.lt
    have hdl := h.dk.lt
    clear hr h hL ht
    generalize lastW L.S.fs = lw at *
    generalize (syncD L.S lw).1 = S1 at *
    generalize (syncD L.S lw).2 = r1 at *
    by_cases h0 : r1 = 0
    · subst h0
      rw [if_pos rfl]
      (go_enter Tryz.func32, Tryz.ntmps32; (go_wp2_with (go_at_call 36; (with_reducible refine (CM.out).mono ?_); rintro e w1 ⟨rfl, rfl⟩)); go_quiet (fail); (go_wp2_with fail); have hb0 : Below w.heap.size w (w.drewN nq) := below_drewN (Below.refl _ w) nq; have hbx : (w.drewN nq).heap[a]? = some (.cells #[.pointer (some ⟨d, 0, none⟩), .int .i64 size, .int .i64 L.nx, .int .i64 L.sy] 74 (0, 0)) := (HL.out.kept hb0).box; clear x2 x3; refine wp_region_noPanic ?_; refine wp_region_held_drew (S := fun W => W.heap[a]? = some (.cells #[.pointer (some ⟨d, 0, none⟩), .int .i64 size, .int .i64 L.nx, .int .i64 L.sy] 74 (0, 0))) (by kernel_rfl) hbx (fun hA => ?_); have hb1 : Below w.heap.size w (w.drewN nq).drew := hb0.drew; generalize (w.drewN nq).drew = v0 at hA hb1 ⊢; (refine wpAnyH_seg (by kernel_rfl) (fun _ _ _ _ _ h => h) hA 3 5 0 _ _ (by decide) (by kernel_rfl) ?_; simp only [List.drop_zero, List.take_succ_cons, List.take_zero]; ((iterate 5 ((refine' wpTake_cons (by rfl) (fun W hW => ?_) ?_); rotate_left; (have m0 := bx_cells hW 0; go_simp; (try simp only [ne_eq, not_true_eq_false, decide_false, Bool.not_true, bne_self_eq_false, beq_self_eq_true, go_sem]); with_reducible rfl); simp only [Act.put, List.setIfInBounds_toArray, List.set_cons_zero, List.set_cons_succ])); refine wpTake_nil ?_)); (refine wpAnyH_one 5 (by kernel_rfl) rfl (fun K hK => ?_); rw [if_pos (by rfl)]; go_simp); go_at_call 54; ((with_reducible refine (CL.out _ hb1).mono ?_)); rintro e v1 ⟨rfl, g1⟩; (go_wp2_with fail); have hL1 := (HL.out.kept hb1).kept g1; have hA1 := hL1.box; refine hK.out _ _ hA1 (fun _ => ?_); clear hK K; ((try simp only [Act.put, List.setIfInBounds_toArray, List.set_cons_zero, List.set_cons_succ])); (refine wpAnyH_one 6 (by kernel_rfl) rfl (fun K hK => ?_); rw [if_pos (by rfl)]; go_simp); go_at_call 53; ((with_reducible refine (CS.out _ _ _ hL1.dk).mono ?_)); rintro e v2 ⟨rfl, A2, c2, hd2, k2⟩; (go_wp2_with fail); have hL2 := hL1.step k2 hd2 hda; have k02 := (LKeep.of_below hb1 (Nat.le_of_lt hdl)).trans ((LKeep.of_below (a := a) g1 (Nat.le_of_lt (HL.out.kept hb1).dk.lt)).trans (LKeep.of_d k2)); have hA2 := hL2.box; refine hK.out _ _ hA2 (fun _ => ?_); clear hK K; ((try simp only [Act.put, List.setIfInBounds_toArray, List.set_cons_zero, List.set_cons_succ])); (refine wpAnyH_seg (by kernel_rfl) (fun _ _ _ _ _ h => h) hA2 0 1 7 _ _ (by decide) (by kernel_rfl) ?_; simp only [List.drop_succ_cons, List.drop_zero, List.take_succ_cons, List.take_zero]; ((iterate 1 ((refine' wpTake_cons (by rfl) (fun W hW => ?_) ?_); rotate_left; (skip; go_simp; (try simp only [ne_eq, not_true_eq_false, decide_false, Bool.not_true, bne_self_eq_false, beq_self_eq_true, go_sem]); with_reducible rfl); simp only [Act.put, List.setIfInBounds_toArray, List.set_cons_zero, List.set_cons_succ])); refine wpTake_nil ?_)); refine wpAnyH_done (by kernel_rfl) ?_ _; refine NoPanic.normal ?_; have y2 := bx_cells hA2 2; have y3c := bx_cells hA2 3; have y3 := bx_free hA2 3; (go_wp2_with fail); go_ret; exact ⟨rfl, A2, c2, hL2.set_sy hda _, k02.trans (LKeep.set hda _)⟩)
    · rw [if_neg h0]
      have h1 : (r1 == 0) = false := by simpa using h0
      (go_enter Tryz.func32, Tryz.ntmps32; (go_wp2_with (go_at_call 36; (with_reducible refine (CM.out).mono ?_); rintro e w1 ⟨rfl, rfl⟩)); go_quiet (fail); (go_wp2_with fail); have hb0 : Below w.heap.size w (w.drewN nq) := below_drewN (Below.refl _ w) nq; have hbx : (w.drewN nq).heap[a]? = some (.cells #[.pointer (some ⟨d, 0, none⟩), .int .i64 size, .int .i64 L.nx, .int .i64 L.sy] 74 (0, 0)) := (HL.out.kept hb0).box; clear x2 x3; refine wp_region_noPanic ?_; refine wp_region_held_drew (S := fun W => W.heap[a]? = some (.cells #[.pointer (some ⟨d, 0, none⟩), .int .i64 size, .int .i64 L.nx, .int .i64 L.sy] 74 (0, 0))) (by kernel_rfl) hbx (fun hA => ?_); have hb1 : Below w.heap.size w (w.drewN nq).drew := hb0.drew; generalize (w.drewN nq).drew = v0 at hA hb1 ⊢; (refine wpAnyH_seg (by kernel_rfl) (fun _ _ _ _ _ h => h) hA 3 5 0 _ _ (by decide) (by kernel_rfl) ?_; simp only [List.drop_zero, List.take_succ_cons, List.take_zero]; ((iterate 5 ((refine' wpTake_cons (by rfl) (fun W hW => ?_) ?_); rotate_left; (have m0 := bx_cells hW 0; go_simp; (try simp only [ne_eq, not_true_eq_false, decide_false, Bool.not_true, bne_self_eq_false, beq_self_eq_true, go_sem]); with_reducible rfl); simp only [Act.put, List.setIfInBounds_toArray, List.set_cons_zero, List.set_cons_succ])); refine wpTake_nil ?_)); (refine wpAnyH_one 5 (by kernel_rfl) rfl (fun K hK => ?_); rw [if_pos (by rfl)]; go_simp); go_at_call 54; ((with_reducible refine (CL.out _ hb1).mono ?_)); rintro e v1 ⟨rfl, g1⟩; (go_wp2_with fail); have hL1 := (HL.out.kept hb1).kept g1; have hA1 := hL1.box; refine hK.out _ _ hA1 (fun _ => ?_); clear hK K; ((try simp only [Act.put, List.setIfInBounds_toArray, List.set_cons_zero, List.set_cons_succ])); (refine wpAnyH_one 6 (by kernel_rfl) rfl (fun K hK => ?_); rw [if_pos (by rfl)]; go_simp); go_at_call 53; ((with_reducible refine (CS.out _ _ _ hL1.dk).mono ?_)); rintro e v2 ⟨rfl, A2, c2, hd2, k2⟩; (go_wp2_with fail); have hL2 := hL1.step k2 hd2 hda; have k02 := (LKeep.of_below hb1 (Nat.le_of_lt hdl)).trans ((LKeep.of_below (a := a) g1 (Nat.le_of_lt (HL.out.kept hb1).dk.lt)).trans (LKeep.of_d k2)); have hA2 := hL2.box; refine hK.out _ _ hA2 (fun _ => ?_); clear hK K; ((try simp only [Act.put, List.setIfInBounds_toArray, List.set_cons_zero, List.set_cons_succ])); (refine wpAnyH_seg (by kernel_rfl) (fun _ _ _ _ _ h => h) hA2 0 1 7 _ _ (by decide) (by kernel_rfl) ?_; simp only [List.drop_succ_cons, List.drop_zero, List.take_succ_cons, List.take_zero]; ((iterate 1 ((refine' wpTake_cons (by rfl) (fun W hW => ?_) ?_); rotate_left; (skip; go_simp; (try simp only [ne_eq, not_true_eq_false, decide_false, Bool.not_true, bne_self_eq_false, beq_self_eq_true, go_sem]); with_reducible rfl); simp only [Act.put, List.setIfInBounds_toArray, List.set_cons_zero, List.set_cons_succ])); refine wpTake_nil ?_)); refine wpAnyH_done (by kernel_rfl) ?_ _; refine NoPanic.normal ?_; have y2 := bx_cells hA2 2; have y3c := bx_cells hA2 3; have y3 := bx_free hA2 3; (go_wp2_with fail); go_ret; exact ⟨rfl, A2, c2, hL2, k02⟩)

/-- what place leaves -/
def PlPost (a d : Nat) (size : Int) (r : WL × ByteArray × Int) (w : World) (e : Ending) (w' : World) : Prop := e = .returned (.tuple #[.string r.2.1, .int .i64 r.2.2]) ∧ ∃ A c, Lg a d A c size r.1 w' ∧ LKeep d a w w'
theorem readD_size {S : DS} (h : OkD S) (nm : ByteArray) : (readD S nm).1.size ≤ 100000000 := by
  have hu := h.size
  unfold readD
  split
  · exact Nat.zero_le _
  · split
    · rename_i f hf
      split
      · have := used_mem hf; simp only; omega
      · exact Nat.zero_le _
    · exact Nat.zero_le _
theorem emp_eq (b : ByteArray) : b.toList.isEmpty = decide (b = ⟨#[]⟩) := by
  rw [Lib.toList_data, Bool.eq_iff_iff]
  obtain ⟨⟨l⟩⟩ := b
  simp
theorem tB_ne {n : Int} (h : 1 ≤ n ∧ n ≤ 999999999999999999) : tB n ≠ ⟨#[]⟩ := fun e => by have := tB_pos h; rw [e] at this; exact absurd this (by decide)

set_option maxRecDepth 100000 in
set_option maxHeartbeats 4000000 in
theorem wal_place (a d : Nat) (A : Option Addr) (c : Nat) (size : Int) (hsz : I64 size) (L : WL) (hL : OkW L) (n : Int) (hn : 0 ≤ n ∧ n ≤ 1000000) (w : World) (ht : ∀ W, Below d w W → TabW W) (hda : d < a) (h : Lg a d A c size L w) :
    Calls Tryz.prog 38 #[.pointer (some ⟨a, 0, none⟩), .int .i64 n] w (PlPost a d size (placeW size L n) w) := by
  have hnx := hL.nx
  have hsy := hL.sy
  have hdl := h.dk.lt
  have hrs := readD_size hL.ok (lastW L.S.fs)
  have CL := Lib.hid (wal_last a d A c size L hL w ht h)
  have CR := Lib.hid (fun (W : World) (hd : Dk d A c L.S W) => disk_Read d A c L.S (lastW L.S.fs) hL.ok.sorted (by have := hL.ok.many; omega) W hd)
  have CS := Lib.hid (fun (W : World) (hd : Dk d A c L.S W) => disk_Sync d A c L.S hL.ok (lastW L.S.fs) W hd)
  have CO := Lib.hid (fun (W : World) (hb : Below d w W) => name_Of 1 L.nx (I64_small (by omega)) W (ht W hb))
  have HL := Lib.hid h
  have x2 := bx_cells h.box 2
  unfold placeW
  clear h hL ht
  generalize lastW L.S.fs = lw at *
  by_cases h0 : lw = ⟨#[]⟩
  · subst h0
    rw [if_pos rfl]
    go_enter Tryz.func38, Tryz.ntmps38
    go_wp2_with (first
      | (go_at_call 54; (with_reducible refine (CL.out).mono ?_); rintro e w1 ⟨rfl, b1⟩; have hL1 := HL.out.kept b1; have y0 := bx_cells hL1.box 0)
      | (go_at_call 14; (with_reducible refine (CR.out _ hL1.dk).mono ?_); rintro e w2 ⟨rfl, b2⟩; have hL2 := hL1.kept b2; have y2 := bx_cells hL2.box 2; have b12 := below_step b2 b1)
      | (go_at_call 45; (with_reducible refine (CO.out _ (b12.mono (Nat.le_of_lt hdl))).mono ?_); rintro e w3 ⟨rfl, b3⟩; have hL3 := hL2.kept b3; have b13 := below_step b3 b12))
    go_ret2
    exact ⟨rfl, A, c, hL3, LKeep.of_below b13 (Nat.le_of_lt hdl)⟩
  · rw [if_neg h0]
    have g0 : lw.toList.isEmpty = false := by rw [emp_eq]; simpa using h0
    by_cases h1 : (readD L.S lw).2 ≠ 0
    · rw [if_pos h1]
      generalize (readD L.S lw).1 = rd at *
      generalize (readD L.S lw).2 = re at *
      have h2 : (re == 0) = false := by simpa using h1
      go_enter Tryz.func38, Tryz.ntmps38
      go_wp2_with (first
        | (go_at_call 54; (with_reducible refine (CL.out).mono ?_); rintro e w1 ⟨rfl, b1⟩; have hL1 := HL.out.kept b1; have y0 := bx_cells hL1.box 0)
        | (go_at_call 14; (with_reducible refine (CR.out _ hL1.dk).mono ?_); rintro e w2 ⟨rfl, b2⟩; have hL2 := hL1.kept b2; have y2 := bx_cells hL2.box 2; have b12 := below_step b2 b1))
      go_ret2
      exact ⟨rfl, A, c, hL2, LKeep.of_below b12 (Nat.le_of_lt hdl)⟩
    · rw [if_neg h1]
      have h1' : (readD L.S lw).2 = 0 := by omega
      rw [h1'] at CR
      generalize (readD L.S lw).1 = rd at *
      clear h1 h1'
      unfold I64 at hsz
      by_cases h4 : rd = ⟨#[]⟩
      · rw [if_pos (.inl h4)]
        have g1 : rd.toList.isEmpty = true := by rw [emp_eq]; simpa using h4
        clear h4
        go_enter Tryz.func38, Tryz.ntmps38
        go_wp2_with (first
          | (go_at_call 54; (with_reducible refine (CL.out).mono ?_); rintro e w1 ⟨rfl, b1⟩; have hL1 := HL.out.kept b1; have y0 := bx_cells hL1.box 0)
          | (go_at_call 14; (with_reducible refine (CR.out _ hL1.dk).mono ?_); rintro e w2 ⟨rfl, b2⟩; have hL2 := hL1.kept b2; have y20 := bx_cells hL2.box 0; have y21 := bx_cells hL2.box 1; have y2 := bx_cells hL2.box 2; have b12 := below_step b2 b1))
        go_ret2
        exact ⟨rfl, A, c, hL2, LKeep.of_below b12 (Nat.le_of_lt hdl)⟩
      · have g1 : rd.toList.isEmpty = false := by rw [emp_eq]; simpa using h4
        by_cases h3 : (rd.size : Int) + n ≤ size
        · rw [if_pos (.inr h3)]
          clear h4
          go_enter Tryz.func38, Tryz.ntmps38
          go_wp2_with (first
          | (go_at_call 54; (with_reducible refine (CL.out).mono ?_); rintro e w1 ⟨rfl, b1⟩; have hL1 := HL.out.kept b1; have y0 := bx_cells hL1.box 0)
          | (go_at_call 14; (with_reducible refine (CR.out _ hL1.dk).mono ?_); rintro e w2 ⟨rfl, b2⟩; have hL2 := hL1.kept b2; have y20 := bx_cells hL2.box 0; have y21 := bx_cells hL2.box 1; have y2 := bx_cells hL2.box 2; have b12 := below_step b2 b1))
          go_ret2
          exact ⟨rfl, A, c, hL2, LKeep.of_below b12 (Nat.le_of_lt hdl)⟩
        · rw [if_neg (fun h => h.elim h4 h3)]
          clear h4
          by_cases h5 : (syncD L.S lw).2 ≠ 0
          · rw [if_pos h5]
            generalize (syncD L.S lw).2 = r1 at *
            generalize (syncD L.S lw).1 = S1 at *
            have g5 : (r1 == 0) = false := by simpa using h5
            go_enter Tryz.func38, Tryz.ntmps38
            go_wp2_with (first
          | (go_at_call 54; (with_reducible refine (CL.out).mono ?_); rintro e w1 ⟨rfl, b1⟩; have hL1 := HL.out.kept b1; have y0 := bx_cells hL1.box 0)
          | (go_at_call 14; (with_reducible refine (CR.out _ hL1.dk).mono ?_); rintro e w2 ⟨rfl, b2⟩; have hL2 := hL1.kept b2; have y20 := bx_cells hL2.box 0; have y21 := bx_cells hL2.box 1; have y2 := bx_cells hL2.box 2; have b12 := below_step b2 b1)
              | (go_at_call 53; (with_reducible refine (CS.out _ hL2.dk).mono ?_); rintro e w3 ⟨rfl, A3, c3, hd3, k3⟩; have hL3 := hL2.step k3 hd3 hda; have k13 := (LKeep.of_below (a := a) b12 (Nat.le_of_lt hdl)).trans (LKeep.of_d k3); have z2 := bx_cells hL3.box 2; have z3 := bx_cells hL3.box 3; have f3 := bx_free hL3.box 3))
            go_ret2
            exact ⟨rfl, A3, c3, hL3, k13⟩
          · rw [if_neg h5]
            have h5' : (syncD L.S lw).2 = 0 := by omega
            rw [h5'] at CS
            generalize (syncD L.S lw).1 = S1 at *
            clear h5 h5'
            go_enter Tryz.func38, Tryz.ntmps38
            go_wp2_with (first
          | (go_at_call 54; (with_reducible refine (CL.out).mono ?_); rintro e w1 ⟨rfl, b1⟩; have hL1 := HL.out.kept b1; have y0 := bx_cells hL1.box 0)
          | (go_at_call 14; (with_reducible refine (CR.out _ hL1.dk).mono ?_); rintro e w2 ⟨rfl, b2⟩; have hL2 := hL1.kept b2; have y20 := bx_cells hL2.box 0; have y21 := bx_cells hL2.box 1; have y2 := bx_cells hL2.box 2; have b12 := below_step b2 b1)
              | (go_at_call 53; (with_reducible refine (CS.out _ hL2.dk).mono ?_); rintro e w3 ⟨rfl, A3, c3, hd3, k3⟩; have hL3 := hL2.step k3 hd3 hda; have k13 := (LKeep.of_below (a := a) b12 (Nat.le_of_lt hdl)).trans (LKeep.of_d k3); have z2 := bx_cells hL3.box 2; have z3 := bx_cells hL3.box 3; have f3 := bx_free hL3.box 3; have hL4 := hL3.set_sy hda (L.nx - 1); have k14 := k13.trans (LKeep.set hda (j := 3) (.int .i64 (L.nx - 1))); have q2 := bx_cells hL4.box 2)
              | (go_at_call 45; (with_reducible refine (CO.out _ k14.below).mono ?_); rintro e w4 ⟨rfl, b4⟩; have hL5 := hL4.kept b4; have k15 := k14.trans (LKeep.of_below b4 (Nat.le_of_lt hL4.dk.lt))))
            go_ret2
            exact ⟨rfl, A3, c3, hL5, k15⟩
end Go.Proofs.YtcpmicinibfepaaGreatDoor

namespace Go.Proofs.YtcpmicinibfepaaGreatDoor
open Go.ChangeShapes Go.WideShapes Go.ChangeAt Go.RowKit Go.Deep DiskP NameP


theorem lastW_size (F : List Fl) : (lastW F).size ≤ 22 := by
  unfold lastW
  split
  · exact Nat.zero_le _
  · exact tB_size _
theorem placeW_facts (size : Int) (L : WL) (n : Int) : (placeW size L n).1.nx = L.nx ∧ (placeW size L n).2.1.size ≤ 22 ∧ ((placeW size L n).1.sy = L.sy ∨ (placeW size L n).1.sy = L.nx - 1) := by
  unfold placeW
  have h1 := lastW_size L.S.fs
  have h2 := tB_size L.nx
  split
  · exact ⟨rfl, h2, .inl rfl⟩
  · split
    · exact ⟨rfl, Nat.zero_le _, .inl rfl⟩
    · split
      · exact ⟨rfl, h1, .inl rfl⟩
      · split
        · exact ⟨rfl, Nat.zero_le _, .inl rfl⟩
        · exact ⟨rfl, h2, .inr rfl⟩

set_option maxRecDepth 100000 in
set_option maxHeartbeats 4000000 in
theorem wal_Append (a d : Nat) (A : Option Addr) (c : Nat) (size : Int) (hsz : I64 size) (L : WL) (hL : OkW L) (R : Int) (i j : Nat) (hI : DInv R i j L.S) (hij : i ≤ 900 ∧ j ≤ 900) (s : ByteArray) (hs : s.size ≤ 100) (w : World) (ht : ∀ W, Below d w W → TabW W) (hda : d < a) (h : Lg a d A c size L w) :
    Calls Tryz.prog 11 #[.pointer (some ⟨a, 0, none⟩), .string s] w (LPost a d size (appendW size L s).1 (.tuple #[.int .i64 (appendW size L s).2.1, .int .i64 (appendW size L s).2.2]) w) := by
  have hnx := hL.nx
  have hdl := h.dk.lt
  have hfs := fB_size L.nx.toNat s
  have CM := Lib.hid (wal_made a d A c size L hL.nx.1 w h)
  have CP' : ∀ W : World, Calls Tryz.prog 37 #[.int .i64 L.nx, .string s] W fun e w' => e = .returned (.tuple #[.string (fB L.nx.toNat s), .int .i64 0]) ∧ Below W.heap.size W w' := fun W => by
    have := frame_Put L.nx s (by unfold I64; omega) (by unfold maxLen; omega) W
    have e : FrameP.put L.nx s.data.toList = (FrameP.enc L.nx.toNat s.data.toList, 0) := by
      have hz : s.data.toList.length = s.size := rfl
      unfold FrameP.put
      rw [if_neg (by omega), if_neg (by omega)]
    rw [e] at this
    exact this
  have CP := Lib.hid CP'
  have CL := Lib.hid (fun (W : World) (hb : Below w.heap.size w W) (hl : Lg a d A c size L W) => wal_place a d A c size hsz L hL (fB L.nx.toNat s).size (by omega) W (fun W' hb' => ht W' ((hb.mono (Nat.le_of_lt hdl)).trans hb')) hda hl)
  have hPI := placeW_inv hI size (fB L.nx.toNat s).size
  obtain ⟨p1, p2, p3⟩ := placeW_facts size L (fB L.nx.toNat s).size
  have HL := Lib.hid h
  have x2 := bx_cells h.box 2
  unfold appendW
  clear h hL ht CP'
  generalize placeW size L (fB L.nx.toNat s).size = P at *
  obtain ⟨⟨PS, pnx, psy⟩, nm, pe⟩ := P
  simp only at p1 p2 p3 hPI
  subst p1
  generalize fB L.nx.toNat s = b at *
  have CA := Lib.hid (fun (A : Option Addr) (c : Nat) (W : World) (hd : Dk d A c PS W) => disk_Append d A c PS (hPI.ok (by omega) (by omega)) nm b (by omega) (by omega) W hd)
  clear hfs
  unfold putW
  simp only
  by_cases h0 : pe ≠ 0
  · rw [if_pos h0]
    have g0 : (pe == 0) = false := by simpa using h0
    go_enter Tryz.func11, Tryz.ntmps11
    go_wp2_with (first
      | (go_at_call 36; (with_reducible refine (CM.out).mono ?_); rintro e w1 ⟨rfl, rfl⟩)
      | (go_at_call 37; (with_reducible refine (CP.out _).mono ?_); rintro e w2 ⟨rfl, b2⟩; have hL2 := HL.out.kept b2)
      | (go_at_call 38; (with_reducible refine (CL.out _ b2 hL2).mono ?_); rintro e w3 ⟨rfl, A3, c3, hL3, k3⟩))
    go_ret2
    exact ⟨rfl, A3, c3, hL3, (LKeep.of_below b2 (Nat.le_of_lt hdl)).trans k3⟩
  · rw [if_neg h0]
    obtain rfl : pe = 0 := by omega
    clear h0
    by_cases h1 : (appendD PS nm b).2 ≠ 0
    · rw [if_pos h1]
      generalize (appendD PS nm b).2 = r1 at *
      generalize (appendD PS nm b).1 = S1 at *
      have g1 : (r1 == 0) = false := by simpa using h1
      go_enter Tryz.func11, Tryz.ntmps11
      go_wp2_with (first
        | (go_at_call 36; (with_reducible refine (CM.out).mono ?_); rintro e w1 ⟨rfl, rfl⟩)
        | (go_at_call 37; (with_reducible refine (CP.out _).mono ?_); rintro e w2 ⟨rfl, b2⟩; have hL2 := HL.out.kept b2)
        | (go_at_call 38; (with_reducible refine (CL.out _ b2 hL2).mono ?_); rintro e w3 ⟨rfl, A3, c3, hL3, k3⟩; have y0 := bx_cells hL3.box 0)
        | (go_at_call 39; (with_reducible refine (CA.out _ _ _ hL3.dk).mono ?_); rintro e w4 ⟨rfl, A4, c4, hd4, k4⟩; have hL4 := hL3.step k4 hd4 hda))
      go_ret2
      exact ⟨rfl, A4, c4, hL4, ((LKeep.of_below b2 (Nat.le_of_lt hdl)).trans k3).trans (LKeep.of_d k4)⟩
    · rw [if_neg h1]
      have h1' : (appendD PS nm b).2 = 0 := by omega
      rw [h1'] at CA
      generalize (appendD PS nm b).1 = S1 at *
      clear h1 h1'
      go_enter Tryz.func11, Tryz.ntmps11
      go_wp2_with (first
        | (go_at_call 36; (with_reducible refine (CM.out).mono ?_); rintro e w1 ⟨rfl, rfl⟩)
        | (go_at_call 37; (with_reducible refine (CP.out _).mono ?_); rintro e w2 ⟨rfl, b2⟩; have hL2 := HL.out.kept b2)
        | (go_at_call 38; (with_reducible refine (CL.out _ b2 hL2).mono ?_); rintro e w3 ⟨rfl, A3, c3, hL3, k3⟩; have y0 := bx_cells hL3.box 0)
        | (go_at_call 39; (with_reducible refine (CA.out _ _ _ hL3.dk).mono ?_); rintro e w4 ⟨rfl, A4, c4, hd4, k4⟩; have hL4 := hL3.step k4 hd4 hda; have z2 := bx_cells hL4.box 2; have f2 := bx_free hL4.box 2; have hL5 := hL4.set_nx hda (L.nx + 1); have z5 := bx_cells hL5.box 2))
      go_ret2
      exact ⟨rfl, A4, c4, hL5, (((LKeep.of_below b2 (Nat.le_of_lt hdl)).trans k3).trans (LKeep.of_d k4)).trans (LKeep.set hda _)⟩

theorem sat_Clamp1 (n : Int) (w : World) : Calls Tryz.prog 35 #[.int .i64 n, .int .i64 1, .int .i64 100000000000000000] w fun e w' => e = .returned (.int .i64 (max 1 (min n 100000000000000000))) ∧ w = w' := by
  go_enter Tryz.func35, Tryz.ntmps35
  go_wp2_with fail
  go_ret
  exact ⟨rfl, rfl⟩

set_option maxRecDepth 100000 in
theorem wal_New (d : Nat) (size next : Int) (w : World) : Calls Tryz.prog 10 #[.pointer (some ⟨d, 0, none⟩), .int .i64 size, .int .i64 next] w fun e w' => e = .returned (.pointer (some ⟨w.heap.size, 0, none⟩)) ∧
    w'.heap[w.heap.size]? = some (.cells #[.pointer (some ⟨d, 0, none⟩), .int .i64 size, .int .i64 (max 1 (min next 100000000000000000)), .int .i64 (max 1 (min next 100000000000000000) - 1)] 74 (0, 0)) ∧ Below w.heap.size w w' := by
  have CC := Lib.hid (sat_Clamp1 next w)
  have h1 : 1 ≤ max 1 (min next 100000000000000000) ∧ max 1 (min next 100000000000000000) ≤ 100000000000000000 := by omega
  generalize max 1 (min next 100000000000000000) = m at *
  go_enter Tryz.func10, Tryz.ntmps10
  go_wp2_with (go_at_call 35; (with_reducible refine (CC.out).mono ?_); rintro e w1 ⟨rfl, rfl⟩)
  go_ret
  exact ⟨rfl, heap_alloc_new _ _, (Below.refl _ _).alloc (Nat.le_refl _) _⟩
end Go.Proofs.YtcpmicinibfepaaGreatDoor
