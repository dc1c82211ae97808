/- Layer 32: what an act does to a log whose disk may crash, and to what was sent (for WalCrash), plain. -/
import Derived.Test.YtcpmicinibfepaaGreatDoorWBg
import Derived.Test.YtcpmicinibfepaaGreatDoorWBi
import Derived.Test.YtcpmicinibfepaaGreatDoorWAj
namespace Go.Proofs.YtcpmicinibfepaaGreatDoor
open Go.ChangeShapes Go.WideShapes Go.ChangeAt Go.RowKit Go.Deep DiskP NameP


/-- an act that does not trim -/
def doW (size : Int) (L : WL) (a : Wa) : WL × Int × Int :=
  if a.kind = 1 then appendW size L a.s else if a.kind = 2 then ((syncW L).1, 0, (syncW L).2) else (⟨{ L.S with fuse := max a.n (-1) }, L.nx, L.sy⟩, 0, 0)
/-- a log whose disk may be down, and what was sent to it -/
structure CrI (R : Int) (k : Nat) (L : WL) (T : List ByteArray) (p : Nat) (sent : List ByteArray) : Prop where
  inv : DInv R (2 * k) (2 * k) L.S
  core : CoreW L.S T p
  sy : L.sy = p
  nx : 1 ≤ L.nx ∧ L.nx ≤ k + 1
  pre : ∃ r, sent = T ++ r
  len : sent.length ≤ k
  txt : ∀ d ∈ sent, d.size ≤ 100
  on : L.S.on = true → sent = T ∧ L.nx = T.length + 1
theorem CrI.tlen {R : Int} {k : Nat} {L : WL} {T : List ByteArray} {p : Nat} {sent : List ByteArray} (h : CrI R k L T p sent) : T.length ≤ k := by
  obtain ⟨r, hr⟩ := h.pre
  have := h.len
  rw [hr, List.length_append] at this
  omega
theorem okW_of' {R : Int} {i j : Nat} {L : WL} {T : List ByteArray} {p : Nat} (hI : DInv R i j L.S) (hij : i ≤ 900 ∧ j ≤ 900) (hc : CoreW L.S T p) (hT : T.length ≤ 1000) (hsy : L.sy = p) (hnx : 1 ≤ L.nx ∧ L.nx ≤ 1000000) : OkW L := by
  obtain ⟨G, hG⟩ := mid_law hI.sorted hc hT
  have hp : p ≤ T.length := by
    obtain ⟨X, _, hseg⟩ := hc
    rcases hseg with ⟨_, _, rfl⟩ | ⟨G0, g, su, _, _, _, _, h5, _⟩
    · exact Nat.zero_le _
    · exact h5
  exact ⟨hI.ok (by omega) (by omega), hG.names, hnx, by omega⟩
theorem CrI.ok {R : Int} {k : Nat} {L : WL} {T : List ByteArray} {p : Nat} {sent : List ByteArray} (h : CrI R k L T p sent) (hk : k ≤ 400) : OkW L :=
  okW_of' h.inv (by omega) h.core (by have := h.tlen; omega) h.sy (by have := h.nx; omega)
/-- an act of another kind, on a disk that goes on -/
theorem CrI.sync {R : Int} {k : Nat} {L : WL} {T : List ByteArray} {p : Nat} {sent : List ByteArray} (h : CrI R k L T p sent) (hk : k ≤ 400) : ∃ p', CrI R (k + 1) (syncW L).1 T p' sent ∧ (syncW L).1.nx = L.nx := by
  have hI := (syncW_inv h.inv).more (i' := 2 * (k + 1)) (j' := 2 * (k + 1)) (by omega) (by omega)
  have htl := h.tlen
  have hnx := h.nx
  by_cases hon : L.S.on = true
  · obtain ⟨hs, hn⟩ := h.on hon
    rcases sync_law h.inv.sorted h.core h.sy hon hn (by omega) with ⟨_, a2, a3, _, p', a5, a6⟩ | ⟨_, a2, a3, _, a5, a6⟩
    · exact ⟨p', ⟨hI, a5, a6, by omega, h.pre, by have := h.len; omega, h.txt, fun _ => ⟨hs, by rw [a3, hn]⟩⟩, a3⟩
    · exact ⟨p, ⟨hI, a5, a6, by omega, h.pre, by have := h.len; omega, h.txt, fun h' => by rw [a2] at h'; cases h'⟩, a3⟩
  · have hoff : L.S.on = false := by simpa using hon
    have e : (syncW L).1 = L := by rcases sync_dead hoff with e | e <;> rw [e]
    rw [e] at hI ⊢
    exact ⟨p, ⟨hI, h.core, h.sy, by omega, h.pre, by have := h.len; omega, h.txt, fun h' => absurd h' hon⟩, rfl⟩
theorem CrI.fuse {R : Int} {k : Nat} {L : WL} {T : List ByteArray} {p : Nat} {sent : List ByteArray} (h : CrI R k L T p sent) (n : Int) (hn : I64 n) : CrI R (k + 1) ⟨{ L.S with fuse := max n (-1) }, L.nx, L.sy⟩ T p sent := by
  obtain ⟨X, hX, hseg⟩ := h.core
  have hI : DInv R (2 * (k + 1)) (2 * (k + 1)) L.S := h.inv.more (by omega) (by omega)
  have hnx := h.nx
  have hlen := h.len
  unfold I64 at hn
  exact ⟨{ hI with fuse := by simp only; omega }, ⟨{ X with fuse := max n (-1) }, ⟨hX.room, hX.made, hX.on, rfl, hX.ops, hX.perm⟩, hseg⟩, h.sy, by simp only; omega, h.pre, by omega, h.txt, h.on⟩
/-- data that is pushed, for the log told as many as it holds: what comes back, and what of it is kept -/
theorem CrI.push {R : Int} {k : Nat} {L : WL} {T : List ByteArray} {p : Nat} {sent : List ByteArray} (h : CrI R k L T p sent) (hk : k ≤ 400) (size : Int) (d : ByteArray) (hd : d.size ≤ 100) (hl : (sent.length : Int) = L.nx - 1) :
    ((appendW size L d).2.2 = 0 ∨ (appendW size L d).2.2 = 9) ∧ (∃ T' p', CrI R (k + 1) (appendW size L d).1 T' p' (sent ++ [d])) ∨
    (appendW size L d).2.2 = 5 ∧ (appendW size L d).1.nx = (sent.length : Int) + 1 ∧ ∃ p', CrI R (k + 1) (appendW size L d).1 T p' sent := by
  have hI := (appendW_inv h.inv size d hd).more (i' := 2 * (k + 1)) (j' := 2 * (k + 1)) (by omega) (by omega)
  have htl := h.tlen
  have hnx := h.nx
  have hlen := h.len
  have htx : ∀ x ∈ sent ++ [d], x.size ≤ 100 := fun x hx => by
    rcases List.mem_append.1 hx with hx | hx
    · exact h.txt x hx
    · rw [List.mem_singleton.1 hx]; exact hd
  have hln : (sent ++ [d]).length ≤ k + 1 := by rw [List.length_append]; simp; omega
  by_cases hon : L.S.on = true
  · obtain ⟨hs, hn⟩ := h.on hon
    subst hs
    rcases append_law h.inv h.core h.sy hon hn (by omega) size d with ⟨a1, a2, a3, _, p', a5, a6⟩ | ⟨a1, a2, a3, _, p', a5, a6⟩ | ⟨a1, a2, a3, _, p', a5, a6⟩
    · exact .inl ⟨.inl (by rw [a1]), _, p', hI, a5, a6, by omega, ⟨[], by simp⟩, hln, htx, fun _ => ⟨rfl, by rw [a2, hn, List.length_append]; simp⟩⟩
    · exact .inr ⟨by rw [a1], by omega, p', hI, a5, a6, by omega, ⟨[], by simp⟩, by omega, h.txt, fun _ => ⟨rfl, by omega⟩⟩
    · rcases a5 with a5 | a5
      · exact .inl ⟨.inr (by rw [a1]), _, p', hI, a5, a6, by omega, ⟨[d], rfl⟩, hln, htx, fun h' => by rw [a3] at h'; cases h'⟩
      · exact .inl ⟨.inr (by rw [a1]), _, p', hI, a5, a6, by omega, ⟨[], by simp⟩, hln, htx, fun h' => by rw [a3] at h'; cases h'⟩
  · have hoff : L.S.on = false := by simpa using hon
    rw [append_dead hoff size d]
    obtain ⟨r, hr⟩ := h.pre
    have hI2 : DInv R (2 * (k + 1)) (2 * (k + 1)) L.S := h.inv.more (by omega) (by omega)
    exact .inl ⟨.inr rfl, T, p, hI2, h.core, h.sy, by simp only; omega, ⟨r ++ [d], by rw [hr]; simp⟩, hln, htx, fun h' => absurd h' hon⟩
/-- data that is not: the disk is down -/
theorem CrI.late {R : Int} {k : Nat} {L : WL} {T : List ByteArray} {p : Nat} {sent : List ByteArray} (h : CrI R k L T p sent) (size : Int) (d : ByteArray) (hl : (sent.length : Int) ≠ L.nx - 1) :
    appendW size L d = (L, 0, 9) ∧ CrI R (k + 1) L T p sent := by
  have hoff : L.S.on = false := by
    rcases hb : L.S.on with _ | _
    · rfl
    · obtain ⟨e1, e2⟩ := h.on hb
      rw [e1, e2] at hl
      exact absurd (by simp) hl
  have hnx := h.nx
  exact ⟨append_dead hoff size d, h.inv.more (by omega) (by omega), h.core, h.sy, by omega, h.pre, by have := h.len; omega, h.txt, fun h' => by rw [hoff] at h'; cases h'⟩

set_option maxRecDepth 100000 in
set_option maxHeartbeats 4000000 in
theorem law32_do (a d : Nat) (A : Option Addr) (c : Nat) (size : Int) (hsz : I64 size) (L : WL) (hL : OkW L) (R : Int) (i j : Nat) (hI : DInv R i j L.S) (hij : i ≤ 900 ∧ j ≤ 900) (f : Wa) (h3 : f.kind ≠ 3) (hs : f.s.size ≤ 100) (w : World) (ht : ∀ W, Below d w W → TabW W) (hda : d < a) (h : Lg a d A c size L w) :
    Calls Tryz.prog 19 #[.pointer (some ⟨a, 0, none⟩), .pointer (some ⟨d, 0, none⟩), .agg #[.int .i64 f.kind, .string f.s, .int .i64 f.n]] w (LPost a d size (doW size L f).1 (.tuple #[.int .i64 (doW size L f).2.1, .int .i64 (doW size L f).2.2]) w) := by
  have hdl := h.dk.lt
  have HL := Lib.hid h
  have HT := Lib.hid ht
  have e3 : (f.kind == 3) = false := by simpa using h3
  clear h ht
  unfold doW
  by_cases h1 : f.kind = 1
  · rw [if_pos h1]
    have e1 : (f.kind == 1) = true := by simpa using h1
    have CA := Lib.hid (fun (W : World) (hb : Below w.heap.size w W) (hl : Lg a d A c size L W) => wal_Append a d A c size hsz L hL R i j hI hij f.s hs W (fun W' hb' => HT.out W' ((hb.mono (Nat.le_of_lt hdl)).trans hb')) hda hl)
    generalize appendW size L f.s = r at *
    obtain ⟨L2, p, q⟩ := r
    simp only at *
    clear h1 h3 e3 hI hL
    go_enter Tryz.func19, Tryz.ntmps19
    go_wp2_with (go_at_call 11; (with_reducible refine (CA.out _ (by (repeat (first | assumption | exact Below.refl _ _ | refine below_step (by assumption) ?_ | refine below_alloc' _ ?_ | refine below_drewN ?_ _ | refine Below.drew ?_))) (HL.out.kept (by (repeat (first | assumption | exact Below.refl _ _ | refine below_step (by assumption) ?_ | refine below_alloc' _ ?_ | refine below_drewN ?_ _ | refine Below.drew ?_))))).mono ?_); rintro e w3 ⟨rfl, A3, c3, l3, k3⟩)
    go_ret2
    refine ⟨rfl, A3, c3, l3, (LKeep.of_below (by (repeat (first | assumption | exact Below.refl _ _ | refine below_step (by assumption) ?_ | refine below_alloc' _ ?_ | refine below_drewN ?_ _ | refine Below.drew ?_))) (by omega)).trans k3⟩
  · rw [if_neg h1]
    have e1 : (f.kind == 1) = false := by simpa using h1
    by_cases h2 : f.kind = 2
    · rw [if_pos h2]
      have e2 : (f.kind == 2) = true := by simpa using h2
      have CA := Lib.hid (fun (W : World) (hb : Below w.heap.size w W) (hl : Lg a d A c size L W) => wal_Sync a d A c size L hL W (fun W' hb' => HT.out W' ((hb.mono (Nat.le_of_lt hdl)).trans hb')) hda hl)
      generalize syncW L = r at *
      obtain ⟨L2, q⟩ := r
      simp only at *
      clear h1 h2 h3 e3 hI hL
      go_enter Tryz.func19, Tryz.ntmps19
      go_wp2_with (go_at_call 32; (with_reducible refine (CA.out _ (by (repeat (first | assumption | exact Below.refl _ _ | refine below_step (by assumption) ?_ | refine below_alloc' _ ?_ | refine below_drewN ?_ _ | refine Below.drew ?_))) (HL.out.kept (by (repeat (first | assumption | exact Below.refl _ _ | refine below_step (by assumption) ?_ | refine below_alloc' _ ?_ | refine below_drewN ?_ _ | refine Below.drew ?_))))).mono ?_); rintro e w3 ⟨rfl, A3, c3, l3, k3⟩)
      go_ret2
      refine ⟨rfl, A3, c3, l3, (LKeep.of_below (by (repeat (first | assumption | exact Below.refl _ _ | refine below_step (by assumption) ?_ | refine below_alloc' _ ?_ | refine below_drewN ?_ _ | refine Below.drew ?_))) (by omega)).trans k3⟩
    · rw [if_neg h2]
      have e2 : (f.kind == 2) = false := by simpa using h2
      have CA := Lib.hid (fun (W : World) (hl : Lg a d A c size L W) => disk_Fuse d A c L.S f.n W hl.dk)
      have HU := Lib.hid (fun (W W' : World) (hl : Lg a d A c size L W) (A' : Option Addr) (c' : Nat) (hk : DKeep d W W') (hd : Dk d A' c' { L.S with fuse := max f.n (-1) } W') => hl.step hk hd hda)
      clear h1 h2 h3 hI hL
      go_enter Tryz.func19, Tryz.ntmps19
      go_wp2_with (go_at_call 28; (with_reducible refine (CA.out _ (HL.out.kept (by (repeat (first | assumption | exact Below.refl _ _ | refine below_step (by assumption) ?_ | refine below_alloc' _ ?_ | refine below_drewN ?_ _ | refine Below.drew ?_))))).mono ?_); rintro e w3 ⟨rfl, A3, c3, d3, k3⟩)
      go_ret2
      refine ⟨rfl, A3, c3, HU.out _ _ (HL.out.kept (by (repeat (first | assumption | exact Below.refl _ _ | refine below_step (by assumption) ?_ | refine below_alloc' _ ?_ | refine below_drewN ?_ _ | refine Below.drew ?_)))) A3 c3 k3 d3, (LKeep.of_below (by (repeat (first | assumption | exact Below.refl _ _ | refine below_step (by assumption) ?_ | refine below_alloc' _ ?_ | refine below_drewN ?_ _ | refine Below.drew ?_))) (by omega)).trans (LKeep.of_d k3)⟩
end Go.Proofs.YtcpmicinibfepaaGreatDoor
