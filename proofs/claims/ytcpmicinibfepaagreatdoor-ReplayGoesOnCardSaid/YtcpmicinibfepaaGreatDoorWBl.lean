/- Layer 32: wherever a log's disk crashed, what is read of it behind the crash (WalCrash). -/
import Derived.Test.YtcpmicinibfepaaGreatDoorWBj
import Derived.Test.YtcpmicinibfepaaGreatDoorWAk
namespace Go.Proofs.YtcpmicinibfepaaGreatDoor
open Go.ChangeShapes Go.WideShapes Go.ChangeAt Go.RowKit Go.Deep DiskP NameP


/-- a slice of numbers, opened, its capacity told -/
def SlI.Ok (a : SlI) (w : World) : Prop := a.l.length ≤ a.c ∧ a.c ≤ maxLen ∧ (∀ n ∈ a.l, I64 n) ∧ Rd w w.heap.size a.A (a.l.map (Value.int .i64))
theorem RdWa.world {w W : World} {A : Option Addr} {l : List Wa} (h : RdWa w w.heap.size A l) (hb : Below w.heap.size w W) : RdWa W W.heap.size A l := fun k p hk => by
  obtain ⟨ad, e, hlt, z⟩ := h.below hb k p hk
  exact ⟨ad, e, Nat.lt_of_lt_of_le hlt hb.size, z⟩
/-- an own row of texts, cut off -/
theorem own_takeS {w : World} {B g n c k : Nat} {xs : List Value} (h : w.ownsRow B 9 1 (.slice (some ⟨g, 0, none⟩) n c) n xs) (hk : k ≤ n) : w.ownsRow B 9 1 (.slice (some ⟨g, 0, none⟩) k c) k (xs.take k) := by
  rcases h.2 with ⟨e1, _⟩ | ⟨g', cap, cur, e1, e3, hg, hnc, hcm, hcs, htk⟩
  · cases e1
  · obtain ⟨rfl, rfl⟩ : g = g' ∧ c = cap := by simpa using e1
    refine ⟨by rw [List.length_take, h.1]; omega, .inr ⟨g, c, cur, rfl, e3, hg, by omega, hcm, hcs, ?_⟩⟩
    rw [← htk, List.take_take, Nat.mul_one, Nat.mul_one, Nat.min_eq_left hk]
/-- what is read of a segment behind a crash, and how it stands to what was sent -/
theorem end_at {S : DS} {T : List ByteArray} {p : Nat} {G : List Sg} (h : EndW S T p G) {r : List ByteArray} {k : Nat} {g : Sg} (hk : G[k]? = some g) {j : Nat} (hj : j = (flat (G.take k)).length) :
    ∃ (c : ByteArray) (m sz : Nat) (er : Int), g.1 = j + 1 ∧ readD S (tB g.1) = (c, 0) ∧ FrameP.all c.data.toList = (frs g.1 (g.2.take m), sz, er) ∧ (g.2.take m).length = m ∧ sz ≤ c.size ∧ c.size ≤ 100000000 ∧ j + m ≤ T.length ∧
      (∀ i, i < m → ∃ x : ByteArray, (g.2.take m)[i]? = some x ∧ (T ++ r)[j + i]? = some x) ∧ (k + 1 < G.length → (flat (G.take (k + 1))).length = j + m ∧ sz = c.size ∧ 0 < m) ∧ (k + 1 = G.length → p ≤ j + m) := by
  obtain ⟨c, m, sz, er, h1, h2, h3, h4, h5, _, h7, h8⟩ := h.read k g hk
  obtain ⟨hg1, hg2⟩ := cont_at G 1 h.cont k g hk
  have hft : flat (G.take (k + 1)) = flat (G.take k) ++ g.2 := flat_take_snoc hk
  have hlen : (flat (G.take (k + 1))).length = j + g.2.length := by rw [hft, List.length_append, hj]
  have hle := flat_take_le G (k + 1)
  rw [h.flat] at hle
  subst hj
  refine ⟨c, m, sz, er, by omega, h1, h2, by rw [List.length_take]; omega, h4, h5, by omega, fun i hi => ?_, fun hlt => ?_, fun he => h8 he⟩
  · obtain ⟨x, hx⟩ : ∃ x, g.2[i]? = some x := ⟨g.2[i]'(by omega), List.getElem?_eq_getElem (by omega)⟩
    refine ⟨x, by rw [List.getElem?_take, if_pos hi, hx], ?_⟩
    obtain ⟨q, hq⟩ : ∃ q, T = flat (G.take (k + 1)) ++ q := by
      refine ⟨flat (G.drop (k + 1)), ?_⟩
      rw [← h.flat]
      unfold flat
      rw [← List.flatMap_append, List.take_append_drop]
    rw [hq, hft, List.append_assoc, List.append_assoc, List.getElem?_append_right (by omega), show (flat (G.take k)).length + i - (flat (G.take k)).length = i by omega, List.getElem?_append_left (by omega), hx]
  · obtain ⟨e1, e2⟩ := h7 hlt
    exact ⟨by omega, e2, by have := List.length_pos_iff.2 hg2; omega⟩

set_option maxRecDepth 100000 in
theorem open_intlc {H : Type} {enc : TypeId × Value → H} {w : World} {base : Nat} {spare : Nat → Bool} {held : Bool} {r : Reach} {b0 : Nat} {v : Value} {d : DataW H} {p : List MemPlace}
    (hv : Value.okWide Tryz.prog w r b0 34 v) (h : DataW.Trod enc Tryz.prog w base spare held 34 v d p) (hl : ∀ x ∈ p, x.block < w.heap.size) : ∃ a : SlI, v = .slice a.A a.l.length a.c ∧ a.Ok w := by
  obtain ⟨fuel, hf⟩ := h
  rw [slice_cells Tryz.underlying34 hv] at hf
  exact open_intl_cell Tryz.underlying34 Tryz.underlying3 (by kernel_rfl) hf hl

theorem disk_NamesW (d : Nat) (A : Option Addr) (c : Nat) (S : DS) (hl : S.fs.length ≤ 1000) (w : World) (h : Dk d A c S w) : Calls Tryz.prog 13 #[.pointer (some ⟨d, 0, none⟩)] w fun e w' => ∃ A' c', e = .returned (.slice A' (names S.fs).length c') ∧ Rd w' w'.heap.size A' ((names S.fs).map Value.string) ∧ Below w.heap.size w w' := by
  refine (disk_Names d A c S hl w h).mono ?_
  rintro e w' ⟨A', c', rfl, ho, hb⟩
  refine ⟨A', c', by unfold names; simp, ?_, hb⟩
  have := Rd.own ho
  unfold names
  rw [List.map_map]
  exact this

/-- what is asked of a log's disk between its acts: the segments' numbers; what is read of each but the last, and how much of it is sure -/
structure MidC (d : Nat) (S : DS) (ns : List Int) : Prop where
  len : ns.length ≤ 40
  names : ∀ (A : Option Addr) (c : Nat) (W : World), Dk d A c S W → Calls Tryz.prog 13 #[.pointer (some ⟨d, 0, none⟩)] W fun e w' => ∃ A' c', e = .returned (.slice A' (Go.Proofs.YtcpmicinibfepaaGreatDoor.names S.fs).length c') ∧ Rd w' w'.heap.size A' ((Go.Proofs.YtcpmicinibfepaaGreatDoor.names S.fs).map Value.string) ∧ Below W.heap.size W w'
  nums : ∀ (A' : Option Addr) (c' : Nat) (W : World), Rd W W.heap.size A' ((Go.Proofs.YtcpmicinibfepaaGreatDoor.names S.fs).map Value.string) → Calls Tryz.prog 12 #[.int .i64 1, .slice A' (Go.Proofs.YtcpmicinibfepaaGreatDoor.names S.fs).length c'] W fun e w' => ∃ A2 c2, e = .returned (.slice A2 ns.length c2) ∧ w'.ownsRow W.heap.size 3 1 (.slice A2 ns.length c2) ns.length (ns.map (Value.int .i64)) ∧ Below W.heap.size W w'
  each : ∀ (k : Nat) (n : Int), ns[k]? = some n → k + 1 < ns.length → ∃ (t b : ByteArray) (x : Int), (x = 0 ∨ x = 9) ∧
    (∀ W : World, Calls Tryz.prog 15 #[.int .i64 1, .int .i64 n] W fun e w' => e = .returned (.string t) ∧ Below W.heap.size W w') ∧
    (∀ (A : Option Addr) (c : Nat) (W : World), Dk d A c S W → Calls Tryz.prog 14 #[.pointer (some ⟨d, 0, none⟩), .string t] W fun e w' => e = .returned (.tuple #[.string b, .int .i64 x]) ∧ Below W.heap.size W w') ∧
    (x = 0 → ∀ (A : Option Addr) (c : Nat) (W : World), Dk d A c S W → Calls Tryz.prog 20 #[.pointer (some ⟨d, 0, none⟩), .string t] W fun e w' => e = .returned (.int .i64 (b.size : Nat)) ∧ Below W.heap.size W w')
theorem mid_calls {R : Int} {k : Nat} {L : WL} {T : List ByteArray} {p : Nat} {sent : List ByteArray} (h : CrI R k L T p sent) (hk : k ≤ 40) (d : Nat) : ∃ ns, MidC d L.S ns := by
  have htl := h.tlen
  obtain ⟨G, hG⟩ := mid_law h.inv.sorted h.core (by omega)
  have hGl := hG.len
  have hm := h.inv.many
  have hrange := cont_range hG.cont (by rw [hG.flat]; omega)
  refine ⟨G.map fun g => (g.1 : Int), by rw [List.length_map]; omega, fun A c W hd => disk_NamesW d A c L.S (by omega) W hd, fun A' c' W hr => ?_, fun i n hi hlt => ?_⟩
  · have := ref8_NumbersO 1 A' c' (names L.S.fs) (by unfold names; rw [List.length_map]; omega) hG.names W hr
    rw [hG.nums] at this
    exact this
  · rw [List.getElem?_map] at hi
    obtain ⟨g, hg, rfl⟩ := Option.map_eq_some_iff.1 hi
    rw [List.length_map] at hlt
    have hr := fun (A : Option Addr) (c : Nat) (W : World) (hd : Dk d A c L.S W) => disk_Read d A c L.S (tB g.1) h.inv.sorted (by omega) W hd
    have hs := fun (A : Option Addr) (c : Nat) (W : World) (hd : Dk d A c L.S W) => disk_Sure d A c L.S (tB g.1) h.inv.sorted (by omega) W hd
    have ho := fun W : World => ref8_Of 1 g.1 (I64_small (hrange g (List.mem_of_getElem? hg))) W
    rw [hG.sure i g hg hlt] at hs
    by_cases hon : L.S.on = true
    · rw [hG.read hon i g hg] at hr
      exact ⟨tB g.1, sgB g, 0, .inl rfl, ho, hr, fun _ => hs⟩
    · have e : readD L.S (tB g.1) = (⟨#[]⟩, 9) := by unfold readD; rw [if_pos (by simpa using hon)]
      rw [e] at hr
      exact ⟨tB g.1, ⟨#[]⟩, 9, .inr rfl, ho, hr, fun h0 => absurd h0 (by decide)⟩
/-- what is read behind the crash: the segments' numbers, one behind the other; each one's frames, of what was sent -/
structure EndC (d : Nat) (S : DS) (ns : List Int) (st : Nat → Nat) (sent : List ByteArray) (p : Nat) : Prop where
  len : ns.length ≤ 40
  names : ∀ (A : Option Addr) (c : Nat) (W : World), Dk d A c S W → Calls Tryz.prog 13 #[.pointer (some ⟨d, 0, none⟩)] W fun e w' => ∃ A' c', e = .returned (.slice A' (Go.Proofs.YtcpmicinibfepaaGreatDoor.names S.fs).length c') ∧ Rd w' w'.heap.size A' ((Go.Proofs.YtcpmicinibfepaaGreatDoor.names S.fs).map Value.string) ∧ Below W.heap.size W w'
  nums : ∀ (A' : Option Addr) (c' : Nat) (W : World), Rd W W.heap.size A' ((Go.Proofs.YtcpmicinibfepaaGreatDoor.names S.fs).map Value.string) → Calls Tryz.prog 12 #[.int .i64 1, .slice A' (Go.Proofs.YtcpmicinibfepaaGreatDoor.names S.fs).length c'] W fun e w' => ∃ A2 c2, e = .returned (.slice A2 ns.length c2) ∧ w'.ownsRow W.heap.size 3 1 (.slice A2 ns.length c2) ns.length (ns.map (Value.int .i64)) ∧ Below W.heap.size W w'
  zero : ns.length = 0 → p = 0
  start : st 0 = 0
  each : ∀ (k : Nat) (n : Int), ns[k]? = some n → n = (st k : Int) + 1 ∧ ∃ (t c : ByteArray) (m sz : Nat) (er : Int), st k + m ≤ 40 ∧ st k + m ≤ sent.length ∧ sz ≤ c.size ∧ c.size ≤ 100000000 ∧
    (∀ W : World, Calls Tryz.prog 15 #[.int .i64 1, .int .i64 n] W fun e w' => e = .returned (.string t) ∧ Below W.heap.size W w') ∧
    (∀ (A : Option Addr) (c' : Nat) (W : World), Dk d A c' S W → Calls Tryz.prog 14 #[.pointer (some ⟨d, 0, none⟩), .string t] W fun e w' => e = .returned (.tuple #[.string c, .int .i64 0]) ∧ Below W.heap.size W w') ∧
    (∀ W : World, Calls Tryz.prog 17 #[.string c] W fun e w' => ∃ A2 c2, e = .returned (.tuple #[.slice A2 m c2, .int .i64 (sz : Nat), .int .i64 er]) ∧ Below W.heap.size W w' ∧
      ∀ i, i < m → ∃ (x : ByteArray) (ad : Addr), sent[st k + i]? = some x ∧ A2 = some ad ∧ ad.block < w'.heap.size ∧ w'.cell? (ad.add (i * 2)) = some (.int .i64 (((st k + i : Nat) : Int) + 1)) ∧ w'.cell? ⟨(ad.add (i * 2)).block, (ad.add (i * 2)).off + 1, none⟩ = some (.string x)) ∧
    (k + 1 < ns.length → st (k + 1) = st k + m ∧ sz = c.size ∧ 0 < m) ∧ (k + 1 = ns.length → p ≤ st k + m)
theorem end_calls {R : Int} {k : Nat} {L : WL} {T : List ByteArray} {p : Nat} {sent : List ByteArray} (h : CrI R k L T p sent) (hk : k ≤ 40) (d : Nat) (ks : List Int) :
    ∃ ns st, EndC d (upD { L.S with on := false, fuse := -1 } ks) ns st sent p := by
  have htl := h.tlen
  obtain ⟨r, hr⟩ := h.pre
  have hpl : T.length ≤ sent.length := by rw [hr, List.length_append]; omega
  have hI1 : DInv R (2 * k) (2 * k) { L.S with on := false, fuse := -1 } := { h.inv with fuse := by simp only; omega }
  have hI2 := (upD_inv hI1 ks).1
  obtain ⟨G, hG⟩ := crash_law h.inv (by omega) h.core (by omega) (fun x hx => by have := h.txt x (by rw [hr]; exact List.mem_append_left _ hx); omega) ks
  generalize upD { L.S with on := false, fuse := -1 } ks = S at *
  have hGl := hG.len
  have hm := hI2.many
  have hrange := cont_range hG.cont (by rw [hG.flat]; omega)
  refine ⟨G.map fun g => (g.1 : Int), fun k => (flat (G.take k)).length, by rw [List.length_map]; omega, fun A c W hd => disk_NamesW d A c S (by omega) W hd, fun A' c' W hr => ?_, fun h0 => hG.none (by rw [List.length_map] at h0; exact List.eq_nil_of_length_eq_zero h0), by simp [flat], fun i n hi => ?_⟩
  · have := ref8_NumbersO 1 A' c' (names S.fs) (by unfold names; rw [List.length_map]; omega) hG.names W hr
    rw [hG.nums] at this
    exact this
  · rw [List.getElem?_map] at hi
    obtain ⟨g, hg, rfl⟩ := Option.map_eq_some_iff.1 hi
    obtain ⟨c, m, sz, er, e1, e2, e3, e4, e5, e6, e7, e8, e9, e10⟩ := end_at hG (r := r) hg rfl
    have hrd := fun (A : Option Addr) (c : Nat) (W : World) (hd : Dk d A c S W) => disk_Read d A c S (tB g.1) hI2.sorted (by omega) W hd
    have ho := fun W : World => ref8_Of 1 g.1 (I64_small (hrange g (List.mem_of_getElem? hg))) W
    rw [e2] at hrd
    refine ⟨by omega, tB g.1, c, m, sz, er, by omega, by omega, e5, e6, ho, hrd, fun W => ?_, by rw [List.length_map]; exact e9, by rw [List.length_map]; exact e10⟩
    refine (ref_All6 c (by omega) W).mono ?_
    rw [e3]
    rintro e w' ⟨A9, c9, rfl, hrf, hb, _⟩
    refine ⟨A9, c9, by rw [frs_len, e4], hb, fun i hi => ?_⟩
    obtain ⟨x, hx, hs⟩ := e8 i hi
    obtain ⟨ad, rfl, hlt, z1, z2⟩ := hrf i (((g.1 + i : Nat) : Int), x.data.toList) (by rw [frs_get, hx]; rfl)
    refine ⟨x, ad, by rw [hr]; exact hs, rfl, hlt, ?_, z2⟩
    rw [z1, e1]
    congr 2
    omega
/-- a log beside a row of texts that grows -/
theorem Lg.grown {a d c n : Nat} {A : Option Addr} {size : Int} {L : WL} {w w' : World} {v : Value} {xs : List Value} (h : Lg a d A c size L w) (hda : d < a) (ho : w.ownsRow (a + 1) 9 1 v n xs) (hg : w.grownBy w' v.ownBlock) : Lg a d A c size L w' := by
  have hf : ∀ b cs T, w.heap[b]? = some (.cells cs T (0, 0)) → (b ≤ a ∨ T ≠ 9) → w'.heap[b]? = w.heap[b]? := fun b cs T hb hor => by
    refine hg.block b (bx_lt hb) (fun e => ?_)
    have h1 := (ho.lt b e.symm).1
    rcases hor with h2 | h2
    · omega
    · obtain ⟨cur, hc⟩ := own_type ho e.symm
      rw [hb] at hc
      simp at hc
      exact h2 hc.2
  exact ⟨⟨(hf d _ _ h.dk.box (.inl (by omega))).trans h.dk.box, own_at h.dk.row fun g hgg => by obtain ⟨cur, hc⟩ := own_type h.dk.row hgg; exact hf g _ _ hc (.inr (by decide))⟩, (hf a _ _ h.box (.inl (Nat.le_refl _))).trans h.box⟩
theorem own_snoc {w : World} {B : Nat} {v : Value} {sent : List ByteArray} {s : ByteArray} (h : w.ownsRow B 9 1 v (sent.length + 1) (sent.map Value.string ++ [.string s])) : w.ownsRow B 9 1 v (sent ++ [s]).length ((sent ++ [s]).map Value.string) := by
  rw [List.length_append, List.map_append]
  exact h
theorem own_cutS {w : World} {B g c : Nat} {sent : List ByteArray} {s : ByteArray} (h : w.ownsRow B 9 1 (.slice (some ⟨g, 0, none⟩) (sent.length + 1) c) (sent ++ [s]).length ((sent ++ [s]).map Value.string)) : w.ownsRow B 9 1 (.slice (some ⟨g, 0, none⟩) sent.length c) sent.length (sent.map Value.string) := by
  rw [List.length_append, List.length_singleton] at h
  have := own_takeS h (k := sent.length) (by omega)
  rw [List.map_append, List.take_left' (by simp)] at this
  exact this
end Go.Proofs.YtcpmicinibfepaaGreatDoor
