/- Layer 32: what is trimmed has nothing above the number (WalTrims) · Layer 32: WalTrims, of any input. -/
import Derived.Test.YtcpmicinibfepaaGreatDoorTBn
import Derived.Test.YtcpmicinibfepaaGreatDoorTBl
import Derived.Test.YtcpmicinibfepaaGreatDoorTBo
namespace Go.Proofs.YtcpmicinibfepaaGreatDoor
open Go.ChangeShapes Go.WideShapes Go.ChangeAt Go.RowKit Go.Deep DiskP NameP


theorem core_p {S : DS} {T : List ByteArray} {p : Nat} (h : CoreW S T p) : p ≤ T.length := by
  obtain ⟨X, _, hseg⟩ := h
  rcases hseg with ⟨_, _, rfl⟩ | ⟨G0, g, su, _, _, _, _, h5, _⟩
  · exact Nat.zero_le _
  · exact h5
theorem core_nil (R : Int) : CoreW ⟨[], R, true, true, -1, 0⟩ [] 0 := ⟨⟨[], R, true, true, -1, 0⟩, ⟨rfl, rfl, rfl, rfl, rfl, List.Perm.refl _⟩, .inl ⟨rfl, rfl, rfl⟩⟩
/-- what a log needs, out of what holds of it -/
theorem okW_of {R : Int} {i j : Nat} {L : WL} {T : List ByteArray} {p : Nat} (hI : DInv R i j L.S) (hij : i ≤ 900 ∧ j ≤ 900) (hc : CoreW L.S T p) (hT : T.length ≤ 1000) (hsy : L.sy = p) (hnx : 1 ≤ L.nx ∧ L.nx ≤ 1000000) : OkW L := by
  obtain ⟨G, hG⟩ := mid_law hI.sorted hc hT
  have := core_p hc
  exact ⟨hI.ok (by omega) (by omega), hG.names, hnx, by omega⟩
/-- a log that never fails -/
structure TrI (R : Int) (k : Nat) (L : WL) (T : List ByteArray) (p : Nat) : Prop where
  inv : DInv R (2 * k) (2 * k) L.S
  core : CoreW L.S T p
  sy : L.sy = p
  on : L.S.on = true
  fuse : L.S.fuse = -1
  nx : L.nx = T.length + 1
  len : T.length ≤ k
  txt : ∀ d ∈ T, d.size ≤ 100
theorem TrI.ok {R : Int} {k : Nat} {L : WL} {T : List ByteArray} {p : Nat} (h : TrI R k L T p) (hk : k ≤ 400) : OkW L :=
  okW_of h.inv (by omega) h.core (by have := h.len; omega) h.sy (by have := h.nx; have := h.len; omega)
theorem TrI.next {R : Int} {k : Nat} {L : WL} {T : List ByteArray} {p : Nat} (h : TrI R k L T p) (hk : k < 64) (hR : 8000 ≤ R) (size : Int) (d : ByteArray) (hd : d.size ≤ 100) :
    (appendW size L d).2 = (L.nx, 0) ∧ ∃ p', TrI R (k + 1) (appendW size L d).1 (T ++ [d]) p' := by
  have hb := bytesT_le T h.txt
  have hlen := h.len
  have hI := appendW_inv h.inv size d hd
  rcases append_law h.inv h.core h.sy h.on h.nx (by omega) size d with ⟨a, b, c, e, p', f, g⟩ | ⟨a, b, c, e, _⟩ | ⟨a, b, c, e, _⟩
  · refine ⟨a, p', hI, f, g, c, e h.fuse, by rw [b, h.nx, List.length_append]; simp, by rw [List.length_append]; simp; omega, fun x hx => ?_⟩
    rcases List.mem_append.1 hx with hx | hx
    · exact h.txt x hx
    · rw [List.mem_singleton.1 hx]; exact hd
  · rcases e with e | e
    · omega
    · omega
  · exact absurd h.fuse e
theorem TrI.skip {R : Int} {k : Nat} {L : WL} {T : List ByteArray} {p : Nat} (h : TrI R k L T p) : TrI R (k + 1) L T p := ⟨h.inv.more (by omega) (by omega), h.core, h.sy, h.on, h.fuse, h.nx, by have := h.len; omega, h.txt⟩

theorem disk_NamesR (d : Nat) (A : Option Addr) (c : Nat) (S : DS) (hl : S.fs.length ≤ 1000) (w : World) (h : Dk d A c S w) : Calls Tryz.prog 13 #[.pointer (some ⟨d, 0, none⟩)] w fun e w' => ∃ A' c', e = .returned (.slice A' (names S.fs).length c') ∧ Rd w' w'.heap.size A' ((names S.fs).map Value.string) ∧ Below w.heap.size w w' := by
  refine (disk_Names d A c S hl w h).mono ?_
  rintro e w' ⟨A', c', rfl, ho, hb⟩
  refine ⟨A', c', by unfold names; simp, ?_, hb⟩
  have := Rd.own ho
  unfold names
  rw [List.map_map]
  exact this

set_option maxRecDepth 100000 in
set_option maxHeartbeats 20000000 in
theorem law32_WalTrims_few (size : Int) (hsize : I64 size) (seq : Int) (a : SlWa) (w : World) (ht : TabW w) (ha : a.Ok w) (hf : fewW a.l) :
    Calls Tryz.prog 3 #[.int .i64 size, .slice a.A a.l.length a.c, .int .i64 seq] w fun e w' => e = .returned (.bool true) ∧ Below w.heap.size w w' := by
  obtain ⟨A0, c0, l⟩ := a
  obtain ⟨hl1, hl2, hl3, hli, hrt⟩ := ha
  simp only at *
  have h30 := hf.1
  have HFW := Lib.hid hf
  have HR := Lib.hid hrt
  have HLI := Lib.hid hli
  have HF := Lib.hid (ref32_Few_yes A0 c0 l hf w hrt)
  have HT := Lib.hid (fun W (hb : Below w.heap.size w W) => TabW.below ht hb)
  have HA := Lib.hid (fun (W : World) (hb : Below w.heap.size w W) => (law32_awake W (HT.out W hb)).mono (fun e w' (hp : e = .returned (.bool true) ∧ Below W.heap.size W w') => (⟨hp.1, below_step hp.2 hb⟩ : e = .returned (.bool true) ∧ Below w.heap.size w w')))
  have H1' : Calls Tryz.prog 9 #[.int .i64 1048576] w fun e w' => e = .returned (.pointer (some ⟨w.heap.size, 0, none⟩)) ∧ Dk w.heap.size none 0 ⟨[], 1048576, true, true, -1, 0⟩ w' ∧ Below w.heap.size w w' := disk_New 1048576 w
  have H2' : ∀ W : World, Calls Tryz.prog 10 #[.pointer (some ⟨w.heap.size, 0, none⟩), .int .i64 size, .int .i64 1] W fun e w' => e = .returned (.pointer (some ⟨W.heap.size, 0, none⟩)) ∧ w'.heap[W.heap.size]? = some (.cells #[.pointer (some ⟨w.heap.size, 0, none⟩), .int .i64 size, .int .i64 1, .int .i64 0] 74 (0, 0)) ∧ Below W.heap.size W w' := fun W => wal_New w.heap.size size 1 W
  have H1 := Lib.hid H1'
  have H2 := Lib.hid H2'
  clear H1' H2' ht hrt hli hf hl1 hl2 hl3
  go_enter Tryz.func3, Tryz.ntmps3
  go_wp2_with (first
    | (go_at_call 7; (with_reducible refine (HF.out).mono ?_); rintro e w0 ⟨rfl, rfl⟩)
    | (go_at_call 9; (with_reducible refine (H1.out).mono ?_); rintro e w1 ⟨rfl, d1, B1⟩)
    | (go_at_call 10; (with_reducible refine (H2.out _).mono ?_); rintro e w2 ⟨rfl, x2, B2⟩; have hda := d1.lt; have B12 := below_step B2 B1; have l2 : Lg w1.heap.size w.heap.size none 0 size ⟨⟨[], 1048576, true, true, -1, 0⟩, 1, 0⟩ w2 := ⟨d1.kept B2, x2⟩))
  obtain ⟨aa, haa⟩ : ∃ aa, aa = w1.heap.size := ⟨_, rfl⟩
  rw [← haa] at l2 hda
  rw [← haa]
  have I0 : TrI 1048576 0 ⟨⟨[], 1048576, true, true, -1, 0⟩, 1, 0⟩ [] 0 := ⟨⟨by simp [Sorted], by simp, by simp, by simp [used], by simp, rfl, by simp [used], by simp, by simp⟩, core_nil _, rfl, rfl, rfl, rfl, Nat.le_refl _, by simp⟩
  have HI0 := Lib.hid I0
  clear I0 B1 B2 d1 x2 haa H1 H2 HF
  go_loopw [9] (fun vi wr => ∃ (k : Nat) (L : WL) (T : List ByteArray) (p : Nat) (A : Option Addr) (c : Nat), k ≤ l.length ∧ vi = .int .i64 k ∧ Lg aa w.heap.size A c size L wr ∧ Below w.heap.size w wr ∧ Hid (TrI 1048576 k L T p)) (fun vi _ => l.length - (intOf vi).toNat)
  case atStart => exact ⟨0, _, [], 0, none, 0, by omega, rfl, l2, B12, HI0⟩
  case round =>
    obtain ⟨k, L, T, p, A, c, hk, rfl, hL, B, HI⟩ := hrel
    clear l2 B12 HI0
    by_cases hlt : k < l.length
    · obtain ⟨f, hk'⟩ : ∃ f, l[k]? = some f := ⟨l[k], List.getElem?_eq_getElem hlt⟩
      obtain ⟨ad, rfl, hadl, z0, z1, z2⟩ := HR.out.below B k f hk'
      have hi1 : (k : Int) < (l.length : Int) := by omega
      have hs : f.s.size ≤ 100 := HFW.out.2 f (List.mem_of_getElem? hk')
      clear hk'
      by_cases hkind : f.kind = 1
      · have HOK := Lib.hid (HI.out.ok (by omega))
        obtain ⟨hr, p', hn⟩ := HI.out.next (by omega) (by omega) size f.s hs
        have CA' : Calls Tryz.prog 11 #[.pointer (some ⟨aa, 0, none⟩), .string f.s] wr (LPost aa w.heap.size size (appendW size L f.s).1 (.tuple #[.int .i64 L.nx, .int .i64 0]) wr) := by
          have := wal_Append aa w.heap.size A c size hsize L HOK.out 1048576 (2 * k) (2 * k) HI.out.inv (by omega) f.s hs wr (fun W hb => HT.out W (B.trans hb)) hda hL
          rw [hr] at this
          exact this
        have CA := Lib.hid CA'
        have HN := Lib.hid hn
        have g1 : (f.kind == 1) = true := by simpa using hkind
        clear CA' hn hr hL HI HOK hkind
        generalize (appendW size L f.s).1 = L2 at *
        go_wp2_with (go_at_call 11; (with_reducible refine (CA.out).mono ?_); rintro e w3 ⟨rfl, A3, c3, l3, k3⟩)
        exact ⟨⟨k + 1, L2, T ++ [f.s], p', A3, c3, by omega, by go_num, l3, B.trans k3.below, HN⟩, by show l.length - ((k : Int) + 1).toNat < l.length - ((k : Int)).toNat; omega⟩
      · have g1 : (f.kind == 1) = false := by simpa using hkind
        have HN := Lib.hid HI.out.skip
        clear hkind HI
        go_wp2_with fail
        exact ⟨⟨k + 1, L, T, p, A, c, by omega, by go_num, hL, B, HN⟩, by show l.length - ((k : Int) + 1).toNat < l.length - ((k : Int)).toNat; omega⟩
    · have hi1 : ¬ (k : Int) < (l.length : Int) := by omega
      have hkl : k ≤ 30 := by omega
      clear hlt hk
      obtain ⟨G, K, hG, ht2, hID, hW, hKG⟩ := trims_law HI.out.inv HI.out.core HI.out.on HI.out.fuse (by have := HI.out.len; omega) seq
      have hm30 : G.length ≤ 30 := by have := hG.len; have := HI.out.len; omega
      have HOK := Lib.hid (HI.out.ok (by omega))
      have hS := HI.out.inv
      have hmany := hS.many
      have hmany2 := hID.many
      have hnn := hG.nums
      have hrange : ∀ g ∈ G, 1 ≤ (g.1 : Int) ∧ (g.1 : Int) ≤ 999999999999999999 := cont_range hG.cont (by rw [hG.flat]; have := HI.out.len; omega)
      obtain ⟨r, hr⟩ : ∃ r, G.length = K + r := ⟨G.length - K, by omega⟩
      have CN1 := Lib.hid (fun (W : World) (A' : Option Addr) (c' : Nat) (h : Dk w.heap.size A' c' L.S W) => disk_NamesR w.heap.size A' c' L.S (by omega) W h)
      have CX1' : ∀ (A' : Option Addr) (c' : Nat) (W : World), Rd W W.heap.size A' ((names L.S.fs).map Value.string) → Calls Tryz.prog 12 #[.int .i64 1, .slice A' (names L.S.fs).length c'] W fun e w' => ∃ A2 c2, e = .returned (.slice A2 G.length c2) ∧ w'.ownsRow W.heap.size 3 1 (.slice A2 G.length c2) G.length (G.map fun g => Value.int .i64 (g.1 : Int)) ∧ Below W.heap.size W w' := fun A' c' W hrd => by
        have := ref8_NumbersO 1 A' c' (names L.S.fs) (by unfold names; rw [List.length_map]; omega) hG.names W hrd
        rw [hnn, List.length_map, List.map_map] at this
        exact this
      have CX1 := Lib.hid CX1'
      have CO' : ∀ (k : Nat) (g : Sg), G[k]? = some g → ∀ (W : World), Calls Tryz.prog 15 #[.int .i64 1, .int .i64 (g.1 : Int)] W fun e w' => e = .returned (.string (tB g.1)) ∧ Below W.heap.size W w' := fun k g hk W => ref8_Of 1 g.1 (I64_small (hrange g (List.mem_of_getElem? hk))) W
      have CO := Lib.hid CO'
      have CRd' : ∀ (k : Nat) (g : Sg), G[k]? = some g → ∀ (A' : Option Addr) (c' : Nat) (W : World), Dk w.heap.size A' c' L.S W → Calls Tryz.prog 14 #[.pointer (some ⟨w.heap.size, 0, none⟩), .string (tB g.1)] W fun e w' => e = .returned (.tuple #[.string (sgB g), .int .i64 0]) ∧ Below W.heap.size W w' := fun k g hk A' c' W h => by
        have := disk_Read w.heap.size A' c' L.S (tB g.1) hS.sorted (by omega) W h
        rw [hG.read HI.out.on k g hk] at this
        exact this
      have CRd := Lib.hid CRd'
      have CT' : ∀ (A' : Option Addr) (c' : Nat) (W : World), Below w.heap.size w W → Lg aa w.heap.size A' c' size L W → Calls Tryz.prog 16 #[.pointer (some ⟨aa, 0, none⟩), .int .i64 seq] W (LPost aa w.heap.size size ⟨(trimD L.S (G.map fun g => (g.1 : Int)) seq).1, L.nx, L.sy⟩ (.int .i64 0) W) := fun A' c' W hb h => by
        have := wal_Trim aa w.heap.size A' c' size L HOK.out 1048576 (2 * k) (2 * k) hS (by omega) seq W (fun W' hb' => HT.out W' (hb.trans hb')) hda h
        rw [hnn, ht2] at this
        exact this
      have CT := Lib.hid CT'
      have hmz : ∀ (g : Sg) (k : Nat), G[k]? = some g → ∃ q er, g.2.length = q + 1 ∧ FrameP.all (sgB g).data.toList = (frs g.1 g.2, (sgB g).size, er) ∧ g.1 + q ≤ 31 ∧ (sgB g).size ≤ 4000 := fun g k' hk' => by
        obtain ⟨er, a1, a2, a3, a4, a5⟩ := all_sgB hG.cont hG.flat (by have := HI.out.len; omega) HI.out.txt hk'
        have := HI.out.len
        exact ⟨g.2.length - 1, er, by have := List.length_pos_iff.2 a3; omega, a1, by have := List.length_pos_iff.2 a3; omega, by omega⟩
      have HMZ := Lib.hid hmz
      clear CX1' CRd' CT' hmz ht2
      have HW := Lib.hid hW
      have HID := Lib.hid hID
      generalize (trimD L.S (G.map fun g => (g.1 : Int)) seq).1 = S2 at *
      have CN2 := Lib.hid (fun (W : World) (A' : Option Addr) (c' : Nat) (h : Dk w.heap.size A' c' S2 W) => disk_NamesR w.heap.size A' c' S2 (by omega) W h)
      have CX2' : ∀ (A' : Option Addr) (c' : Nat) (W : World), Rd W W.heap.size A' ((names S2.fs).map Value.string) → Calls Tryz.prog 12 #[.int .i64 1, .slice A' (names S2.fs).length c'] W fun e w' => ∃ A2 c2, e = .returned (.slice A2 r c2) ∧ w'.ownsRow W.heap.size 3 1 (.slice A2 r c2) r ((G.map fun g => Value.int .i64 (g.1 : Int)).drop K) ∧ Below W.heap.size W w' := fun A' c' W hrd => by
        have := ref8_NumbersO 1 A' c' (names S2.fs) (by unfold names; rw [List.length_map]; omega) hW.names W hrd
        rw [hW.nums, List.length_drop, List.length_map, List.map_drop, List.map_map, show G.length - K = r by omega] at this
        exact this
      have CX2 := Lib.hid CX2'
      have CR2' : ∀ (k : Nat) (g : Sg), K ≤ k → G[k]? = some g → ∀ (A' : Option Addr) (c' : Nat) (W : World), Dk w.heap.size A' c' S2 W → Calls Tryz.prog 14 #[.pointer (some ⟨w.heap.size, 0, none⟩), .string (tB g.1)] W fun e w' => e = .returned (.tuple #[.string (sgB g), .int .i64 0]) ∧ Below W.heap.size W w' := fun k g hKk hk A' c' W h => by
        have := disk_Read w.heap.size A' c' S2 (tB g.1) hID.sorted (by omega) W h
        rw [hW.read k g hKk hk] at this
        exact this
      have CR2 := Lib.hid CR2'
      have hmany' := hW.many
      have HRR := Lib.hid hr
      have HG := Lib.hid hG.cont
      clear CX2' CR2' CO' hr hW hID hS hG hnn hrange hmany hmany2 HI HOK HFW
      obtain ⟨i0, hi, hz0, hz1, hz2⟩ := info_parts' info_str
      have HIS := Lib.hid (And.intro hi (And.intro hz0 (And.intro hz1 hz2)))
      clear hi hz0 hz1 hz2
      go_wp2_with (first
        | (go_at_call 13; (with_reducible refine (CN1.out _ _ _ hL.dk).mono ?_); rintro e w3 ⟨A3, c3, rfl, r3, b3⟩; have l3 := hL.kept b3)
        | (go_at_call 12; (with_reducible refine (CX1.out _ _ _ r3).mono ?_); rintro e w4 ⟨A4, c4, rfl, o4, b4⟩; have l4 := l3.kept b4; have b34 := below_step b4 b3))
      have B4 := below_step b34 B
      have hwB : aa < w3.heap.size := l3.lt
      have h34 := b4.size
      have HO4 := Lib.hid o4
      clear o4 b4 b34 l3 b3 r3 hL CN1 CX1
      go_loopw [11, 12] (fun vo vi w5 => ∃ k2 : Nat, k2 ≤ G.length ∧ vi = .int .i64 k2 ∧ w5.ownsRow w4.heap.size 9 1 vo k2 ((G.take k2).map fun g => Value.string (sgB g)) ∧ Below w4.heap.size w4 w5) (fun _ vi _ => G.length - (intOf vi).toNat)
      case atStart => exact ⟨0, by omega, rfl, World.ownsRow_nil _ _ _ _, Below.refl _ _⟩
      case round =>
        obtain ⟨k2, hk2, rfl, ho5, hb5⟩ := hrel
        have l5 := l4.kept hb5
        have HO5 := Lib.hid ho5
        have hb5z := hb5.size
        clear ho5
        by_cases hlt2 : k2 < G.length
        · obtain ⟨g, hg⟩ : ∃ g, G[k2]? = some g := ⟨G[k2], List.getElem?_eq_getElem hlt2⟩
          obtain ⟨gw, rfl⟩ : ∃ gw, A4 = some ⟨gw, 0, none⟩ := by
            rcases row_sliceN HO4.out with ⟨_, h0⟩ | ⟨gw, cap, e1, _⟩
            · omega
            · exact ⟨gw, by injection e1⟩
          have z := own_cell (own_below HO4.out hb5) k2 (.int .i64 (g.1 : Int)) (by rw [List.getElem?_map, hg]; rfl)
          have COg := Lib.hid (CO.out k2 g hg)
          have CRg := Lib.hid (CRd.out k2 g hg)
          have HTS := Lib.hid (show (G.take (k2 + 1)).map (fun g => Value.string (sgB g)) = (G.take k2).map (fun g => Value.string (sgB g)) ++ [.string (sgB g)] by rw [wtake_snoc G k2 g hg, List.map_append]; rfl)
          have hi2 : (k2 : Int) < (G.length : Int) := by omega
          clear hg
          generalize sgB g = sg at *
          generalize tB (g.1 : Int) = tg at *
          go_wp2_with (first
            | (go_at_call 15; (with_reducible refine (COg.out _).mono ?_); rintro e w6 ⟨rfl, b6⟩; have l6 := l5.kept b6)
            | (go_at_call 14; (with_reducible refine (CRg.out _ _ _ l6.dk).mono ?_); rintro e w7 ⟨rfl, b7⟩; have b57 := below_step b7 b6; have hb7 := below_step b57 hb5; have HO7 := Lib.hid (own_below HO5.out b57))
            | (at_builtin; refine wpList_append_twoN rfl _ _ _ (by rfl) w4.heap.size 9 i0 _ 1 16 Tryz.underlying36 HIS.out.1 HIS.out.2.1 HIS.out.2.2.1 HIS.out.2.2.2 rfl (by decide) (by decide) _ _ _ (by rfl) w7 HO7.out _ _ rfl (by rfl) (by rfl) (by simp [Value.oneCell']) (by omega) (by have := hb7.size; omega) ?_; intro g2 cap2 w8 hA; have q8 := app_belowN hb7 HO7.out (Nat.le_refl _) (by have := hb7.size; omega) hA))
          refine ⟨⟨k2 + 1, by omega, by go_num, ?_, q8⟩, by show G.length - ((k2 : Int) + 1).toNat < G.length - ((k2 : Int)).toNat; omega⟩
          rw [HTS.out]
          exact hA.own
        · have hi2 : ¬ (k2 : Int) < (G.length : Int) := by omega
          obtain rfl : k2 = G.length := by omega
          rw [List.take_length] at HO5
          clear hlt2 hk2 CRd
          obtain ⟨A5, c5, rfl⟩ := own_slice HO5.out
          have B5 := B4.trans (hb5.mono B4.size)
          have HO45 := Lib.hid (own_below HO4.out hb5)
          have hFa : aa < w4.heap.size := by omega
          clear l4 B4 HO4
          have hrr := HRR.out
          have g20 : (r : Int) ≤ (G.length : Int) := by omega
          by_cases hm0 : G.length = 0
          · have g21 : ¬ (0 : Int) < (G.length : Int) := by omega
            have g23 : (G.length : Int) - (r : Int) = 0 := by omega
            have g24 : ¬ (0 : Int) < (G.length : Int) := by omega
            clear hrr
            go_wp2_with (first
              | (go_at_call 16; (with_reducible refine (CT.out _ _ _ B5 l5).mono ?_); rintro e w6 ⟨rfl, A6, c6, l6, k6⟩; have B6 := B5.trans k6.below; have HO6 := Lib.hid (own_lkeep HO45.out k6 (by omega) (fun g hg => by have := (HO45.out.lt g hg).1; omega) (by decide)); have HF6 := Lib.hid (own_lkeep HO5.out k6 (by omega) (fun g hg => by have := (HO5.out.lt g hg).1; omega) (by decide)))
              | (go_at_call 13; (with_reducible refine (CN2.out _ _ _ l6.dk).mono ?_); rintro e w7 ⟨A7, c7, rfl, r7, b7⟩; have l7 := l6.kept b7)
              | (go_at_call 12; (with_reducible refine (CX2.out _ _ _ r7).mono ?_); rintro e w8 ⟨A8, c8, rfl, o8, b8⟩; have l8 := l7.kept b8; have b68 := below_step b8 b7))
            have B8 := below_step b68 B6
            go_loopw [17] (fun vi wr => vi = .int .i64 0 ∧ Below w.heap.size w wr) (fun vi _ => 0)
            case atStart => exact ⟨rfl, B8⟩
            case round =>
              obtain ⟨rfl, B9⟩ := hrel
              go_wp2_with (go_at_call 8; (with_reducible refine (HA.out _ B9).mono ?_); rintro e y1 ⟨rfl, b1⟩)
              go_ret
              exact ⟨rfl, b1⟩
          · have g21 : (0 : Int) < (G.length : Int) := by omega
            have g22 : ((r : Int) == 0) = false := by simp; omega
            clear hrr
            go_wp2_with (first
              | (go_at_call 16; (with_reducible refine (CT.out _ _ _ B5 l5).mono ?_); rintro e w6 ⟨rfl, A6, c6, l6, k6⟩; have B6 := B5.trans k6.below; have HO6 := Lib.hid (own_lkeep HO45.out k6 (by omega) (fun g hg => by have := (HO45.out.lt g hg).1; omega) (by decide)); have HF6 := Lib.hid (own_lkeep HO5.out k6 (by omega) (fun g hg => by have := (HO5.out.lt g hg).1; omega) (by decide)))
              | (go_at_call 13; (with_reducible refine (CN2.out _ _ _ l6.dk).mono ?_); rintro e w7 ⟨A7, c7, rfl, r7, b7⟩; have l7 := l6.kept b7)
              | (go_at_call 12; (with_reducible refine (CX2.out _ _ _ r7).mono ?_); rintro e w8 ⟨A8, c8, rfl, o8, b8⟩; have l8 := l7.kept b8; have b68 := below_step b8 b7))
            have B8 := below_step b68 B6
            have HWS := Lib.hid (own_below HO6.out b68)
            have HFS := Lib.hid (own_below HF6.out b68)
            have HNS := Lib.hid o8
            clear o8 b8 r7 b7 l7 l6 b68 B6 k6 HO6 HF6 HO45 HO5 CN2 CX2 CT HIS
            clear g20 g21 g22 hm0
            rw [show (G.length : Int) - (r : Int) = (K : Int) by have := HRR.out; omega, show decide (G.length < r) = false by rw [decide_eq_false_iff_not]; have := HRR.out; omega]
            go_loopw [17] (fun vi wr => ∃ k3 : Nat, k3 ≤ G.length ∧ vi = .int .i64 k3 ∧ Below w8.heap.size w8 wr) (fun vi _ => G.length - (intOf vi).toNat)
            case atStart => exact ⟨0, by omega, rfl, Below.refl _ _⟩
            case round =>
              obtain ⟨k3, hk3, rfl, hb9⟩ := hrel
              have B9 := B8.trans (hb9.mono B8.size)
              have l9 := l8.kept hb9
              by_cases hlt3 : k3 < G.length
              · obtain ⟨g, hg⟩ : ∃ g, G[k3]? = some g := ⟨G[k3], List.getElem?_eq_getElem hlt3⟩
                obtain ⟨q, er, hq, hall, hq31, hsz⟩ := HMZ.out g k3 hg
                obtain ⟨gw, rfl⟩ : ∃ gw, A4 = some ⟨gw, 0, none⟩ := by
                  rcases row_sliceN HWS.out with ⟨_, h0⟩ | ⟨gw, cap, e1, _⟩
                  · omega
                  · exact ⟨gw, by injection e1⟩
                obtain ⟨gf, rfl⟩ : ∃ gf, A5 = some ⟨gf, 0, none⟩ := by
                  rcases row_sliceN HFS.out with ⟨_, h0⟩ | ⟨gf, cap, e1, _⟩
                  · omega
                  · exact ⟨gf, by injection e1⟩
                have HZ := Lib.hid (fun (W : World) (hb : Below w8.heap.size w8 W) => And.intro (own_cell (own_below HWS.out hb) k3 (.int .i64 (g.1 : Int)) (by rw [List.getElem?_map, hg]; rfl)) (own_cell (own_below HFS.out hb) k3 (.string (sgB g)) (by rw [List.getElem?_map, hg]; rfl)))
                have CF' : ∀ W : World, Calls Tryz.prog 17 #[.string (sgB g)] W fun e w' => ∃ ad c, e = .returned (.tuple #[.slice (some ad) (q + 1) c, .int .i64 ((sgB g).size : Nat), .int .i64 er]) ∧ w'.cell? (ad.add (q * 2)) = some (.int .i64 ((g.1 + q : Nat) : Int)) ∧ Below W.heap.size W w' := fun W => by
                  refine (ref_All6 (sgB g) (by omega) W).mono ?_
                  rw [hall]
                  rintro e w' ⟨A9, c9, rfl, hrf, hb, _⟩
                  obtain ⟨dd, hdd⟩ : ∃ dd, g.2[q]? = some dd := ⟨g.2[q], List.getElem?_eq_getElem (by omega)⟩
                  obtain ⟨ad, rfl, _, z, _⟩ := hrf q (((g.1 + q : Nat) : Int), dd.data.toList) (by rw [frs_get, hdd]; rfl)
                  exact ⟨ad, c9, by rw [frs_len, hq], z, hb⟩
                have CF := Lib.hid CF'
                obtain ⟨last, hlast⟩ : ∃ last : Int, last = ((g.1 + q : Nat) : Int) := ⟨_, rfl⟩
                rw [← hlast] at CF
                obtain ⟨z1, z2⟩ := HZ.out _ hb9
                have hi3 : (k3 : Int) < (G.length : Int) := by omega
                by_cases hkK : k3 < K
                · have hlow := HW.out.low k3 hkK g hg
                  have g30 : (k3 : Int) < (K : Int) := by omega
                  have g31 : ¬ seq < last := by omega
                  have g32 : ((k3 : Int) == (K : Int)) = false := by simp; omega
                  have g33 : ¬ (K : Int) ≤ (k3 : Int) := by omega
                  clear hg hq hall hlow hlast hkK hlt3
                  generalize sgB g = sg at *
                  go_wp2_with (go_at_call 17; (with_reducible refine (CF.out _).mono ?_); rintro e w10 ⟨af, cf, rfl, zf, b10⟩)
                  exact ⟨⟨k3 + 1, by omega, by go_num, below_step b10 hb9⟩, by show G.length - ((k3 : Int) + 1).toNat < G.length - ((k3 : Int)).toNat; omega⟩
                · obtain ⟨q3, hq3⟩ : ∃ q3, k3 = K + q3 := ⟨k3 - K, by omega⟩
                  have hrr := HRR.out
                  have g30 : ¬ (k3 : Int) < (K : Int) := by omega
                  have g33 : (K : Int) ≤ (k3 : Int) := by omega
                  have hidx : (k3 : Int) - (K : Int) = (q3 : Int) := by omega
                  have hi4 : (q3 : Int) < (r : Int) := by omega
                  have hi5 : q3 < r := by omega
                  obtain ⟨gn, rfl⟩ : ∃ gn, A8 = some ⟨gn, 0, none⟩ := by
                    rcases row_sliceN HNS.out with ⟨_, h0⟩ | ⟨gn, cap, e1, _⟩
                    · omega
                    · exact ⟨gn, by injection e1⟩
                  have HZN := Lib.hid (fun (W : World) (hb : Below w8.heap.size w8 W) => own_cell (own_below HNS.out hb) q3 (.int .i64 (g.1 : Int)) (by rw [List.getElem?_drop, ← hq3, List.getElem?_map, hg]; rfl))
                  have COg := Lib.hid (CO.out k3 g hg)
                  have CRg := Lib.hid (CR2.out k3 g (by omega) hg)
                  have hfin : k3 + 1 ≤ G.length := by omega
                  by_cases hK0 : k3 = K
                  · have g32 : ((k3 : Int) == (K : Int)) = true := by simp; omega
                    by_cases hlast3 : k3 + 1 < G.length
                    · have hhigh := HW.out.high (by omega) g (by rw [← hK0]; exact hg)
                      have g34 : (k3 : Int) + 1 < (G.length : Int) := by omega
                      have g35 : ¬ last ≤ seq := by omega
                      clear hg hq hall hhigh hlast hkK hlt3 hK0 hlast3 hrr hq3
                      generalize sgB g = sg at *
                      generalize tB (g.1 : Int) = tg at *
                      ((go_wp2_with (first | (go_at_call 17; (with_reducible refine (CF.out _).mono ?_); rintro e w10 ⟨af, cf, rfl, zf, b10⟩; have hb10 := below_step b10 hb9; obtain ⟨y1, y2⟩ := HZ.out _ hb10; have y3 := HZN.out _ hb10) | (go_at_call 15; (with_reducible refine (COg.out _).mono ?_); rintro e w11 ⟨rfl, b11⟩; have hb11 := below_step b11 hb10) | (go_at_call 14; (with_reducible refine (CRg.out _ _ _ (l8.kept hb11).dk).mono ?_); rintro e w12 ⟨rfl, b12⟩; have hb12 := below_step b12 hb11; obtain ⟨x1, x2⟩ := HZ.out _ hb12; have x3 := HZN.out _ hb12))); have HB12 := Lib.hid hb12; clear y1 y2 y3 z1 z2 zf b10 b11 b12 hb9 hb10 hb11 hb12 l9 B9; (go_quiet (fail)); (go_wp2_with fail); exact ⟨⟨k3 + 1, hfin, by go_num, below_drewN HB12.out _⟩, by show G.length - ((k3 : Int) + 1).toNat < G.length - ((k3 : Int)).toNat; omega⟩)
                    · have g34 : ¬ (k3 : Int) + 1 < (G.length : Int) := by omega
                      clear hg hq hall hlast hkK hlt3 hK0 hlast3 hrr hq3
                      generalize sgB g = sg at *
                      generalize tB (g.1 : Int) = tg at *
                      ((go_wp2_with (first | (go_at_call 17; (with_reducible refine (CF.out _).mono ?_); rintro e w10 ⟨af, cf, rfl, zf, b10⟩; have hb10 := below_step b10 hb9; obtain ⟨y1, y2⟩ := HZ.out _ hb10; have y3 := HZN.out _ hb10) | (go_at_call 15; (with_reducible refine (COg.out _).mono ?_); rintro e w11 ⟨rfl, b11⟩; have hb11 := below_step b11 hb10) | (go_at_call 14; (with_reducible refine (CRg.out _ _ _ (l8.kept hb11).dk).mono ?_); rintro e w12 ⟨rfl, b12⟩; have hb12 := below_step b12 hb11; obtain ⟨x1, x2⟩ := HZ.out _ hb12; have x3 := HZN.out _ hb12))); have HB12 := Lib.hid hb12; clear y1 y2 y3 z1 z2 zf b10 b11 b12 hb9 hb10 hb11 hb12 l9 B9; (go_quiet (fail)); (go_wp2_with fail); exact ⟨⟨k3 + 1, hfin, by go_num, below_drewN HB12.out _⟩, by show G.length - ((k3 : Int) + 1).toNat < G.length - ((k3 : Int)).toNat; omega⟩)
                  · have g32 : ((k3 : Int) == (K : Int)) = false := by simp; omega
                    clear hg hq hall hlast hkK hlt3 hK0 hrr hq3
                    generalize sgB g = sg at *
                    generalize tB (g.1 : Int) = tg at *
                    ((go_wp2_with (first | (go_at_call 17; (with_reducible refine (CF.out _).mono ?_); rintro e w10 ⟨af, cf, rfl, zf, b10⟩; have hb10 := below_step b10 hb9; obtain ⟨y1, y2⟩ := HZ.out _ hb10; have y3 := HZN.out _ hb10) | (go_at_call 15; (with_reducible refine (COg.out _).mono ?_); rintro e w11 ⟨rfl, b11⟩; have hb11 := below_step b11 hb10) | (go_at_call 14; (with_reducible refine (CRg.out _ _ _ (l8.kept hb11).dk).mono ?_); rintro e w12 ⟨rfl, b12⟩; have hb12 := below_step b12 hb11; obtain ⟨x1, x2⟩ := HZ.out _ hb12; have x3 := HZN.out _ hb12))); have HB12 := Lib.hid hb12; clear y1 y2 y3 z1 z2 zf b10 b11 b12 hb9 hb10 hb11 hb12 l9 B9; (go_quiet (fail)); (go_wp2_with fail); exact ⟨⟨k3 + 1, hfin, by go_num, below_drewN HB12.out _⟩, by show G.length - ((k3 : Int) + 1).toNat < G.length - ((k3 : Int)).toNat; omega⟩)
              · have hi3 : ¬ (k3 : Int) < (G.length : Int) := by omega
                go_wp2_with (go_at_call 8; (with_reducible refine (HA.out _ B9).mono ?_); rintro e y1 ⟨rfl, b1⟩)
                go_ret
                exact ⟨rfl, b1⟩
end Go.Proofs.YtcpmicinibfepaaGreatDoor

namespace Go.Proofs.YtcpmicinibfepaaGreatDoor
open Go.ChangeShapes Go.WideShapes Go.ChangeAt Go.RowKit Go.Deep DiskP NameP


set_option maxRecDepth 100000 in
theorem law32_WalTrims (size : Int) (hsize : I64 size) (seq : Int) (a : SlWa) (w : World) (ht : TabW w) (ha : a.Ok w) :
    Calls Tryz.prog 3 #[.int .i64 size, .slice a.A a.l.length a.c, .int .i64 seq] w fun e w' => e = .returned (.bool true) ∧ Below w.heap.size w w' := by
  by_cases hf : fewW a.l
  · exact law32_WalTrims_few size hsize seq a w ht ha hf
  · obtain ⟨h1, h2, h3, h4, h5⟩ := ha
    have HF := Lib.hid (ref32_Few_no a.A a.c a.l h1 (fun p hp => (h4 p hp).2.2) hf w h5)
    have HA := Lib.hid (law32_awake w ht)
    clear h5 h4 hf ht
    go_enter Tryz.func3, Tryz.ntmps3
    go_wp2_with (first
      | (go_at_call 7; (with_reducible refine (HF.out).mono ?_); rintro e w0 ⟨rfl, rfl⟩)
      | (go_at_call 8; (with_reducible refine (HA.out).mono ?_); rintro e y1 ⟨rfl, b1⟩))
    go_ret
    exact ⟨rfl, b1⟩
end Go.Proofs.YtcpmicinibfepaaGreatDoor
