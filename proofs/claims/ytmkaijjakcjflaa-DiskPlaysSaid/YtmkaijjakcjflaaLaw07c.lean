/- Layer 7: DiskRoom. -/
import Derived.Test.YtmkaijjakcjflaaLaw07b
namespace Go.Proofs.Ytmkaijjakcjflaa
open Go.ChangeShapes Go.WideShapes Go.ChangeAt Go.RowKit Go.Deep DiskP

/-- a new disk -/
theorem new_inv (R : Int) (h : 0 ≤ R ∧ R ≤ 9223372036854775807) : DInv R 0 0 ⟨[], R, true, true, -1, 0⟩ := by
  refine ⟨by simp [Sorted], by simp, by simp, ?_, ⟨rfl, h⟩, rfl, by simp [used], by simp, by simp⟩
  simp only [used, List.map_nil, List.sum_nil]; omega
theorem used_room {R : Int} {i j : Nat} {S : DS} (h : DInv R i j S) : (used S.fs : Int) ≤ R := by
  have := h.full
  rw [h.room.1] at this
  exact this

set_option maxRecDepth 100000 in
set_option maxHeartbeats 8000000 in
theorem law07_DiskRoom_few (room R : Int) (hR : R = max room 0) (hroom : I64 room) (A0 : Option Addr) (c0 : Nat) (l : List Ac) (hok : ∀ x ∈ l, x.Ok) (hf : fewA 90 l) (w : World) (hr : RdA w w.heap.size A0 l) :
    Calls Try.prog 5 #[.int .i64 room, .slice A0 l.length c0] w fun e w' => e = .returned (.bool true) ∧ Below w.heap.size w w' := by
  have HR := Lib.hid hr
  have HF := Lib.hid hf
  have HK := Lib.hid hok
  have hl := hf.1
  unfold I64 at hroom
  have hRR : 0 ≤ R ∧ R ≤ 9223372036854775807 := by omega
  have hmax : max room 0 = R := hR.symm
  have P0 : Calls Try.prog 6 #[.slice A0 l.length c0, .int .i64 90] w fun e w' => e = .returned (.bool true) ∧ Below w.heap.size w w' := ref7_Few_yes A0 c0 l 90 (by decide) hf w hr
  have P1 := fun W => disk_New room W
  simp only [hmax] at P1
  have H0 := Lib.hid P0
  have H1 := Lib.hid P1
  have HI := Lib.hid (new_inv R hRR)
  clear P0 P1 hR hr hok hf
  go_enter Try.func5, Try.ntmps5
  go_wp2_with (first
    | (go_at_call 6; (with_reducible refine (H0.out).mono ?_); rintro e w1 ⟨rfl, b1⟩)
    | (go_at_call 8; (with_reducible refine (H1.out _).mono ?_); rintro e w2 ⟨rfl, d2, b2⟩))
  have hd1 : w.heap.size ≤ w1.heap.size := b1.size
  obtain ⟨d, hd⟩ : ∃ d, d = w1.heap.size := ⟨_, rfl⟩
  rw [← hd] at d2 b2 hd1 ⊢
  have b12 : Below w.heap.size w w2 := b1.trans (b2.mono hd1)
  clear hd b1 b2
  go_loopw [6] (fun i wr => ∃ (k : Nat) (A : Option Addr) (c : Nat) (S : DS), k ≤ l.length ∧ i = .int .i64 k ∧ Dk d A c S wr ∧ DInv R k k S ∧ Below w.heap.size w wr) (fun i _ => l.length - (intOf i).toNat)
  case atStart => exact ⟨0, none, 0, _, by omega, rfl, d2, HI.out, b12⟩
  case round =>
    obtain ⟨k, A, c, S, hk, rfl, hD, hI, hb⟩ := hrel
    by_cases hlt : k < l.length
    · obtain ⟨x, hk'⟩ : ∃ f, l[k]? = some f := ⟨l[k], List.getElem?_eq_getElem hlt⟩
      obtain ⟨ad, rfl, hadl, y0, y1, y2, y3, y4, y5, yk⟩ := HR.out.below hb k x hk'
      have hx := HK.out x (List.mem_of_getElem? hk')
      have hsm := HF.out.2 x (List.mem_of_getElem? hk')
      have hi1 : (k : Int) < (l.length : Int) := by omega
      have hS := hI.ok (by omega) (by omega)
      have hm := hS.many
      have hsz := hS.size
      have hu := used_room hI
      have hop := hI.ops
      obtain ⟨hT, ho1, ho2⟩ := actD_inv hI x (by have := hsm.1; omega) (by have := hx.n; unfold I64 at this; omega)
      have hoff := fun h1 h2 => actD_off (S := S) x h1 h2
      have PD := fun A c W h hks => law07_do d A c S hS hI.made x hx hsm W h hks
      have PU := fun W h => disk_Used d A c S (by omega) (by omega) W h
      have PN := fun W h => disk_Names d A c S (by omega) W h
      obtain ⟨T, v, hTv⟩ : ∃ T v, actD S x = (T, v) := ⟨_, _, rfl⟩
      simp only [hTv] at hT ho1 ho2 hoff PD
      have hT' := hT.ok (by omega) (by omega)
      have hm' := hT'.many
      have hsz' := hT'.size
      have hu' := used_room hT
      have PU' := fun A c W h => disk_Used d A c T (by omega) (by omega) W h
      have PN' := fun A c W h => disk_Names d A c T (by omega) W h
      have HPD := Lib.hid PD
      have HPU := Lib.hid PU
      have HPN := Lib.hid PN
      have HPU' := Lib.hid PU'
      have HPN' := Lib.hid PN'
      have HOFF := Lib.hid hoff
      have HT := Lib.hid hT
      have HYK := Lib.hid (fun W (hW : Below w.heap.size w W) => ((HR.out.below hW).more hd1 k x hk').choose_spec.2.2.2.2.2.2.2.2)
      have HK' := Lib.hid hk'
      have HX := Lib.hid hx
      have hc0 : ∀ W, Below w.heap.size w W → W.cell? (ad.add (k * 6)) = some (.int .i64 x.kind) := fun W hW => by
        obtain ⟨ad', e, _, z0, _⟩ := HR.out.below hW k x hk'
        obtain rfl : ad = ad' := Option.some.inj e
        exact z0
      have HC := Lib.hid hc0
      clear PD PU PN PU' PN' hoff hT yk hx hsm hc0 hTv hI hS hT' hk' d2 hsz hsz'
      cases hon : S.on with
      | true =>
        go_wp2_with (first | (go_at_call 11; (with_reducible refine (disk_On d A c S _ hD).mono ?_); rintro e wa ⟨rfl, rfl⟩; rw [hon]) | (go_at_call 16; (with_reducible refine (HPU.out _ hD).mono ?_); rintro e u1 ⟨rfl, b1⟩; have d1 := hD.kept b1; have q1 := hb.trans (b1.mono hb.size)) | (go_at_call 19; (with_reducible refine (HPN.out _ d1).mono ?_); rintro e u2 ⟨A2, c2, rfl, _, b2⟩; have d2 := d1.kept b2; have q2 := q1.trans (b2.mono q1.size)) | (go_at_call 15; (with_reducible refine (disk_Ops d A c S _ d2).mono ?_); rintro e wa ⟨rfl, rfl⟩; obtain ⟨ad', e', _, z0, z1, z2, z3, z4, z5, zk⟩ := HR.out.below q2 k x HK'.out; obtain rfl : ad = ad' := Option.some.inj e'; clear e' zk) | (go_at_call 9; (with_reducible refine (HPD.out _ _ _ d2 (HYK.out u2 q2)).mono ?_); rintro e u3 ⟨rfl, A3, c3, d3, k3⟩; have q3 := q2.trans (k3.below.mono hd1); have s3 := HC.out _ q3) | (go_at_call 16; (with_reducible refine (HPU'.out _ _ _ d3).mono ?_); rintro e u4 ⟨rfl, b4⟩; have d4 := d3.kept b4; have q4 := q3.trans (b4.mono q3.size)) | (go_at_call 19; (with_reducible refine (HPN'.out _ _ _ d4).mono ?_); rintro e u5 ⟨A5, c5, rfl, _, b5⟩; have d5 := d4.kept b5; have q5 := q4.trans (b5.mono q4.size); have s5 := HC.out _ q5) | (go_at_call 15; (with_reducible refine (disk_Ops d _ _ _ _ d5).mono ?_); rintro e wa ⟨rfl, rfl⟩))
        refine ⟨⟨k + 1, A3, c3, T, by omega, by go_num, d5, HT.out, q5⟩, by show l.length - ((k : Int) + 1).toNat < l.length - ((k : Int)).toNat; omega⟩
      | false =>
        by_cases h8 : x.kind = 8
        · rw [h8] at HPD
          go_wp2_with (first | (go_at_call 11; (with_reducible refine (disk_On d A c S _ hD).mono ?_); rintro e wa ⟨rfl, rfl⟩; rw [hon]) | (go_at_call 16; (with_reducible refine (HPU.out _ hD).mono ?_); rintro e u1 ⟨rfl, b1⟩; have d1 := hD.kept b1; have q1 := hb.trans (b1.mono hb.size)) | (go_at_call 19; (with_reducible refine (HPN.out _ d1).mono ?_); rintro e u2 ⟨A2, c2, rfl, _, b2⟩; have d2 := d1.kept b2; have q2 := q1.trans (b2.mono q1.size)) | (go_at_call 15; (with_reducible refine (disk_Ops d A c S _ d2).mono ?_); rintro e wa ⟨rfl, rfl⟩; obtain ⟨ad', e', _, z0, z1, z2, z3, z4, z5, zk⟩ := HR.out.below q2 k x HK'.out; obtain rfl : ad = ad' := Option.some.inj e'; clear e' zk) | (go_at_call 9; (with_reducible refine (HPD.out _ _ _ d2 (HYK.out u2 q2)).mono ?_); rintro e u3 ⟨rfl, A3, c3, d3, k3⟩; have q3 := q2.trans (k3.below.mono hd1); have s3 := HC.out _ q3) | (go_at_call 16; (with_reducible refine (HPU'.out _ _ _ d3).mono ?_); rintro e u4 ⟨rfl, b4⟩; have d4 := d3.kept b4; have q4 := q3.trans (b4.mono q3.size)) | (go_at_call 19; (with_reducible refine (HPN'.out _ _ _ d4).mono ?_); rintro e u5 ⟨A5, c5, rfl, _, b5⟩; have d5 := d4.kept b5; have q5 := q4.trans (b5.mono q4.size); have s5 := HC.out _ q5) | (go_at_call 15; (with_reducible refine (disk_Ops d _ _ _ _ d5).mono ?_); rintro e wa ⟨rfl, rfl⟩))
          refine ⟨⟨k + 1, A3, c3, T, by omega, by go_num, d5, HT.out, q5⟩, by show l.length - ((k : Int) + 1).toNat < l.length - ((k : Int)).toNat; omega⟩
        · obtain ⟨o1, o2, o3, o4⟩ := HOFF.out hon h8
          obtain ⟨fs', room', made', on', fuse', ops'⟩ := T
          simp only at o1 o2 o3
          subst o1 o2 o3
          by_cases g1 : 1 ≤ x.kind
          · by_cases g5 : x.kind ≤ 5
            · obtain rfl := o4 g1 g5
              go_wp2_with (first | (go_at_call 11; (with_reducible refine (disk_On d A c S _ hD).mono ?_); rintro e wa ⟨rfl, rfl⟩; rw [hon]) | (go_at_call 16; (with_reducible refine (HPU.out _ hD).mono ?_); rintro e u1 ⟨rfl, b1⟩; have d1 := hD.kept b1; have q1 := hb.trans (b1.mono hb.size)) | (go_at_call 19; (with_reducible refine (HPN.out _ d1).mono ?_); rintro e u2 ⟨A2, c2, rfl, _, b2⟩; have d2 := d1.kept b2; have q2 := q1.trans (b2.mono q1.size)) | (go_at_call 15; (with_reducible refine (disk_Ops d A c S _ d2).mono ?_); rintro e wa ⟨rfl, rfl⟩; obtain ⟨ad', e', _, z0, z1, z2, z3, z4, z5, zk⟩ := HR.out.below q2 k x HK'.out; obtain rfl : ad = ad' := Option.some.inj e'; clear e' zk) | (go_at_call 9; (with_reducible refine (HPD.out _ _ _ d2 (HYK.out u2 q2)).mono ?_); rintro e u3 ⟨rfl, A3, c3, d3, k3⟩; have q3 := q2.trans (k3.below.mono hd1); have s3 := HC.out _ q3) | (go_at_call 16; (with_reducible refine (HPU'.out _ _ _ d3).mono ?_); rintro e u4 ⟨rfl, b4⟩; have d4 := d3.kept b4; have q4 := q3.trans (b4.mono q3.size)) | (go_at_call 19; (with_reducible refine (HPN'.out _ _ _ d4).mono ?_); rintro e u5 ⟨A5, c5, rfl, _, b5⟩; have d5 := d4.kept b5; have q5 := q4.trans (b5.mono q4.size); have s5 := HC.out _ q5) | (go_at_call 15; (with_reducible refine (disk_Ops d _ _ _ _ d5).mono ?_); rintro e wa ⟨rfl, rfl⟩) | (go_at_call 11; (with_reducible refine (disk_On d _ _ _ _ d5).mono ?_); rintro e wa ⟨rfl, rfl⟩) | (go_at_call 16; (with_reducible refine (HPU'.out _ _ _ d5).mono ?_); rintro e u6 ⟨rfl, b6⟩; have d6 := d5.kept b6; have q6 := q5.trans (b6.mono q5.size)) | (go_at_call 19; (with_reducible refine (HPN'.out _ _ _ d6).mono ?_); rintro e u7 ⟨A7, c7, rfl, _, b7⟩; have d7 := d6.kept b7; have q7 := q6.trans (b7.mono q6.size); have s7 := HC.out _ q7) | (go_at_call 15; (with_reducible refine (disk_Ops d _ _ _ _ d7).mono ?_); rintro e wa ⟨rfl, rfl⟩))
              refine ⟨⟨k + 1, A3, c3, _, by omega, by go_num, d7, HT.out, q7⟩, by show l.length - ((k : Int) + 1).toNat < l.length - ((k : Int)).toNat; omega⟩
            · go_wp2_with (first | (go_at_call 11; (with_reducible refine (disk_On d A c S _ hD).mono ?_); rintro e wa ⟨rfl, rfl⟩; rw [hon]) | (go_at_call 16; (with_reducible refine (HPU.out _ hD).mono ?_); rintro e u1 ⟨rfl, b1⟩; have d1 := hD.kept b1; have q1 := hb.trans (b1.mono hb.size)) | (go_at_call 19; (with_reducible refine (HPN.out _ d1).mono ?_); rintro e u2 ⟨A2, c2, rfl, _, b2⟩; have d2 := d1.kept b2; have q2 := q1.trans (b2.mono q1.size)) | (go_at_call 15; (with_reducible refine (disk_Ops d A c S _ d2).mono ?_); rintro e wa ⟨rfl, rfl⟩; obtain ⟨ad', e', _, z0, z1, z2, z3, z4, z5, zk⟩ := HR.out.below q2 k x HK'.out; obtain rfl : ad = ad' := Option.some.inj e'; clear e' zk) | (go_at_call 9; (with_reducible refine (HPD.out _ _ _ d2 (HYK.out u2 q2)).mono ?_); rintro e u3 ⟨rfl, A3, c3, d3, k3⟩; have q3 := q2.trans (k3.below.mono hd1); have s3 := HC.out _ q3) | (go_at_call 16; (with_reducible refine (HPU'.out _ _ _ d3).mono ?_); rintro e u4 ⟨rfl, b4⟩; have d4 := d3.kept b4; have q4 := q3.trans (b4.mono q3.size)) | (go_at_call 19; (with_reducible refine (HPN'.out _ _ _ d4).mono ?_); rintro e u5 ⟨A5, c5, rfl, _, b5⟩; have d5 := d4.kept b5; have q5 := q4.trans (b5.mono q4.size); have s5 := HC.out _ q5) | (go_at_call 15; (with_reducible refine (disk_Ops d _ _ _ _ d5).mono ?_); rintro e wa ⟨rfl, rfl⟩) | (go_at_call 11; (with_reducible refine (disk_On d _ _ _ _ d5).mono ?_); rintro e wa ⟨rfl, rfl⟩) | (go_at_call 16; (with_reducible refine (HPU'.out _ _ _ d5).mono ?_); rintro e u6 ⟨rfl, b6⟩; have d6 := d5.kept b6; have q6 := q5.trans (b6.mono q5.size)) | (go_at_call 19; (with_reducible refine (HPN'.out _ _ _ d6).mono ?_); rintro e u7 ⟨A7, c7, rfl, _, b7⟩; have d7 := d6.kept b7; have q7 := q6.trans (b7.mono q6.size); have s7 := HC.out _ q7) | (go_at_call 15; (with_reducible refine (disk_Ops d _ _ _ _ d7).mono ?_); rintro e wa ⟨rfl, rfl⟩))
              refine ⟨⟨k + 1, A3, c3, _, by omega, by go_num, d7, HT.out, q7⟩, by show l.length - ((k : Int) + 1).toNat < l.length - ((k : Int)).toNat; omega⟩
          · go_wp2_with (first | (go_at_call 11; (with_reducible refine (disk_On d A c S _ hD).mono ?_); rintro e wa ⟨rfl, rfl⟩; rw [hon]) | (go_at_call 16; (with_reducible refine (HPU.out _ hD).mono ?_); rintro e u1 ⟨rfl, b1⟩; have d1 := hD.kept b1; have q1 := hb.trans (b1.mono hb.size)) | (go_at_call 19; (with_reducible refine (HPN.out _ d1).mono ?_); rintro e u2 ⟨A2, c2, rfl, _, b2⟩; have d2 := d1.kept b2; have q2 := q1.trans (b2.mono q1.size)) | (go_at_call 15; (with_reducible refine (disk_Ops d A c S _ d2).mono ?_); rintro e wa ⟨rfl, rfl⟩; obtain ⟨ad', e', _, z0, z1, z2, z3, z4, z5, zk⟩ := HR.out.below q2 k x HK'.out; obtain rfl : ad = ad' := Option.some.inj e'; clear e' zk) | (go_at_call 9; (with_reducible refine (HPD.out _ _ _ d2 (HYK.out u2 q2)).mono ?_); rintro e u3 ⟨rfl, A3, c3, d3, k3⟩; have q3 := q2.trans (k3.below.mono hd1); have s3 := HC.out _ q3) | (go_at_call 16; (with_reducible refine (HPU'.out _ _ _ d3).mono ?_); rintro e u4 ⟨rfl, b4⟩; have d4 := d3.kept b4; have q4 := q3.trans (b4.mono q3.size)) | (go_at_call 19; (with_reducible refine (HPN'.out _ _ _ d4).mono ?_); rintro e u5 ⟨A5, c5, rfl, _, b5⟩; have d5 := d4.kept b5; have q5 := q4.trans (b5.mono q4.size); have s5 := HC.out _ q5) | (go_at_call 15; (with_reducible refine (disk_Ops d _ _ _ _ d5).mono ?_); rintro e wa ⟨rfl, rfl⟩) | (go_at_call 11; (with_reducible refine (disk_On d _ _ _ _ d5).mono ?_); rintro e wa ⟨rfl, rfl⟩) | (go_at_call 16; (with_reducible refine (HPU'.out _ _ _ d5).mono ?_); rintro e u6 ⟨rfl, b6⟩; have d6 := d5.kept b6; have q6 := q5.trans (b6.mono q5.size)) | (go_at_call 19; (with_reducible refine (HPN'.out _ _ _ d6).mono ?_); rintro e u7 ⟨A7, c7, rfl, _, b7⟩; have d7 := d6.kept b7; have q7 := q6.trans (b7.mono q6.size); have s7 := HC.out _ q7) | (go_at_call 15; (with_reducible refine (disk_Ops d _ _ _ _ d7).mono ?_); rintro e wa ⟨rfl, rfl⟩))
            refine ⟨⟨k + 1, A3, c3, _, by omega, by go_num, d7, HT.out, q7⟩, by show l.length - ((k : Int) + 1).toNat < l.length - ((k : Int)).toNat; omega⟩
    · have hi1 : ¬ (k : Int) < (l.length : Int) := by omega
      go_wp2_with (go_at_call 7; (with_reducible refine (law07_awake _).mono ?_); rintro e w9 ⟨rfl, b9⟩)
      go_ret
      exact ⟨rfl, hb.trans (b9.mono hb.size)⟩
set_option maxRecDepth 100000 in
theorem law07_DiskRoom (room : Int) (hroom : I64 room) (a : SlA) (w : World) (ha : a.Ok w) :
    Calls Try.prog 5 #[.int .i64 room, .slice a.A a.l.length a.c] w fun e w' => e = .returned (.bool true) ∧ Below w.heap.size w w' := by
  obtain ⟨A, c, l⟩ := a
  obtain ⟨h1, h2, h3, h4⟩ := ha
  by_cases hf : fewA 90 l
  · exact law07_DiskRoom_few room (max room 0) rfl hroom A c l h3 hf w h4
  · have P0 : Calls Try.prog 6 #[.slice A l.length c, .int .i64 90] w fun e w' => e = .returned (.bool false) ∧ Below w.heap.size w w' := ref7_Few_no A c l h1 90 (by decide) hf w h4
    have H0 := Lib.hid P0
    clear P0 h4 h3 hf
    simp only
    go_enter Try.func5, Try.ntmps5
    go_wp2_with (first
      | (go_at_call 6; (with_reducible refine (H0.out).mono ?_); rintro e w1 ⟨rfl, b1⟩)
      | (go_at_call 7; (with_reducible refine (law07_awake _).mono ?_); rintro e w9 ⟨rfl, b9⟩))
    go_ret
    exact ⟨rfl, b1.trans (b9.mono b1.size)⟩
end Go.Proofs.Ytmkaijjakcjflaa
