/- Layer 7: DiskSure. -/
import Derived.Test.YtmkaijjakcjflaaSureP
import Derived.Test.YtmkaijjakcjflaaLaw07c
namespace Go.Proofs.Ytmkaijjakcjflaa
open Go.ChangeShapes Go.WideShapes Go.ChangeAt Go.RowKit Go.Deep DiskP

/-- what is read of a pair that must be there -/
theorem sure_read {T : DS} {L : List (ByteArray × ByteArray)} (hs : Sorted T.fs) (hsu : ∀ f ∈ T.fs, f.su ≤ f.all.size) (hon : T.on = true) (h : SureF T.fs L) {p : ByteArray × ByteArray} (hp : p ∈ L) :
    ∃ all : ByteArray, readD T p.1 = (all, 0) ∧ p.2.size ≤ all.size ∧ all.extract 0 p.2.size = p.2 := by
  obtain ⟨f, hf, e, k⟩ := h p hp
  have := read_at hs hon hf
  rw [e] at this
  exact ⟨f.all, this, Nat.le_trans k.1 (hsu f hf), k.2⟩

set_option maxRecDepth 100000 in
set_option maxHeartbeats 8000000 in
theorem law07_DiskSure_few (room R : Int) (hR : R = max room 0) (hroom : I64 room) (A0 : Option Addr) (c0 : Nat) (l : List Ac) (hok : ∀ x ∈ l, x.Ok) (hf : fewA 40 l) (w : World) (hr : RdA w w.heap.size A0 l) :
    Calls Try.prog 3 #[.int .i64 room, .slice A0 l.length c0] w fun e w' => e = .returned (.bool true) ∧ Below w.heap.size w w' := by
  have HR := Lib.hid hr
  have HF := Lib.hid hf
  have HK := Lib.hid hok
  have hl := hf.1
  unfold I64 at hroom
  have hRR : 0 ≤ R ∧ R ≤ 9223372036854775807 := by omega
  have hmax : max room 0 = R := hR.symm
  have P0 : Calls Try.prog 6 #[.slice A0 l.length c0, .int .i64 40] w fun e w' => e = .returned (.bool true) ∧ Below w.heap.size w w' := ref7_Few_yes A0 c0 l 40 (by decide) hf w hr
  have P1 := fun W => disk_New room W
  simp only [hmax] at P1
  have H0 := Lib.hid P0
  have H1 := Lib.hid P1
  have HI := Lib.hid (new_inv R hRR)
  clear P0 P1 hR hr hok hf
  go_enter Try.func3, Try.ntmps3
  go_wp2_with (first
    | (go_at_call 6; (with_reducible refine (H0.out).mono ?_); rintro e w1 ⟨rfl, b1⟩)
    | (go_at_call 8; (with_reducible refine (H1.out _).mono ?_); rintro e w2 ⟨rfl, d2, b2⟩))
  have hd1 : w.heap.size ≤ w1.heap.size := b1.size
  obtain ⟨d, hd⟩ : ∃ d, d = w1.heap.size := ⟨_, rfl⟩
  rw [← hd] at d2 b2 hd1 ⊢
  have b12 : Below w.heap.size w (w2.alloc (.cells #[.slice none 0 0, .slice none 0 0] 30)) := (b1.trans (b2.mono hd1)).alloc (by have := d2.lt; omega) _
  have hds : d < w2.heap.size := d2.lt
  have d3 := d2.kept (alloc_kept w2 (.cells #[.slice none 0 0, .slice none 0 0] 30))
  have r3 : Sr w2.heap.size none none 0 0 [] (w2.alloc (.cells #[.slice none 0 0, .slice none 0 0] 30)) := ⟨heap_alloc_new _ _, World.ownsRow_nil _ _ _ _, World.ownsRow_nil _ _ _ _, by simp [Value.ownBlock]⟩
  obtain ⟨s, hs⟩ : ∃ s, s = w2.heap.size := ⟨_, rfl⟩
  rw [← hs] at r3 hds ⊢
  clear hd b1 b2 hs d2
  go_loopw [7] (fun i wr => ∃ (k : Nat) (A : Option Addr) (c : Nat) (S : DS) (A1 A2 : Option Addr) (c1 c2 : Nat) (L : List (ByteArray × ByteArray)), k ≤ l.length ∧ i = .int .i64 k ∧ Dk d A c S wr ∧ DInv R k k S ∧ Sr s A1 A2 c1 c2 L wr ∧ L.length ≤ k ∧ SureF S.fs L ∧ Below w.heap.size w wr) (fun i _ => l.length - (intOf i).toNat)
  case atStart => exact ⟨0, none, 0, _, none, none, 0, 0, [], by omega, rfl, d3, HI.out, r3, by simp, by simp [SureF], b12⟩
  case round =>
    obtain ⟨k, A, c, S, A1, A2, c1, c2, L, hk, rfl, hD, hI, hSr, hLk, hSure, hb⟩ := hrel
    by_cases hlt : k < l.length
    · obtain ⟨x, hk'⟩ : ∃ f, l[k]? = some f := ⟨l[k], List.getElem?_eq_getElem hlt⟩
      obtain ⟨ad, rfl, hadl, y0, y1, y2, y3, y4, y5, yk⟩ := HR.out.below hb k x hk'
      have hx := HK.out x (List.mem_of_getElem? hk')
      have hsm := HF.out.2 x (List.mem_of_getElem? hk')
      have hi1 : (k : Int) < (l.length : Int) := by omega
      have hS := hI.ok (by omega) (by omega)
      obtain ⟨hT, ho1, ho2⟩ := actD_inv hI x (by have := hsm.1; omega) (by have := hx.n; unfold I64 at this; omega)
      obtain ⟨hsu1, hsu2⟩ := actD_sure hS.sorted hS.sure hSure x
      have PD := law07_do d A c S hS hI.made x hx hsm wr hD (yk.more hd1)
      obtain ⟨T, v, hTv⟩ : ∃ T v, actD S x = (T, v) := ⟨_, _, rfl⟩
      simp only [hTv] at hT ho1 ho2 PD hsu1 hsu2
      have hT' := hT.ok (by omega) (by omega)
      have PREAD := fun A c nm W h => disk_Read d A c T nm hT'.sorted (by have := hT'.many; omega) W h
      have HPD := Lib.hid PD
      have HPNOTE := Lib.hid (fun (h25 : 2 ≤ x.kind ∧ x.kind ≤ 5) A c A1 A2 c1 c2 W hD h => law07_note d s c c1 c2 A A1 A2 T hT' L (by omega) x h25 W hD h)
      have HREAD := Lib.hid PREAD
      have HT := Lib.hid hT
      have HSR := Lib.hid (fun M (hM : SureF T.fs M) (hon : T.on = true) p (hp : p ∈ M) => sure_read hT'.sorted hT'.sure hon hM hp)
      have HU1 := Lib.hid hsu1
      have HU2 := Lib.hid hsu2
      have HSr := Lib.hid hSr
      have hnl := noteL_len T L x
      have HCE := Lib.hid (fun (W : World) (hW : Below w.heap.size w W) => by
        obtain ⟨ad', e, _, z0, z1, z2, z3, z4, z5, _⟩ := HR.out.below hW k x hk'
        obtain rfl : ad = ad' := Option.some.inj e
        exact (And.intro z0 (And.intro z1 (And.intro z2 (And.intro z3 (And.intro z4 z5)))) : W.cell? (ad.add (k * 6)) = some (.int .i64 x.kind) ∧ W.cell? ⟨(ad.add (k * 6)).block, (ad.add (k * 6)).off + 1, none⟩ = some (.string x.nm) ∧ W.cell? ⟨(ad.add (k * 6)).block, (ad.add (k * 6)).off + 2, none⟩ = some (.string x.to_)
          ∧ W.cell? ⟨(ad.add (k * 6)).block, (ad.add (k * 6)).off + 3, none⟩ = some (.string x.s) ∧ W.cell? ⟨(ad.add (k * 6)).block, (ad.add (k * 6)).off + 4, none⟩ = some (.int .i64 x.n) ∧ W.cell? ⟨(ad.add (k * 6)).block, (ad.add (k * 6)).off + 5, none⟩ = some (.slice x.Ak x.ks.length x.ck)))
      clear PD PREAD hT yk hx hsm hTv hI hS hT' hk' hsu1 hsu2 hSr d3 r3 b12 hSure ho1 ho2
      by_cases hv : v = 0
      · subst hv
        by_cases g2 : 2 ≤ x.kind
        · by_cases g5 : x.kind ≤ 5
          · have HM := Lib.hid (HU1.out rfl g2 g5)
            cases hon : T.on with
            | false =>
              go_wp2_with (first | (go_at_call 9; (with_reducible refine (HPD.out).mono ?_); rintro e u3 ⟨rfl, A3, c3, d3, k3⟩; have q3 := hb.trans (k3.below.mono hd1); have s3 := HSr.out.dkept k3 hds; obtain ⟨z0, z1, z2, z3, z4, z5⟩ := HCE.out u3 q3; have d5 := d3; have s5 := s3; have q5 := q3) | (go_at_call 10; (with_reducible refine (HPNOTE.out ⟨g2, g5⟩ _ _ _ _ _ _ _ d3 s3).mono ?_); rintro e u5 ⟨rfl, B1, B2, e1, e2, s5, k5⟩; have q5 := q3.trans (k5.below.mono (by omega)); have d5 := d3.tkept k5 hds ⟨_, s3.box⟩; clear s3 d3) | (go_at_call 11; (with_reducible refine (disk_On d _ _ _ _ d5).mono ?_); rintro e wa ⟨rfl, rfl⟩; rw [hon]))
              refine ⟨⟨k + 1, _, _, T, _, _, _, _, _, by omega, by go_num, d5, HT.out, s5, by omega, HM.out, q5⟩, by show l.length - ((k : Int) + 1).toNat < l.length - ((k : Int)).toNat; omega⟩
            | true =>
              go_wp2_with (first | (go_at_call 9; (with_reducible refine (HPD.out).mono ?_); rintro e u3 ⟨rfl, A3, c3, d3, k3⟩; have q3 := hb.trans (k3.below.mono hd1); have s3 := HSr.out.dkept k3 hds; obtain ⟨z0, z1, z2, z3, z4, z5⟩ := HCE.out u3 q3; have d5 := d3; have s5 := s3; have q5 := q3) | (go_at_call 10; (with_reducible refine (HPNOTE.out ⟨g2, g5⟩ _ _ _ _ _ _ _ d3 s3).mono ?_); rintro e u5 ⟨rfl, B1, B2, e1, e2, s5, k5⟩; have q5 := q3.trans (k5.below.mono (by omega)); have d5 := d3.tkept k5 hds ⟨_, s3.box⟩; clear s3 d3) | (go_at_call 11; (with_reducible refine (disk_On d _ _ _ _ d5).mono ?_); rintro e wa ⟨rfl, rfl⟩; rw [hon]))
              have HS5 := Lib.hid s5
              have HD5 := Lib.hid d5
              have HQ5 := Lib.hid q5
              have hml : (noteL T L x).length ≤ k + 1 := by omega
              clear s5 d5 q5
              go_loopw [9] (fun j wr2 => ∃ q : Nat, q ≤ (noteL T L x).length ∧ j = .int .i64 q ∧ Below (u5).heap.size u5 wr2) (fun j _ => (noteL T L x).length - (intOf j).toNat)
              case atStart => exact ⟨0, by omega, rfl, Below.refl _ _⟩
              case round =>
                obtain ⟨q, hq, rfl, hb2⟩ := hrel
                have s6 := HS5.out.kept hb2
                have d6 := HD5.out.kept hb2
                have x0 := bx_cells s6.box 0
                have x1 := bx_cells s6.box 1
                by_cases hlt2 : q < (noteL T L x).length
                · obtain ⟨p, hp⟩ : ∃ f, (noteL T L x)[q]? = some f := ⟨(noteL T L x)[q], List.getElem?_eq_getElem hlt2⟩
                  have r1 := Rd.ownAt s6.names hp
                  have r2 := Rd.ownAt s6.bytes hp
                  have HX7 := Lib.hid (fun (W7 : World) b7 => bx_cells (Sr.kept (w' := W7) s6 b7).box 1)
                  obtain ⟨a1, rfl, l1, t1⟩ := r1
                  obtain ⟨a2, rfl, l2, t2⟩ := r2
                  obtain ⟨all, hr, hle, hex⟩ := HSR.out _ HM.out hon p (List.mem_of_getElem? hp)
                  have hrd := HREAD.out _ _ p.1 _ d6
                  rw [hr] at hrd
                  obtain ⟨p1, p2⟩ := p
                  simp only at t1 t2 hle hex hrd
                  have HRD := Lib.hid hrd
                  have hle2 : ¬ ((all.size : Int) < (p2.size : Int)) := by omega
                  have hj1 : (q : Int) < ((noteL T L x).length : Int) := by omega
                  clear hrd hp hr s6 d6
                  go_wp2_with (go_at_call 12; (with_reducible refine (HRD.out).mono ?_); rintro e u7 ⟨rfl, b7⟩; have x1' := HX7.out u7 b7; have t2' := (b7.cell (p := a2.add q) (by rw [fl_add_block]; exact l2)).trans t2)
                  exact ⟨⟨q + 1, by omega, by go_num, hb2.trans (b7.mono hb2.size)⟩, by show (noteL T L x).length - ((q : Int) + 1).toNat < (noteL T L x).length - ((q : Int)).toNat; omega⟩
                · have hj1 : ¬ (q : Int) < ((noteL T L x).length : Int) := by omega
                  clear s6 d6
                  go_wp2_with fail
                  exact ⟨⟨k + 1, _, _, T, _, _, _, _, noteL T L x, by omega, by go_num, HD5.out.kept hb2, HT.out, HS5.out.kept hb2, by omega, HM.out, HQ5.out.trans (hb2.mono HQ5.out.size)⟩, by show l.length - ((k : Int) + 1).toNat < l.length - ((k : Int)).toNat; omega⟩
          · have HM := Lib.hid (HU2.out (by omega))
            cases hon : T.on with
            | false =>
              go_wp2_with (first | (go_at_call 9; (with_reducible refine (HPD.out).mono ?_); rintro e u3 ⟨rfl, A3, c3, d3, k3⟩; have q3 := hb.trans (k3.below.mono hd1); have s3 := HSr.out.dkept k3 hds; obtain ⟨z0, z1, z2, z3, z4, z5⟩ := HCE.out u3 q3; have d5 := d3; have s5 := s3; have q5 := q3) | (go_at_call 10; (with_reducible refine (HPNOTE.out ⟨g2, g5⟩ _ _ _ _ _ _ _ d3 s3).mono ?_); rintro e u5 ⟨rfl, B1, B2, e1, e2, s5, k5⟩; have q5 := q3.trans (k5.below.mono (by omega)); have d5 := d3.tkept k5 hds ⟨_, s3.box⟩; clear s3 d3) | (go_at_call 11; (with_reducible refine (disk_On d _ _ _ _ d5).mono ?_); rintro e wa ⟨rfl, rfl⟩; rw [hon]))
              refine ⟨⟨k + 1, _, _, T, _, _, _, _, _, by omega, by go_num, d5, HT.out, s5, by omega, HM.out, q5⟩, by show l.length - ((k : Int) + 1).toNat < l.length - ((k : Int)).toNat; omega⟩
            | true =>
              go_wp2_with (first | (go_at_call 9; (with_reducible refine (HPD.out).mono ?_); rintro e u3 ⟨rfl, A3, c3, d3, k3⟩; have q3 := hb.trans (k3.below.mono hd1); have s3 := HSr.out.dkept k3 hds; obtain ⟨z0, z1, z2, z3, z4, z5⟩ := HCE.out u3 q3; have d5 := d3; have s5 := s3; have q5 := q3) | (go_at_call 10; (with_reducible refine (HPNOTE.out ⟨g2, g5⟩ _ _ _ _ _ _ _ d3 s3).mono ?_); rintro e u5 ⟨rfl, B1, B2, e1, e2, s5, k5⟩; have q5 := q3.trans (k5.below.mono (by omega)); have d5 := d3.tkept k5 hds ⟨_, s3.box⟩; clear s3 d3) | (go_at_call 11; (with_reducible refine (disk_On d _ _ _ _ d5).mono ?_); rintro e wa ⟨rfl, rfl⟩; rw [hon]))
              have HS5 := Lib.hid s5
              have HD5 := Lib.hid d5
              have HQ5 := Lib.hid q5
              have hml : (L).length ≤ k + 1 := by omega
              clear s5 d5 q5
              go_loopw [9] (fun j wr2 => ∃ q : Nat, q ≤ (L).length ∧ j = .int .i64 q ∧ Below (u3).heap.size u3 wr2) (fun j _ => (L).length - (intOf j).toNat)
              case atStart => exact ⟨0, by omega, rfl, Below.refl _ _⟩
              case round =>
                obtain ⟨q, hq, rfl, hb2⟩ := hrel
                have s6 := HS5.out.kept hb2
                have d6 := HD5.out.kept hb2
                have x0 := bx_cells s6.box 0
                have x1 := bx_cells s6.box 1
                by_cases hlt2 : q < (L).length
                · obtain ⟨p, hp⟩ : ∃ f, (L)[q]? = some f := ⟨(L)[q], List.getElem?_eq_getElem hlt2⟩
                  have r1 := Rd.ownAt s6.names hp
                  have r2 := Rd.ownAt s6.bytes hp
                  have HX7 := Lib.hid (fun (W7 : World) b7 => bx_cells (Sr.kept (w' := W7) s6 b7).box 1)
                  obtain ⟨a1, rfl, l1, t1⟩ := r1
                  obtain ⟨a2, rfl, l2, t2⟩ := r2
                  obtain ⟨all, hr, hle, hex⟩ := HSR.out _ HM.out hon p (List.mem_of_getElem? hp)
                  have hrd := HREAD.out _ _ p.1 _ d6
                  rw [hr] at hrd
                  obtain ⟨p1, p2⟩ := p
                  simp only at t1 t2 hle hex hrd
                  have HRD := Lib.hid hrd
                  have hle2 : ¬ ((all.size : Int) < (p2.size : Int)) := by omega
                  have hj1 : (q : Int) < ((L).length : Int) := by omega
                  clear hrd hp hr s6 d6
                  go_wp2_with (go_at_call 12; (with_reducible refine (HRD.out).mono ?_); rintro e u7 ⟨rfl, b7⟩; have x1' := HX7.out u7 b7; have t2' := (b7.cell (p := a2.add q) (by rw [fl_add_block]; exact l2)).trans t2)
                  exact ⟨⟨q + 1, by omega, by go_num, hb2.trans (b7.mono hb2.size)⟩, by show (L).length - ((q : Int) + 1).toNat < (L).length - ((q : Int)).toNat; omega⟩
                · have hj1 : ¬ (q : Int) < ((L).length : Int) := by omega
                  clear s6 d6
                  go_wp2_with fail
                  exact ⟨⟨k + 1, _, _, T, _, _, _, _, L, by omega, by go_num, HD5.out.kept hb2, HT.out, HS5.out.kept hb2, by omega, HM.out, HQ5.out.trans (hb2.mono HQ5.out.size)⟩, by show l.length - ((k : Int) + 1).toNat < l.length - ((k : Int)).toNat; omega⟩
        · have HM := Lib.hid (HU2.out (by omega))
          cases hon : T.on with
          | false =>
            go_wp2_with (first | (go_at_call 9; (with_reducible refine (HPD.out).mono ?_); rintro e u3 ⟨rfl, A3, c3, d3, k3⟩; have q3 := hb.trans (k3.below.mono hd1); have s3 := HSr.out.dkept k3 hds; obtain ⟨z0, z1, z2, z3, z4, z5⟩ := HCE.out u3 q3; have d5 := d3; have s5 := s3; have q5 := q3) | (go_at_call 10; (with_reducible refine (HPNOTE.out ⟨g2, g5⟩ _ _ _ _ _ _ _ d3 s3).mono ?_); rintro e u5 ⟨rfl, B1, B2, e1, e2, s5, k5⟩; have q5 := q3.trans (k5.below.mono (by omega)); have d5 := d3.tkept k5 hds ⟨_, s3.box⟩; clear s3 d3) | (go_at_call 11; (with_reducible refine (disk_On d _ _ _ _ d5).mono ?_); rintro e wa ⟨rfl, rfl⟩; rw [hon]))
            refine ⟨⟨k + 1, _, _, T, _, _, _, _, _, by omega, by go_num, d5, HT.out, s5, by omega, HM.out, q5⟩, by show l.length - ((k : Int) + 1).toNat < l.length - ((k : Int)).toNat; omega⟩
          | true =>
            go_wp2_with (first | (go_at_call 9; (with_reducible refine (HPD.out).mono ?_); rintro e u3 ⟨rfl, A3, c3, d3, k3⟩; have q3 := hb.trans (k3.below.mono hd1); have s3 := HSr.out.dkept k3 hds; obtain ⟨z0, z1, z2, z3, z4, z5⟩ := HCE.out u3 q3; have d5 := d3; have s5 := s3; have q5 := q3) | (go_at_call 10; (with_reducible refine (HPNOTE.out ⟨g2, g5⟩ _ _ _ _ _ _ _ d3 s3).mono ?_); rintro e u5 ⟨rfl, B1, B2, e1, e2, s5, k5⟩; have q5 := q3.trans (k5.below.mono (by omega)); have d5 := d3.tkept k5 hds ⟨_, s3.box⟩; clear s3 d3) | (go_at_call 11; (with_reducible refine (disk_On d _ _ _ _ d5).mono ?_); rintro e wa ⟨rfl, rfl⟩; rw [hon]))
            have HS5 := Lib.hid s5
            have HD5 := Lib.hid d5
            have HQ5 := Lib.hid q5
            have hml : (L).length ≤ k + 1 := by omega
            clear s5 d5 q5
            go_loopw [9] (fun j wr2 => ∃ q : Nat, q ≤ (L).length ∧ j = .int .i64 q ∧ Below (u3).heap.size u3 wr2) (fun j _ => (L).length - (intOf j).toNat)
            case atStart => exact ⟨0, by omega, rfl, Below.refl _ _⟩
            case round =>
              obtain ⟨q, hq, rfl, hb2⟩ := hrel
              have s6 := HS5.out.kept hb2
              have d6 := HD5.out.kept hb2
              have x0 := bx_cells s6.box 0
              have x1 := bx_cells s6.box 1
              by_cases hlt2 : q < (L).length
              · obtain ⟨p, hp⟩ : ∃ f, (L)[q]? = some f := ⟨(L)[q], List.getElem?_eq_getElem hlt2⟩
                have r1 := Rd.ownAt s6.names hp
                have r2 := Rd.ownAt s6.bytes hp
                have HX7 := Lib.hid (fun (W7 : World) b7 => bx_cells (Sr.kept (w' := W7) s6 b7).box 1)
                obtain ⟨a1, rfl, l1, t1⟩ := r1
                obtain ⟨a2, rfl, l2, t2⟩ := r2
                obtain ⟨all, hr, hle, hex⟩ := HSR.out _ HM.out hon p (List.mem_of_getElem? hp)
                have hrd := HREAD.out _ _ p.1 _ d6
                rw [hr] at hrd
                obtain ⟨p1, p2⟩ := p
                simp only at t1 t2 hle hex hrd
                have HRD := Lib.hid hrd
                have hle2 : ¬ ((all.size : Int) < (p2.size : Int)) := by omega
                have hj1 : (q : Int) < ((L).length : Int) := by omega
                clear hrd hp hr s6 d6
                go_wp2_with (go_at_call 12; (with_reducible refine (HRD.out).mono ?_); rintro e u7 ⟨rfl, b7⟩; have x1' := HX7.out u7 b7; have t2' := (b7.cell (p := a2.add q) (by rw [fl_add_block]; exact l2)).trans t2)
                exact ⟨⟨q + 1, by omega, by go_num, hb2.trans (b7.mono hb2.size)⟩, by show (L).length - ((q : Int) + 1).toNat < (L).length - ((q : Int)).toNat; omega⟩
              · have hj1 : ¬ (q : Int) < ((L).length : Int) := by omega
                clear s6 d6
                go_wp2_with fail
                exact ⟨⟨k + 1, _, _, T, _, _, _, _, L, by omega, by go_num, HD5.out.kept hb2, HT.out, HS5.out.kept hb2, by omega, HM.out, HQ5.out.trans (hb2.mono HQ5.out.size)⟩, by show l.length - ((k : Int) + 1).toNat < l.length - ((k : Int)).toNat; omega⟩
      · have HM := Lib.hid (HU2.out (by omega))
        have hv2 : (v == 0) = false := by rw [beq_eq_false_iff_ne]; exact hv
        cases hon : T.on with
        | false =>
          go_wp2_with (first | (go_at_call 9; (with_reducible refine (HPD.out).mono ?_); rintro e u3 ⟨rfl, A3, c3, d3, k3⟩; have q3 := hb.trans (k3.below.mono hd1); have s3 := HSr.out.dkept k3 hds; obtain ⟨z0, z1, z2, z3, z4, z5⟩ := HCE.out u3 q3; have d5 := d3; have s5 := s3; have q5 := q3) | (go_at_call 10; (with_reducible refine (HPNOTE.out ⟨g2, g5⟩ _ _ _ _ _ _ _ d3 s3).mono ?_); rintro e u5 ⟨rfl, B1, B2, e1, e2, s5, k5⟩; have q5 := q3.trans (k5.below.mono (by omega)); have d5 := d3.tkept k5 hds ⟨_, s3.box⟩; clear s3 d3) | (go_at_call 11; (with_reducible refine (disk_On d _ _ _ _ d5).mono ?_); rintro e wa ⟨rfl, rfl⟩; rw [hon]))
          refine ⟨⟨k + 1, _, _, T, _, _, _, _, _, by omega, by go_num, d5, HT.out, s5, by omega, HM.out, q5⟩, by show l.length - ((k : Int) + 1).toNat < l.length - ((k : Int)).toNat; omega⟩
        | true =>
          go_wp2_with (first | (go_at_call 9; (with_reducible refine (HPD.out).mono ?_); rintro e u3 ⟨rfl, A3, c3, d3, k3⟩; have q3 := hb.trans (k3.below.mono hd1); have s3 := HSr.out.dkept k3 hds; obtain ⟨z0, z1, z2, z3, z4, z5⟩ := HCE.out u3 q3; have d5 := d3; have s5 := s3; have q5 := q3) | (go_at_call 10; (with_reducible refine (HPNOTE.out ⟨g2, g5⟩ _ _ _ _ _ _ _ d3 s3).mono ?_); rintro e u5 ⟨rfl, B1, B2, e1, e2, s5, k5⟩; have q5 := q3.trans (k5.below.mono (by omega)); have d5 := d3.tkept k5 hds ⟨_, s3.box⟩; clear s3 d3) | (go_at_call 11; (with_reducible refine (disk_On d _ _ _ _ d5).mono ?_); rintro e wa ⟨rfl, rfl⟩; rw [hon]))
          have HS5 := Lib.hid s5
          have HD5 := Lib.hid d5
          have HQ5 := Lib.hid q5
          have hml : (L).length ≤ k + 1 := by omega
          clear s5 d5 q5
          go_loopw [9] (fun j wr2 => ∃ q : Nat, q ≤ (L).length ∧ j = .int .i64 q ∧ Below (u3).heap.size u3 wr2) (fun j _ => (L).length - (intOf j).toNat)
          case atStart => exact ⟨0, by omega, rfl, Below.refl _ _⟩
          case round =>
            obtain ⟨q, hq, rfl, hb2⟩ := hrel
            have s6 := HS5.out.kept hb2
            have d6 := HD5.out.kept hb2
            have x0 := bx_cells s6.box 0
            have x1 := bx_cells s6.box 1
            by_cases hlt2 : q < (L).length
            · obtain ⟨p, hp⟩ : ∃ f, (L)[q]? = some f := ⟨(L)[q], List.getElem?_eq_getElem hlt2⟩
              have r1 := Rd.ownAt s6.names hp
              have r2 := Rd.ownAt s6.bytes hp
              have HX7 := Lib.hid (fun (W7 : World) b7 => bx_cells (Sr.kept (w' := W7) s6 b7).box 1)
              obtain ⟨a1, rfl, l1, t1⟩ := r1
              obtain ⟨a2, rfl, l2, t2⟩ := r2
              obtain ⟨all, hr, hle, hex⟩ := HSR.out _ HM.out hon p (List.mem_of_getElem? hp)
              have hrd := HREAD.out _ _ p.1 _ d6
              rw [hr] at hrd
              obtain ⟨p1, p2⟩ := p
              simp only at t1 t2 hle hex hrd
              have HRD := Lib.hid hrd
              have hle2 : ¬ ((all.size : Int) < (p2.size : Int)) := by omega
              have hj1 : (q : Int) < ((L).length : Int) := by omega
              clear hrd hp hr s6 d6
              go_wp2_with (go_at_call 12; (with_reducible refine (HRD.out).mono ?_); rintro e u7 ⟨rfl, b7⟩; have x1' := HX7.out u7 b7; have t2' := (b7.cell (p := a2.add q) (by rw [fl_add_block]; exact l2)).trans t2)
              exact ⟨⟨q + 1, by omega, by go_num, hb2.trans (b7.mono hb2.size)⟩, by show (L).length - ((q : Int) + 1).toNat < (L).length - ((q : Int)).toNat; omega⟩
            · have hj1 : ¬ (q : Int) < ((L).length : Int) := by omega
              clear s6 d6
              go_wp2_with fail
              exact ⟨⟨k + 1, _, _, T, _, _, _, _, L, by omega, by go_num, HD5.out.kept hb2, HT.out, HS5.out.kept hb2, by omega, HM.out, HQ5.out.trans (hb2.mono HQ5.out.size)⟩, by show l.length - ((k : Int) + 1).toNat < l.length - ((k : Int)).toNat; omega⟩
    · have hi1 : ¬ (k : Int) < (l.length : Int) := by omega
      go_wp2_with (go_at_call 7; (with_reducible refine (law07_awake _).mono ?_); rintro e w9 ⟨rfl, b9⟩)
      go_ret
      exact ⟨rfl, hb.trans (b9.mono hb.size)⟩
set_option maxRecDepth 100000 in
theorem law07_DiskSure (room : Int) (hroom : I64 room) (a : SlA) (w : World) (ha : a.Ok w) :
    Calls Try.prog 3 #[.int .i64 room, .slice a.A a.l.length a.c] w fun e w' => e = .returned (.bool true) ∧ Below w.heap.size w w' := by
  obtain ⟨A, c, l⟩ := a
  obtain ⟨h1, h2, h3, h4⟩ := ha
  by_cases hf : fewA 40 l
  · exact law07_DiskSure_few room (max room 0) rfl hroom A c l h3 hf w h4
  · have P0 : Calls Try.prog 6 #[.slice A l.length c, .int .i64 40] w fun e w' => e = .returned (.bool false) ∧ Below w.heap.size w w' := ref7_Few_no A c l h1 40 (by decide) hf w h4
    have H0 := Lib.hid P0
    clear P0 h4 h3 hf
    simp only
    go_enter Try.func3, Try.ntmps3
    go_wp2_with (first
      | (go_at_call 6; (with_reducible refine (H0.out).mono ?_); rintro e w1 ⟨rfl, b1⟩)
      | (go_at_call 7; (with_reducible refine (law07_awake _).mono ?_); rintro e w9 ⟨rfl, b9⟩))
    go_ret
    exact ⟨rfl, b1.trans (b9.mono b1.size)⟩
end Go.Proofs.Ytmkaijjakcjflaa
