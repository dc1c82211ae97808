/- The statements of layer 6 (frame): the walk of FrameWhole. -/
import Derived.Test.YtaocmepffhochaaFrameW
namespace Go.Proofs.Ytaocmepffhochaa
open Go.ChangeShapes Go.WideShapes Go.ChangeAt Go.RowKit Go.Deep BigP

theorem RdF.pre {w : World} {B : Nat} {A : Option Addr} {l : List FrameP.Fr} (h : RdF w B A l) (n : Nat) : RdF w B A (l.take n) := fun k f hk => by
  rw [List.getElem?_take] at hk
  split at hk
  · exact h k f hk
  · cases hk
/-- where frames end -/
def ez (l : List FrameP.Fr) (k : Nat) : List Value := (List.range k).map fun j => Value.int .i64 (FrameP.bytes (l.take (j + 1)) : Int)
theorem ez_succ (l : List FrameP.Fr) (k : Nat) : ez l (k + 1) = ez l k ++ [Value.int .i64 (FrameP.bytes (l.take (k + 1)) : Int)] := by simp [ez, List.range_succ]
theorem ez_get (l : List FrameP.Fr) (k j : Nat) (h : j < k) : (ez l k)[j]? = some (Value.int .i64 (FrameP.bytes (l.take (j + 1)) : Int)) := by simp [ez, h]
theorem few_bytes (l : List FrameP.Fr) : (∀ f ∈ l, f.2.length ≤ 200) → FrameP.bytes l ≤ 216 * l.length := by
  induction l with
  | nil => intro _; simp [FrameP.bytes]
  | cons f r ih =>
    intro h
    have := ih (fun x hx => h x (List.mem_cons_of_mem _ hx))
    have := h f (List.mem_cons_self)
    rw [FrameP.bytes_cons, List.length_cons]; omega
def encB (l : List FrameP.Fr) : ByteArray := ⟨(FrameP.encs l).toArray⟩
theorem encB_size (l : List FrameP.Fr) : (encB l).size = FrameP.bytes l := by show (FrameP.encs l).toArray.size = _; rw [List.size_toArray, FrameP.encs_length]
theorem encB_snoc (l : List FrameP.Fr) (f : FrameP.Fr) : encB (l ++ [f]) = encB l ++ ⟨(FrameP.enc f.1.toNat f.2).toArray⟩ := ba_ext' (by
  rw [ba_tl]
  show FrameP.encs (l ++ [f]) = FrameP.encs l ++ FrameP.enc f.1.toNat f.2
  exact FrameP.encs_snoc l f)

theorem info_int : (Try.prog.info? 3).map (fun i => (i.zero, i.size, i.bytes)) = some (some (.int .i64 0), 1, 8) := by kernel_rfl
theorem law06_FrameWhole_many (A : Option Addr) (c : Nat) (l : List FrameP.Fr) (cut : Int) (hm : l.length ≤ maxLen) (h : ¬ few l) (w : World) (hr : RdF w w.heap.size A l) :
    Calls Try.prog 13 #[.slice A l.length c, .int .u16 cut] w fun e w' => e = .returned (.bool true) ∧ Below w.heap.size w w' := by
  have HF := Lib.hid (ref_Few_no A c l hm h w hr)
  clear h hr
  go_enter Try.func13, Try.ntmps13
  go_wp2_with (first
    | (go_at_call 40; with_reducible refine (HF.out).mono ?_; rintro e w1 ⟨rfl, hb1⟩)
    | (go_at_call 31; refine (law06_awake _).mono ?_; rintro e w1 ⟨rfl, hb1⟩))
  go_ret
  exact ⟨rfl, by (repeat (first | assumption | exact Below.refl _ _ | refine below_step (by assumption) ?_ | refine below_alloc' _ ?_ | refine below_drewN ?_ _ | refine Below.drew ?_))⟩

set_option maxRecDepth 100000 in
set_option maxHeartbeats 4000000 in
theorem law06_FrameWhole_few (A : Option Addr) (c : Nat) (l : List FrameP.Fr) (cut : Nat) (hc : l.length ≤ c) (hcut : cut < 65536) (hf : few l) (hi64 : ∀ f ∈ l, I64 f.1) (w : World) (hr : RdF w w.heap.size A l) :
    Calls Try.prog 13 #[.slice A l.length c, .int .u16 (cut : Int)] w fun e w' => e = .returned (.bool true) ∧ Below w.heap.size w w' := by
  obtain ⟨i0, hi, hz0, hz1, hz2⟩ := info_parts' info_int
  have HI := Lib.hid (And.intro hi (And.intro hz0 (And.intro hz1 hz2)))
  clear hi hz0 hz1 hz2
  have HFEW := Lib.hid (ref_Few_yes A c l hf w hr)
  have HR := Lib.hid hr
  have HF := Lib.hid hf
  have H64 := Lib.hid hi64
  have h20 := hf.1
  have HBY := Lib.hid (fun k : Nat => show FrameP.bytes (l.take k) ≤ 4320 by
    have h1 := few_bytes l hf.2
    have h2 := FrameP.bytes_take_le l k
    omega)
  clear hr hf hi64
  go_enter Try.func13, Try.ntmps13
  go_wp2_with (go_at_call 40; with_reducible refine (HFEW.out).mono ?_; rintro e w1 ⟨rfl, hb1⟩)
  go_loopw [5, 6, 7] (fun s v i wr => ∃ k : Nat, k ≤ l.length ∧ i = .int .i64 k ∧ s = .string (encB (l.take k)) ∧ wr.ownsRow w.heap.size 3 1 v k (ez l k) ∧ Below w.heap.size w wr ∧ ∀ f ∈ l.take k, 1 ≤ f.1) (fun _ _ i _ => l.length - (intOf i).toNat)
  case atStart => exact ⟨0, by omega, rfl, rfl, World.ownsRow_nil _ _ _ _, hb1, by simp⟩
  case round =>
    obtain ⟨k, hk, rfl, rfl, hown, hb, hpos⟩ := hrel
    have HO := Lib.hid hown
    have HPOS := Lib.hid hpos
    clear hown hpos
    by_cases hlt : k < l.length
    · obtain ⟨f, hk'⟩ : ∃ f, l[k]? = some f := ⟨l[k], List.getElem?_eq_getElem hlt⟩
      obtain ⟨ad, rfl, hadl, h0, h1⟩ := HR.out.below hb k f hk'
      have hz := hb.size
      have hle : f.2.length ≤ 200 := HF.out.2 f (List.mem_of_getElem? hk')
      have hi64 := H64.out f (List.mem_of_getElem? hk')
      have x0 := fun u : Later wr.heap.size wr => (u.h.cell (p := ad.add (k * 2)) (by rw [addr_add_block]; omega)).trans h0
      have x1 := fun u : Later wr.heap.size wr => (u.h.cell (p := ⟨(ad.add (k * 2)).block, (ad.add (k * 2)).off + 1, none⟩) (by show (ad.add (k * 2)).block < _; rw [addr_add_block]; omega)).trans h1
      have hi0 : (0 : Int) ≤ (k : Int) := by omega
      have hi1 : (k : Int) < (l.length : Int) := by omega
      have HS := Lib.hid (ftake_snoc l k f hk')
      have hbyt := HBY.out k
      have hsS := encB_size (l.take k)
      have HE := Lib.hid (show encB (l.take (k + 1)) = encB (l.take k) ++ ⟨(FrameP.enc f.1.toNat f.2).toArray⟩ by rw [HS.out, encB_snoc])
      have HBS := Lib.hid (show FrameP.bytes (l.take (k + 1)) = FrameP.bytes (l.take k) + (16 + f.2.length) by rw [HS.out, FrameP.bytes_snoc])
      have hp := frame_Put f.1 ⟨f.2.toArray⟩ hi64 (by show f.2.toArray.size ≤ maxLen; rw [List.size_toArray]; unfold maxLen; omega)
      rw [show (⟨f.2.toArray⟩ : ByteArray).data.toList = f.2 from rfl] at hp
      unfold FrameP.put pfV at hp
      by_cases hf1 : f.1 < 1
      · rw [if_pos hf1] at hp
        have HP := Lib.hid hp
        clear hp hk' h0 h1 hz HS HE HBS hbyt hsS hi64
        go_wp2_with fail
        refine wp_region_later wr.heap.size (by kernel_rfl) (by kernel_rfl) ?_
        repeat (go_big_quiet_step ((go_at_call 32; with_reducible exact later_of _ (Nat.le_refl _) (HP.out _))))
        refine wpQuiet_nil ?_; intro _ hw'; obtain ⟨u, hw''⟩ := hw'; subst hw''
        go_wp2_with (go_at_call 31; refine (law06_awake _).mono ?_; rintro e w3 ⟨rfl, hb3⟩)
        go_ret
        exact ⟨rfl, below_step hb3 (below_later hb u)⟩
      · rw [if_neg hf1, if_neg (by omega)] at hp
        simp only at hp
        have hPs : (⟨(FrameP.enc f.1.toNat f.2).toArray⟩ : ByteArray).size = 16 + f.2.length := by show (FrameP.enc f.1.toNat f.2).toArray.size = _; rw [List.size_toArray, FrameP.enc_length]
        generalize (⟨(FrameP.enc f.1.toNat f.2).toArray⟩ : ByteArray) = PB at hp hPs HE
        generalize encB (l.take k) = SB at hsS HE ⊢
        generalize FrameP.bytes (l.take k) = b at hbyt hsS HBS
        generalize hd : f.2.length = d at hle hPs HBS
        generalize (⟨f.2.toArray⟩ : ByteArray) = DB at hp x1 h1
        have HP := Lib.hid hp
        have HF1 := Lib.hid hf1
        clear hp hk' h0 h1 hz hi64 hd
        go_wp2_with fail
        refine wp_region_later wr.heap.size (by kernel_rfl) (by kernel_rfl) ?_
        repeat (go_big_quiet_step ((go_at_call 32; with_reducible exact later_of _ (Nat.le_refl _) (HP.out _))))
        refine wpQuiet_nil ?_; intro _ hw'; obtain ⟨u, hw''⟩ := hw'; subst hw''
        go_wp2_with (at_builtin; go_must (refine wpList_append_one rfl _ _ _ (by rfl) w.heap.size 3 i0 _ 1 8 Try.underlying32 HI.out.1 HI.out.2.1 HI.out.2.2.1 HI.out.2.2.2 rfl (by decide) (by decide) _ _ _ (by rfl) u.w (own_below HO.out u.h) _ u.w.heap.size rfl (by rfl) (by rfl) (by simp [Value.oneCell']) (by omega) (Nat.le_trans hb.size u.h.size) ?_; intro g cap w2 hA))
        refine ⟨⟨k + 1, by omega, by go_num, by rw [HE.out], ?_, hA.below _ (below_later hb u), fun x hx => ?_⟩, by simp [intOf]; omega⟩
        · rw [ez_succ, HBS.out]
          simpa using hA.own
        · rw [HS.out] at hx
          rcases List.mem_append.1 hx with hx | hx
          · exact HPOS.out x hx
          · obtain rfl : x = f := by simpa using hx
            have := HF1.out
            omega
    · obtain rfl : k = l.length := by omega
      rw [List.take_length] at HPOS ⊢
      obtain ⟨AE, cE, rfl⟩ := own_slice HO.out
      have hbyt := HBY.out l.length
      rw [List.take_length] at hbyt
      have hsS := encB_size l
      obtain ⟨kk, hkk⟩ : ∃ kk, cut % (FrameP.bytes l + 1) = kk := ⟨_, rfl⟩
      have hkl : kk ≤ FrameP.bytes l := by rw [← hkk]; have := Nat.mod_lt cut (show 0 < FrameP.bytes l + 1 by omega); omega
      have hmod : (cut : Int) % ((FrameP.bytes l : Int) + 1) = (kk : Int) := by rw [← hkk]; rfl
      have hgood : ∀ f ∈ l, FrameP.Good f := fun f hf => ⟨HPOS.out f hf, by have := H64.out f hf; unfold I64 at this; omega, by have := HF.out.2 f hf; omega⟩
      have ha := frame_All ((encB l).extract 0 kk) (by rw [ByteArray.size_extract]; omega)
      rw [ex_list, List.drop_zero, Nat.sub_zero, show (encB l).data.toList = FrameP.encs l from rfl, FrameP.all_cut l hgood kk hkl] at ha
      have hin := FrameP.cnt_in l kk
      have hout := FrameP.cnt_out l kk
      have hml := FrameP.cnt_le l kk
      generalize FrameP.cnt l kk = m at ha hin hout hml
      have hbm := hin m (Nat.le_refl _)
      have hlm : (l.take m).length = m := by rw [List.length_take]; omega
      unfold AllPost at ha
      simp only at ha
      rw [hlm] at ha
      generalize encB l = EB at hsS ha ⊢
      generalize FrameP.bytes l = T at hbyt hsS hkl hmod
      have HM := Lib.hid (And.intro hin hout)
      have HLM := Lib.hid hlm
      have HD := Lib.hid hmod
      obtain ⟨er, her⟩ : ∃ er : Int, (if FrameP.bytes (l.take m) = kk then (0 : Int) else 3) = er := ⟨_, rfl⟩
      rw [her] at ha
      have HER := Lib.hid her
      have HA := Lib.hid ha
      clear hin hout hkk hgood ha hlm her
      have hm0 : (0 : Int) ≤ (kk : Int) := by omega
      have hm1 : (kk : Int) ≤ (T : Int) := by omega
      go_wp2_with (go_at_call 36; with_reducible refine (HA.out _).mono ?_; rintro e w2 ⟨A2, c2, rfl, hR2, hb2, _⟩)
      have HR2 := Lib.hid hR2
      have HEZ := Lib.hid ((Rd.own (own_below HO.out hb2)))
      have HRl := Lib.hid ((HR.out.below (hb.trans (hb2.mono hb.size))).more (Nat.le_trans hb.size hb2.size))
      clear hR2 hmod
      go_loopw [14, 15, 16] (fun a b i wq => ∃ j : Nat, j ≤ m ∧ i = .int .i64 j ∧ a = .int .i64 j ∧ b = .int .i64 (FrameP.bytes (l.take j) : Int) ∧ wq = w2) (fun _ _ i _ => m - (intOf i).toNat)
      case atStart => exact ⟨0, by omega, rfl, rfl, by simp [FrameP.bytes], rfl⟩
      case round =>
        obtain ⟨j, hj, rfl, rfl, rfl, rfl⟩ := hrel
        by_cases hjm : j < m
        · obtain ⟨ad, rfl, _, hcell⟩ := HEZ.out j _ (ez_get l l.length j (by omega))
          have hle2 := HM.out.1 (j + 1) (by omega)
          have hbj := HBY.out (j + 1)
          generalize FrameP.bytes (l.take j) = bj
          obtain ⟨b1, hb1e⟩ : ∃ b1, FrameP.bytes (l.take (j + 1)) = b1 := ⟨_, rfl⟩
          rw [hb1e] at hcell hle2 hbj
          have HB1 := Lib.hid hb1e
          clear hb1e
          have hi1 : (j : Int) < (l.length : Int) := by omega
          have hi2 : (b1 : Int) ≤ (kk : Int) := by omega
          go_wp2_with fail
          exact ⟨⟨j + 1, by omega, by go_num, by go_num, by rw [HB1.out], by simp⟩, by simp [intOf]; omega⟩
        · obtain rfl : j = m := by omega
          have hsame := ref_Same6 A2 A c2 c (l.take j) (by rw [HLM.out]; omega) wr HR2.out (RdF.pre HRl.out j)
          rw [HLM.out] at hsame
          have HS := Lib.hid hsame
          have hj0 : (0 : Int) ≤ (j : Int) := by omega
          have hj1 : (j : Int) ≤ (c : Int) := by omega
          clear hsame hj hjm
          by_cases hjl : j < l.length
          · obtain ⟨ad, rfl, _, hcell⟩ := HEZ.out j _ (ez_get l l.length j hjl)
            have hgt := HM.out.2 hjl
            clear HM HA
            generalize FrameP.bytes (l.take (j + 1)) = b1 at hcell hgt
            generalize FrameP.bytes (l.take j) = bj at HER hbm ⊢
            have hi1 : (j : Int) < (l.length : Int) := by omega
            have hi2 : ¬ (b1 : Int) ≤ (kk : Int) := by omega
            by_cases hk2 : bj = kk
            · obtain rfl : er = 0 := by rw [← HER.out, if_pos hk2]
              subst hk2
              go_wp2_with (first
                | (go_at_call 38; with_reducible refine (HS.out).mono ?_; rintro e w7 ⟨rfl, hb7⟩)
                | (go_at_call 31; with_reducible refine (law06_awake _).mono ?_; rintro e w8 ⟨rfl, hb8⟩))
              go_ret
              exact ⟨rfl, by (repeat (first | assumption | exact Below.refl _ _ | refine below_step (by assumption) ?_ | refine below_alloc' _ ?_ | refine below_drewN ?_ _ | refine Below.drew ?_))⟩
            · obtain rfl : er = 3 := by rw [← HER.out, if_neg hk2]
              have hne : ((bj : Int) == (kk : Int)) = false := by rw [beq_eq_false_iff_ne]; omega
              clear hk2
              go_wp2_with (first
                | (go_at_call 38; with_reducible refine (HS.out).mono ?_; rintro e w7 ⟨rfl, hb7⟩)
                | (go_at_call 31; with_reducible refine (law06_awake _).mono ?_; rintro e w8 ⟨rfl, hb8⟩))
              go_ret
              exact ⟨rfl, by (repeat (first | assumption | exact Below.refl _ _ | refine below_step (by assumption) ?_ | refine below_alloc' _ ?_ | refine below_drewN ?_ _ | refine Below.drew ?_))⟩
          · obtain rfl : j = l.length := by omega
            clear HM HA
            generalize FrameP.bytes (l.take l.length) = bj at HER hbm ⊢
            by_cases hk2 : bj = kk
            · obtain rfl : er = 0 := by rw [← HER.out, if_pos hk2]
              subst hk2
              go_wp2_with (first
                | (go_at_call 38; with_reducible refine (HS.out).mono ?_; rintro e w7 ⟨rfl, hb7⟩)
                | (go_at_call 31; with_reducible refine (law06_awake _).mono ?_; rintro e w8 ⟨rfl, hb8⟩))
              go_ret
              exact ⟨rfl, by (repeat (first | assumption | exact Below.refl _ _ | refine below_step (by assumption) ?_ | refine below_alloc' _ ?_ | refine below_drewN ?_ _ | refine Below.drew ?_))⟩
            · obtain rfl : er = 3 := by rw [← HER.out, if_neg hk2]
              have hne : ((bj : Int) == (kk : Int)) = false := by rw [beq_eq_false_iff_ne]; omega
              clear hk2
              go_wp2_with (first
                | (go_at_call 38; with_reducible refine (HS.out).mono ?_; rintro e w7 ⟨rfl, hb7⟩)
                | (go_at_call 31; with_reducible refine (law06_awake _).mono ?_; rintro e w8 ⟨rfl, hb8⟩))
              go_ret
              exact ⟨rfl, by (repeat (first | assumption | exact Below.refl _ _ | refine below_step (by assumption) ?_ | refine below_alloc' _ ?_ | refine below_drewN ?_ _ | refine Below.drew ?_))⟩
theorem law06_FrameWhole (a : SlF) (cut : Int) (hcut : (Lit.int .u16 cut).wf = true) (w : World) (ha : a.Ok w) :
    Calls Try.prog 13 #[.slice a.A a.l.length a.c, .int .u16 cut] w fun e w' => e = .returned (.bool true) ∧ Below w.heap.size w w' := by
  have hc' : 0 ≤ cut ∧ cut ≤ 65535 := by simpa [Lit.wf, IntKind.min, IntKind.max, IntKind.signed, IntKind.bits] using hcut
  by_cases h : few a.l
  · obtain ⟨n, rfl⟩ := Int.eq_ofNat_of_zero_le hc'.1
    exact law06_FrameWhole_few a.A a.c a.l n ha.2.1 (by omega) h (fun f hf => (ha.2.2.1 f hf).1) w ha.2.2.2
  · exact law06_FrameWhole_many a.A a.c a.l cut ha.1 h w ha.2.2.2
end Go.Proofs.Ytaocmepffhochaa
