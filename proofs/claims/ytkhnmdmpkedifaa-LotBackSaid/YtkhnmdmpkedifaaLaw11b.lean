/- The statements of layer 11 (lot): the plain law of lots that are cut off, and of what is taken; the walk of LotBack. -/
import Derived.Test.YtkhnmdmpkedifaaLotK
namespace Go.Proofs.Ytkhnmdmpkedifaa
open Go.ChangeShapes Go.WideShapes Go.ChangeAt Go.RowKit Go.Deep

/-- f reads just the bytes b, tells that they are too short where they are cut off, and does nothing behind an error -/
def Short (f : PackP.St → PackP.St) (b : List UInt8) : Prop :=
  (∀ i, i < b.length → ∃ l, f (b.take i, 0) = (l, 3)) ∧ (∀ s, f (b ++ s, 0) = (s, 0)) ∧ (∀ r : PackP.St, r.2 ≠ 0 → f r = r)
theorem Short.comp {f g : PackP.St → PackP.St} {b c : List UInt8} (hf : Short f b) (hg : Short g c) : Short (fun r => g (f r)) (b ++ c) := by
  refine ⟨fun i hi => ?_, fun s => ?_, fun r hr => ?_⟩
  · rcases Nat.lt_or_ge i b.length with h | h
    · obtain ⟨l, hl⟩ := hf.1 i h
      refine ⟨l, ?_⟩
      show g (f ((b ++ c).take i, 0)) = _
      rw [List.take_append_of_le_length (by omega), hl, hg.2.2 _ (by simp)]
    · obtain ⟨l, hl⟩ := hg.1 (i - b.length) (by rw [List.length_append] at hi; omega)
      refine ⟨l, ?_⟩
      show g (f ((b ++ c).take i, 0)) = _
      rw [show (b ++ c).take i = b ++ c.take (i - b.length) by rw [List.take_append, List.take_of_length_le (by omega)], hf.2.1, hl]
  · show g (f (b ++ c ++ s, 0)) = _
    rw [List.append_assoc, hf.2.1, hg.2.1]
  · show g (f r) = _
    rw [hf.2.2 r hr, hg.2.2 r hr]
theorem short_num (n : Int) (h0 : 0 ≤ n) (h : n ≤ 9223372036854775807) : Short (fun r => (PackP.rNum r).2) (VariP.putI n) :=
  ⟨fun i hi => by obtain ⟨l, hl⟩ := PackP.rNum_short n i h0 h hi; exact ⟨l, by simp only [hl]⟩, fun s => by simp only [PackP.rNum_put n s h0 h], fun r hr => by simp only [PackP.rNum_err r hr]⟩
theorem short_signed (n : Int) (h : -9223372036854775808 ≤ n ∧ n ≤ 9223372036854775807) : Short (fun r => (PackP.rSigned r).2) (VariP.put (VariP.zig n)) :=
  ⟨fun i hi => by obtain ⟨l, hl⟩ := PackP.rSigned_short n i hi; exact ⟨l, by simp only [hl]⟩, fun s => by simp only [PackP.rSigned_put n s h], fun r hr => by simp only [PackP.rSigned_err r hr]⟩
theorem short_text (t : List UInt8) (h : t.length ≤ 24) : Short (fun r => (PackP.rText 24 r).2) (PackP.text t) :=
  ⟨fun i hi => by obtain ⟨l, hl⟩ := PackP.rText_short 24 t i (by omega) (by omega) hi; exact ⟨l, by simp only [hl]⟩, fun s => by simp only [PackP.rText_put 24 t s (by omega) (by omega)], fun r hr => by simp only [PackP.rText_err 24 r hr]⟩
theorem short_flag (b : Bool) : Short (fun r => (PackP.rFlag r).2) (PackP.flag b) :=
  ⟨fun i hi => by obtain ⟨l, hl⟩ := PackP.rFlag_short b i hi; exact ⟨l, by simp only [hl]⟩, fun s => by simp only [PackP.rFlag_put b s], fun r hr => by simp only [PackP.rFlag_err r hr]⟩
theorem short_rSp (x : CodeP.Sp) (h : CodeP.Fit x) : Short (fun r => (CodeP.rSp r).2) (CodeP.enc x) := by
  obtain ⟨h1, h2, h3, h4, h5, h6, ⟨k1, k2, k3, k4, k5, k6⟩⟩ := h
  have s9 := short_flag x.gn
  have s8 := (short_signed x.du k6).comp s9
  have s7 := (short_signed x.st k5).comp s8
  have s6 := (short_text x.op h6).comp s7
  have s5 := (short_text x.sv h5).comp s6
  have s4 := (short_num x.rv h4 k4.2).comp s5
  have s3 := (short_num x.pa h3 k3.2).comp s4
  have s2 := (short_num x.id h2 k2.2).comp s3
  exact (short_num x.tr h1 k1.2).comp s2
theorem short_readN (l : List Sp) (hfit : ∀ x ∈ l, CodeP.Fit (spP x)) (k : Nat) (hk : k ≤ l.length) : Short (fun r => (readN k r).2) (encs (l.take k)) := by
  induction k with
  | zero => exact ⟨fun i hi => by simp [encs] at hi, fun s => by simp [encs, readN], fun r _ => rfl⟩
  | succ k ih =>
    obtain ⟨x, hx⟩ : ∃ x, l[k]? = some x := ⟨l[k], List.getElem?_eq_getElem (by omega)⟩
    rw [encs_take hx]
    exact (ih (by omega)).comp (short_rSp _ (hfit x (List.mem_of_getElem? hx)))
theorem takeL_short (l : List Sp) (hl : l.length ≤ 256) (hfit : ∀ x ∈ l, CodeP.Fit (spP x)) (i : Nat) (hi : i < (lotB l).length) : takeL ((lotB l).take i) = ([], 3) := by
  have hs := short_readN l hfit l.length (Nat.le_refl _)
  rw [List.take_length] at hs
  unfold lotB at hi ⊢
  rcases Nat.lt_or_ge i (VariP.putI (l.length : Int)).length with h | h
  · obtain ⟨q, hq⟩ := PackP.rNum_short (l.length : Int) i (by omega) (by omega) h
    rw [List.take_append_of_le_length (by omega)]
    unfold takeL
    simp only [hq]
    rw [if_pos (by simp)]
  · rw [List.take_append, List.take_of_length_le (by omega)]
    obtain ⟨q, hq⟩ := hs.1 (i - (VariP.putI (l.length : Int)).length) (by rw [List.length_append] at hi; omega)
    unfold takeL
    simp only at hq
    simp only [PackP.rNum_put (l.length : Int) _ (by omega) (by omega), Int.toNat_natCast, hq]
    rw [if_neg (by simp), if_neg (by omega), rEnd_err q 3 (by simp), if_pos (by simp)]
theorem readN_back (k : Nat) (l1 : List UInt8) : ∀ l2, (readN k (l1, 0)).2 = (l2, 0) → l1 = encs (recs k (l1, 0)) ++ l2 := by
  induction k with
  | zero => intro l2 h; simp only [readN, Prod.mk.injEq, and_true] at h; subst h; simp [encs, recs, readN]
  | succ k ih =>
    intro l2 h
    have h' : (CodeP.rSp (readN k (l1, 0)).2).2 = (l2, 0) := h
    rcases hq : (readN k (l1, 0)).2 with ⟨lk, ek⟩
    rw [hq] at h'
    by_cases he : ek = 0
    · subst he
      obtain ⟨hb, _⟩ := CodeP.rSp_back lk l2 (CodeP.rSp (lk, 0)).1 (by rw [← h'])
      have h3 := ih lk hq
      rw [recs_succ, hq]
      unfold encs at h3 ⊢
      rw [List.flatMap_append, List.append_assoc]
      simp only [List.flatMap_cons, List.flatMap_nil, List.append_nil, spP_spB]
      rw [← hb]
      exact h3
    · rw [CodeP.rSp_err _ he] at h'
      exact absurd (congrArg Prod.snd h') he
theorem takeL_back (s : List UInt8) (l : List Sp) (h : takeL s = (l, 0)) : lotB l = s ∧ mayAll l = true ∧ l.length ≤ 256 ∧ (∀ x ∈ l, x.Ok) ∧ short3 l := by
  unfold takeL at h
  simp only at h
  rcases hn : PackP.rNum (s, 0) with ⟨n, l1, e1⟩
  rw [hn] at h
  simp only at h
  by_cases he : e1 = 0
  case neg => rw [if_pos he] at h; exact absurd (congrArg Prod.snd h) he
  subst he
  rw [if_neg (by simp)] at h
  by_cases hb : 256 < n
  case pos => rw [if_pos hb] at h; exact absurd (congrArg Prod.snd h) (by simp)
  rw [if_neg hb] at h
  obtain ⟨hs, h0, _⟩ := PackP.rNum_back s l1 n hn
  by_cases hr : PackP.rEnd (readN n.toNat (l1, 0)).2 = 0
  case neg => rw [if_pos hr] at h; exact absurd (congrArg Prod.snd h) hr
  rw [if_neg (by simpa using hr)] at h
  by_cases hm : mayAll (recs n.toNat (l1, 0)) = true
  case neg => rw [if_neg hm] at h; exact absurd (congrArg Prod.snd h) (by simp)
  rw [if_pos hm] at h
  obtain rfl : recs n.toNat (l1, 0) = l := congrArg Prod.fst h
  have hlen := recs_length n.toNat (l1, 0)
  refine ⟨?_, hm, by omega, (recs_Ok n.toNat (l1, 0)).1, (recs_Ok n.toNat (l1, 0)).2⟩
  have hz : (readN n.toNat (l1, 0)).2 = ([], 0) := by
    rcases hzz : (readN n.toNat (l1, 0)).2 with ⟨a, b⟩
    rw [hzz] at hr
    unfold PackP.rEnd at hr
    split at hr
    · cases hr
    · rename_i hx
      change b = 0 at hr
      subst hr
      simp only [true_and, ne_eq, Classical.not_not] at hx
      rw [hx]
  have hback := readN_back n.toNat l1 [] hz
  unfold lotB
  rw [hlen, Int.toNat_of_nonneg h0, hs]
  rw [List.append_nil] at hback
  rw [← hback]
theorem takeL_err (s : List UInt8) (h : (takeL s).2 ≠ 0) : (takeL s).1 = [] := by
  unfold takeL at h ⊢
  simp only at h ⊢
  split
  · rfl
  · rename_i h1
    rw [if_neg h1] at h
    split
    · rfl
    · rename_i h2
      rw [if_neg h2] at h
      split
      · rfl
      · rename_i h3
        rw [if_neg h3] at h
        split
        · rename_i h4
          rw [if_pos h4] at h
          exact absurd rfl h
        · rfl
theorem lotB_pos (l : List Sp) (hl : l.length ≤ 256) : 1 ≤ (lotB l).length := by
  have h : 1 ≤ (VariP.putI (l.length : Int)).length := by
    have := VariP.put_pos l.length
    unfold VariP.putI
    rw [if_neg (by omega), Int.toNat_natCast]
    exact this
  unfold lotB
  rw [List.length_append]
  omega
/-- what is put of records, and read again, and read where it is cut off -/
theorem put_cut (A : Option Addr) (c : Nat) (l : List Sp) (hok : ∀ x ∈ l, x.Ok) (hf : fewS 20 l) (q : Nat) : ∃ (PA : ByteArray) (ea : Int), ((ea = 0 ∧ 1 ≤ PA.size ∧ PA.size ≤ 90000) ∨ (ea = 1 ∧ PA = ⟨#[]⟩)) ∧
    (∀ W, RdS W W.heap.size A l → Calls Try.prog 50 #[.slice A l.length c] W fun e w' => e = .returned (.tuple #[.string PA, .int .i64 ea]) ∧ Below W.heap.size W w') ∧
    (ea = 0 → ∀ W, Calls Try.prog 52 #[.string PA] W fun e w' => ∃ A' c', e = .returned (.tuple #[.slice A' l.length c', .int .i64 0]) ∧ RdS w' w'.heap.size A' l ∧ Below W.heap.size W w') ∧
    (ea = 0 → ∀ W, Calls Try.prog 52 #[.string (PA.extract 0 (q % PA.size))] W fun e w' => ∃ A' c', e = .returned (.tuple #[.slice A' 0 c', .int .i64 3]) ∧ Below W.heap.size W w') := by
  have h20 := hf.1
  obtain ⟨PA, ea, h, P, _⟩ := put_both A c l (by omega) hok (few_short3 hf)
  rcases h with ⟨hm, rfl, rfl⟩ | ⟨hm, rfl, rfl⟩
  · have hfit := fit_all hok hm
    have hle := encs_len (few_short3 hf)
    have hp := putI_len (l.length : Int)
    have hsz : (⟨(lotB l).toArray⟩ : ByteArray).size = (lotB l).length := rfl
    have hl1 := lotB_pos l (by omega)
    have hl2 : (lotB l).length ≤ 90000 := by unfold lotB; rw [List.length_append]; omega
    refine ⟨_, 0, .inl ⟨rfl, by omega, by omega⟩, P, fun _ W => ?_, fun _ W => ?_⟩
    · have := lot_Take ⟨(lotB l).toArray⟩ (by omega) W
      rw [show (⟨(lotB l).toArray⟩ : ByteArray).data.toList = lotB l from rfl, takeL_lotB l (by omega) hfit hm] at this
      refine this.mono ?_
      rintro e w' ⟨A', c', rfl, hr, _, _, hb⟩
      exact ⟨A', c', rfl, hr, hb⟩
    · have hlt : q % (lotB l).length < (lotB l).length := Nat.mod_lt _ (by omega)
      have := lot_Take ((⟨(lotB l).toArray⟩ : ByteArray).extract 0 (q % (lotB l).length)) (by rw [ByteArray.size_extract]; omega) W
      rw [show ((⟨(lotB l).toArray⟩ : ByteArray).extract 0 (q % (lotB l).length)).data.toList = (lotB l).take (q % (lotB l).length) by simp, takeL_short l (by omega) hfit _ hlt] at this
      rw [hsz]
      refine this.mono ?_
      rintro e w' ⟨A', c', rfl, hr, _, _, hb⟩
      exact ⟨A', c', rfl, hb⟩
  · exact ⟨_, 1, .inr ⟨rfl, rfl⟩, P, fun h => absurd h (by decide), fun h => absurd h (by decide)⟩
/-- what is taken of any bytes: records that are put so, or none -/
theorem take_put (s : ByteArray) (hs : s.size ≤ 1024) : ∃ (rl : List Sp) (re : Int), (∀ W, Calls Try.prog 52 #[.string s] W fun e w' => ∃ A' c', e = .returned (.tuple #[.slice A' rl.length c', .int .i64 re]) ∧ RdS w' w'.heap.size A' rl ∧ Below W.heap.size W w') ∧
    ((re ≠ 0 ∧ rl = []) ∨ (re = 0 ∧ ∀ (A' : Option Addr) (c' : Nat) (W : World), RdS W W.heap.size A' rl → Calls Try.prog 50 #[.slice A' rl.length c'] W fun e w' => e = .returned (.tuple #[.string s, .int .i64 0]) ∧ Below W.heap.size W w')) := by
  have hT := lot_Take s (by omega)
  have hbk := takeL_back s.data.toList
  have her := takeL_err s.data.toList
  generalize takeL s.data.toList = R at hT hbk her
  obtain ⟨rl, re⟩ := R
  refine ⟨rl, re, fun W => (hT W).mono ?_, ?_⟩
  · rintro e w' ⟨A', c', rfl, hr, _, _, hb⟩
    exact ⟨A', c', rfl, hr, hb⟩
  · by_cases hre : re = 0
    · subst hre
      obtain ⟨h1, h2, h3, h4, h5⟩ := hbk rl rfl
      refine .inr ⟨rfl, fun A' c' W hr => ?_⟩
      have := lot_Put_ok A' c' rl h3 h4 h5 h2 W hr
      rw [h1] at this
      exact this
    · exact .inl ⟨hre, her hre⟩

set_option maxRecDepth 100000 in
theorem law11_LotBack_out (A : Option Addr) (c : Nat) (l : List Sp) (s : ByteArray) (q : Int) (hm : l.length ≤ maxLen) (hok : ∀ x ∈ l, x.Ok) (h : ¬ (fewS 20 l ∧ s.size ≤ 1024)) (hss : s.size ≤ maxLen) (w : World) (hr : RdS w w.heap.size A l) :
    Calls Try.prog 13 #[.slice A l.length c, .string s, .int .u16 q] w fun e w' => e = .returned (.bool true) ∧ Below w.heap.size w w' := by
  by_cases hf : fewS 20 l
  · have hs : ¬ s.size ≤ 1024 := fun h2 => h ⟨hf, h2⟩
    have HF := Lib.hid (show Calls Try.prog 16 #[.slice A l.length c, .int .i64 20] w fun e w' => e = .returned (.bool true) ∧ Below w.heap.size w w' from ref9_Few_yes A c l 20 (by decide) hf w hr)
    clear hf h hr hok
    unfold maxLen at hss
    go_enter Try.func13, Try.ntmps13
    go_wp2_with (first
      | (go_at_call 16; (with_reducible refine (HF.out).mono ?_); rintro e w1 ⟨rfl, b1⟩)
      | (go_at_call 49; (with_reducible refine (law11_awake _).mono ?_); rintro e w2 ⟨rfl, b2⟩))
    go_ret
    exact ⟨rfl, by (repeat (first | assumption | exact Below.refl _ _ | refine below_step (by assumption) ?_ | refine below_alloc' _ ?_ | refine below_drewN ?_ _ | refine Below.drew ?_))⟩
  · have HF := Lib.hid (show Calls Try.prog 16 #[.slice A l.length c, .int .i64 20] w fun e w' => e = .returned (.bool false) ∧ Below w.heap.size w w' from ref9_Few_no A c l hm hok 20 (by decide) hf w hr)
    clear hf h hr hok
    go_enter Try.func13, Try.ntmps13
    go_wp2_with (first
      | (go_at_call 16; (with_reducible refine (HF.out).mono ?_); rintro e w1 ⟨rfl, b1⟩)
      | (go_at_call 49; (with_reducible refine (law11_awake _).mono ?_); rintro e w2 ⟨rfl, b2⟩))
    go_ret
    exact ⟨rfl, by (repeat (first | assumption | exact Below.refl _ _ | refine below_step (by assumption) ?_ | refine below_alloc' _ ?_ | refine below_drewN ?_ _ | refine Below.drew ?_))⟩
set_option maxRecDepth 100000 in
set_option maxHeartbeats 8000000 in
theorem law11_LotBack_in (A : Option Addr) (c : Nat) (l : List Sp) (s : ByteArray) (q : Nat) (hq : q < 65536) (hok : ∀ x ∈ l, x.Ok) (hf : fewS 20 l) (hs : s.size ≤ 1024) (w : World) (hr : RdS w w.heap.size A l) :
    Calls Try.prog 13 #[.slice A l.length c, .string s, .int .u16 (q : Int)] w fun e w' => e = .returned (.bool true) ∧ Below w.heap.size w w' := by
  have h20 := hf.1
  obtain ⟨PA, ea, hea, P, T1, T2⟩ := put_cut A c l hok hf q
  obtain ⟨rl, re, T3, hre⟩ := take_put s hs
  have HF := Lib.hid (show Calls Try.prog 16 #[.slice A l.length c, .int .i64 20] w fun e w' => e = .returned (.bool true) ∧ Below w.heap.size w w' from ref9_Few_yes A c l 20 (by decide) hf w hr)
  have HP := Lib.hid (fun (W : World) (hb : Below w.heap.size w W) => P W ((hr.below hb).more hb.size))
  have HR := Lib.hid (fun (W : World) (hb : Below w.heap.size w W) => ((hr.below hb).more hb.size : RdS W W.heap.size A l))
  have HT3 := Lib.hid T3
  obtain ⟨kk, hkk⟩ : ∃ kk, q % PA.size = kk := ⟨_, rfl⟩
  rw [hkk] at T2
  have hmod : (q : Int) % (PA.size : Int) = (kk : Int) := by rw [← hkk]; rfl
  have hkl : 1 ≤ PA.size → kk < PA.size := fun h => by rw [← hkk]; exact Nat.mod_lt _ h
  clear hf hr hok P T3 hkk
  rcases hre with ⟨hre, rfl⟩ | ⟨rfl, P2⟩
  · have hre2 : (re != 0) = true := by rw [bne_iff_ne]; exact hre
    clear hre
    rcases hea with ⟨rfl, hp1, hp2⟩ | ⟨rfl, rfl⟩
    · have HT1 := Lib.hid (T1 rfl)
      have HT2 := Lib.hid (T2 rfl)
      have hkl2 : (kk : Int) ≤ (PA.size : Int) := by have := hkl hp1; omega
      have hpz : ((PA.size : Int) == 0) = false := by rw [beq_eq_false_iff_ne]; omega
      clear hkl T1 T2
      go_enter Try.func13, Try.ntmps13
      go_wp2_with (first
        | (go_at_call 16; (with_reducible refine (HF.out).mono ?_); rintro e w1 ⟨rfl, b1⟩)
        | (go_at_call 50; (with_reducible refine (HP.out _ (by (repeat (first | assumption | exact Below.refl _ _ | refine below_step (by assumption) ?_ | refine below_alloc' _ ?_ | refine below_drewN ?_ _ | refine Below.drew ?_)))).mono ?_); rintro e w2 ⟨rfl, b2⟩)
        | (go_at_call 52; (with_reducible refine (HT1.out _).mono ?_); rintro e w3 ⟨A3, c3, rfl, r3, b3⟩; have HSM := Lib.hid (fun (W : World) (h1 : Below w3.heap.size w3 W) (h2 : Below w.heap.size w W) => ref9_Same A3 A c3 c l (by unfold maxLen; omega) W ((r3.below h1).more h1.size) (HR.out W h2)))
        | (go_at_call 56; (with_reducible refine (HSM.out _ (by (repeat (first | assumption | exact Below.refl _ _ | refine below_step (by assumption) ?_ | refine below_alloc' _ ?_ | refine below_drewN ?_ _ | refine Below.drew ?_))) (by (repeat (first | assumption | exact Below.refl _ _ | refine below_step (by assumption) ?_ | refine below_alloc' _ ?_ | refine below_drewN ?_ _ | refine Below.drew ?_)))).mono ?_); rintro e w4 ⟨rfl, b4⟩)
        | (go_at_call 52; (with_reducible refine (HT2.out _).mono ?_); rintro e w5 ⟨A5, c5, rfl, b5⟩)
        | (go_at_call 52; (with_reducible refine (HT3.out _).mono ?_); rintro e w6 ⟨A6, c6, rfl, r6, b6⟩)
        | (go_at_call 49; (with_reducible refine (law11_awake _).mono ?_); rintro e w9 ⟨rfl, b9⟩))
      go_ret
      exact ⟨rfl, by (repeat (first | assumption | exact Below.refl _ _ | refine below_step (by assumption) ?_ | refine below_alloc' _ ?_ | refine below_drewN ?_ _ | refine Below.drew ?_))⟩
    · clear hkl T1 T2 hmod
      go_enter Try.func13, Try.ntmps13
      go_wp2_with (first
        | (go_at_call 16; (with_reducible refine (HF.out).mono ?_); rintro e w1 ⟨rfl, b1⟩)
        | (go_at_call 50; (with_reducible refine (HP.out _ (by (repeat (first | assumption | exact Below.refl _ _ | refine below_step (by assumption) ?_ | refine below_alloc' _ ?_ | refine below_drewN ?_ _ | refine Below.drew ?_)))).mono ?_); rintro e w2 ⟨rfl, b2⟩)
        | (go_at_call 52; (with_reducible refine (HT3.out _).mono ?_); rintro e w6 ⟨A6, c6, rfl, r6, b6⟩)
        | (go_at_call 49; (with_reducible refine (law11_awake _).mono ?_); rintro e w9 ⟨rfl, b9⟩))
      go_ret
      exact ⟨rfl, by (repeat (first | assumption | exact Below.refl _ _ | refine below_step (by assumption) ?_ | refine below_alloc' _ ?_ | refine below_drewN ?_ _ | refine Below.drew ?_))⟩
  · have HPP := Lib.hid P2
    clear P2
    rcases hea with ⟨rfl, hp1, hp2⟩ | ⟨rfl, rfl⟩
    · have HT1 := Lib.hid (T1 rfl)
      have HT2 := Lib.hid (T2 rfl)
      have hkl2 : (kk : Int) ≤ (PA.size : Int) := by have := hkl hp1; omega
      have hpz : ((PA.size : Int) == 0) = false := by rw [beq_eq_false_iff_ne]; omega
      clear hkl T1 T2
      go_enter Try.func13, Try.ntmps13
      go_wp2_with (first
        | (go_at_call 16; (with_reducible refine (HF.out).mono ?_); rintro e w1 ⟨rfl, b1⟩)
        | (go_at_call 50; (with_reducible refine (HP.out _ (by (repeat (first | assumption | exact Below.refl _ _ | refine below_step (by assumption) ?_ | refine below_alloc' _ ?_ | refine below_drewN ?_ _ | refine Below.drew ?_)))).mono ?_); rintro e w2 ⟨rfl, b2⟩)
        | (go_at_call 52; (with_reducible refine (HT1.out _).mono ?_); rintro e w3 ⟨A3, c3, rfl, r3, b3⟩; have HSM := Lib.hid (fun (W : World) (h1 : Below w3.heap.size w3 W) (h2 : Below w.heap.size w W) => ref9_Same A3 A c3 c l (by unfold maxLen; omega) W ((r3.below h1).more h1.size) (HR.out W h2)))
        | (go_at_call 56; (with_reducible refine (HSM.out _ (by (repeat (first | assumption | exact Below.refl _ _ | refine below_step (by assumption) ?_ | refine below_alloc' _ ?_ | refine below_drewN ?_ _ | refine Below.drew ?_))) (by (repeat (first | assumption | exact Below.refl _ _ | refine below_step (by assumption) ?_ | refine below_alloc' _ ?_ | refine below_drewN ?_ _ | refine Below.drew ?_)))).mono ?_); rintro e w4 ⟨rfl, b4⟩)
        | (go_at_call 52; (with_reducible refine (HT2.out _).mono ?_); rintro e w5 ⟨A5, c5, rfl, b5⟩)
        | (go_at_call 52; (with_reducible refine (HT3.out _).mono ?_); rintro e w6 ⟨A6, c6, rfl, r6, b6⟩; have HQ := Lib.hid (fun (W : World) (h1 : Below w6.heap.size w6 W) => HPP.out A6 c6 W ((r6.below h1).more h1.size)))
        | (go_at_call 50; (with_reducible refine (HQ.out _ (by (repeat (first | assumption | exact Below.refl _ _ | refine below_step (by assumption) ?_ | refine below_alloc' _ ?_ | refine below_drewN ?_ _ | refine Below.drew ?_)))).mono ?_); rintro e w7 ⟨rfl, b7⟩)
        | (go_at_call 49; (with_reducible refine (law11_awake _).mono ?_); rintro e w9 ⟨rfl, b9⟩))
      go_ret
      exact ⟨rfl, by (repeat (first | assumption | exact Below.refl _ _ | refine below_step (by assumption) ?_ | refine below_alloc' _ ?_ | refine below_drewN ?_ _ | refine Below.drew ?_))⟩
    · clear hkl T1 T2 hmod
      go_enter Try.func13, Try.ntmps13
      go_wp2_with (first
        | (go_at_call 16; (with_reducible refine (HF.out).mono ?_); rintro e w1 ⟨rfl, b1⟩)
        | (go_at_call 50; (with_reducible refine (HP.out _ (by (repeat (first | assumption | exact Below.refl _ _ | refine below_step (by assumption) ?_ | refine below_alloc' _ ?_ | refine below_drewN ?_ _ | refine Below.drew ?_)))).mono ?_); rintro e w2 ⟨rfl, b2⟩)
        | (go_at_call 52; (with_reducible refine (HT3.out _).mono ?_); rintro e w6 ⟨A6, c6, rfl, r6, b6⟩; have HQ := Lib.hid (fun (W : World) (h1 : Below w6.heap.size w6 W) => HPP.out A6 c6 W ((r6.below h1).more h1.size)))
        | (go_at_call 50; (with_reducible refine (HQ.out _ (by (repeat (first | assumption | exact Below.refl _ _ | refine below_step (by assumption) ?_ | refine below_alloc' _ ?_ | refine below_drewN ?_ _ | refine Below.drew ?_)))).mono ?_); rintro e w7 ⟨rfl, b7⟩)
        | (go_at_call 49; (with_reducible refine (law11_awake _).mono ?_); rintro e w9 ⟨rfl, b9⟩))
      go_ret
      exact ⟨rfl, by (repeat (first | assumption | exact Below.refl _ _ | refine below_step (by assumption) ?_ | refine below_alloc' _ ?_ | refine below_drewN ?_ _ | refine Below.drew ?_))⟩
theorem law11_LotBack (a : SlSp) (s : ByteArray) (q : Int) (w : World) (ha : a.Ok w) (hs : s.size ≤ maxLen) (hq : (Lit.int .u16 q).wf = true) :
    Calls Try.prog 13 #[.slice a.A a.l.length a.c, .string s, .int .u16 q] w fun e w' => e = .returned (.bool true) ∧ Below w.heap.size w w' := by
  have hq' : 0 ≤ q ∧ q ≤ 65535 := by simpa [Lit.wf, IntKind.min, IntKind.max, IntKind.signed, IntKind.bits] using hq
  by_cases h : fewS 20 a.l ∧ s.size ≤ 1024
  · obtain ⟨n, rfl⟩ := Int.eq_ofNat_of_zero_le hq'.1
    exact law11_LotBack_in a.A a.c a.l s n (by omega) ha.2.2.2.1 h.1 h.2 w ha.2.2.2.2
  · exact law11_LotBack_out a.A a.c a.l s q ha.1 ha.2.2.2.1 h hs w ha.2.2.2.2
end Go.Proofs.Ytkhnmdmpkedifaa
