/- Walks of layer 10 (rank): which of two records is newer. -/
import Derived.Test.YtkhnmdmpkedifaaLaw09c
import Derived.Test.YtkhnmdmpkedifaaRankP
import Derived.Lib.Bytealg
namespace Go.Proofs.Ytkhnmdmpkedifaa
open Go.ChangeShapes Go.WideShapes Go.ChangeAt Go.RowKit Go.Deep

theorem cmp_Compare (x y : Int) (w : World) :
    Calls Try.prog 91 #[.int .i64 x, .int .i64 y] w fun e w' => e = .returned (.int .i64 (if x < y then -1 else if y < x then 1 else 0)) ∧ w = w' := by
  by_cases h : x < y
  · rw [if_pos h]
    go_enter Try.func91, Try.ntmps91
    go_wp2
    go_ret
    exact ⟨rfl, rfl⟩
  · rw [if_neg h]
    by_cases h2 : y < x
    · rw [if_pos h2]
      go_enter Try.func91, Try.ntmps91
      go_wp2
      go_ret
      exact ⟨rfl, rfl⟩
    · rw [if_neg h2]
      go_enter Try.func91, Try.ntmps91
      go_wp2
      go_ret
      exact ⟨rfl, rfl⟩

set_option maxRecDepth 100000 in
theorem bytealg_CompareString (a b : ByteArray) (w : World) :
    Calls Try.prog 109 #[.string a, .string b] w fun e w' => e = .returned (.int .i64 (Lib.compareBytes a.data.toList b.data.toList)) ∧ w = w' := by
  go_enter Try.func109, Try.ntmps109
  go_wp2
  rw [run_callFunc_extern Try.func112 (by kernel_rfl) (by kernel_rfl) (by kernel_rfl) (e := Extern.BytealgCompare.compare) (by kernel_rfl), Lib.run_compareString]
  simp only [Result.andThen]
  rw [Oper.upon_value]
  go_wp2
  go_ret
  exact ⟨rfl, rfl⟩
theorem strings_Compare (a b : ByteArray) (w : World) :
    Calls Try.prog 92 #[.string a, .string b] w fun e w' => e = .returned (.int .i64 (Lib.compareBytes a.data.toList b.data.toList)) ∧ w = w' := by
  go_enter Try.func92, Try.ntmps92
  go_wp2_with (go_at_call 109; refine (bytealg_CompareString _ _ _).mono ?_; rintro e w' ⟨rfl, rfl⟩)
  go_ret
  exact ⟨rfl, rfl⟩

theorem Sp.kept_Ok (x : Sp) (hx : x.Ok) : x.kept.Ok := ⟨hx.1, hx.2.1, hx.2.2.1, hx.2.2.2.1, hx.2.2.2.2.1, clamp_I64 _ _ _ hx.2.2.2.2.2.1 zero_I64 maxDur_I64, hx.2.2.2.2.2.2.1, hx.2.2.2.2.2.2.2⟩
theorem spP_kept (x : Sp) : spP x.kept = RankP.keptP (spP x) := rfl
theorem putS_len (x : Sp) (hs : x.sv.size ≤ 100 ∧ x.op.size ≤ 100) : (CodeP.putS (spP x)).1.length ≤ 100000 := by
  unfold CodeP.putS
  split
  · have h1 := enc_len (spP x)
    have h2 : (spP x).sv.length = x.sv.size := rfl
    have h3 : (spP x).op.length = x.op.size := rfl
    simp only
    omega
  · simp
def Sp.few (x : Sp) : Prop := x.sv.size ≤ 100 ∧ x.op.size ≤ 100
set_option maxRecDepth 100000 in
set_option maxHeartbeats 1000000 in
theorem rank_order (x y : Sp) (hx : x.Ok) (hy : y.Ok) (hxs : x.few) (hys : y.few) (w : World) :
    Calls Try.prog 60 #[.agg #[.int .i64 x.tr, .int .i64 x.id, .int .i64 x.pa, .int .i64 x.rv, .string x.sv, .string x.op, .int .i64 x.st, .int .i64 x.du, .bool x.gn], .agg #[.int .i64 y.tr, .int .i64 y.id, .int .i64 y.pa, .int .i64 y.rv, .string y.sv, .string y.op, .int .i64 y.st, .int .i64 y.du, .bool y.gn]] w fun e w' => e = .returned (.int .i64 (RankP.ordI (spP x) (spP y))) ∧ Below w.heap.size w w' := by
  have P1 := code_Put x.kept (Sp.kept_Ok x hx) ⟨Nat.le_trans hxs.1 (by omega), Nat.le_trans hxs.2 (by omega)⟩
  have P2 := code_Put y.kept (Sp.kept_Ok y hy) ⟨Nat.le_trans hys.1 (by omega), Nat.le_trans hys.2 (by omega)⟩
  have K1 := sat_Kept x
  have K2 := sat_Kept y
  have C := strings_Compare ⟨(CodeP.putS (spP x.kept)).1.toArray⟩ ⟨(CodeP.putS (spP y.kept)).1.toArray⟩
  have ho : RankP.ordI (spP x) (spP y) = if x.rv < y.rv then -1 else if y.rv < x.rv then 1 else Lib.compareBytes (CodeP.putS (spP x.kept)).1 (CodeP.putS (spP y.kept)).1 := rfl
  rw [ho]
  clear ho
  simp only at C
  generalize (CodeP.putS (spP x.kept)).2 = e1 at P1
  generalize (CodeP.putS (spP y.kept)).2 = e2 at P2
  generalize Lib.compareBytes (CodeP.putS (spP x.kept)).1 (CodeP.putS (spP y.kept)).1 = cv at C ⊢
  generalize (⟨(CodeP.putS (spP x.kept)).1.toArray⟩ : ByteArray) = PA at P1 C
  generalize (⟨(CodeP.putS (spP y.kept)).1.toArray⟩ : ByteArray) = PB at P2 C
  obtain ⟨xtr, xid, xpa, xrv, xsv, xop, xst, xdu, xgn⟩ := x
  obtain ⟨ytr, yid, ypa, yrv, ysv, yop, yst, ydu, ygn⟩ := y
  simp only [Sp.kept] at P1 P2 K1 K2 ⊢
  generalize clampS xdu 0 4611686018427387904 = xk at P1 K1
  generalize clampS ydu 0 4611686018427387904 = yk at P2 K2
  have CM := cmp_Compare xrv yrv
  have HP1 := Lib.hid P1
  have HP2 := Lib.hid P2
  have HK1 := Lib.hid K1
  have HK2 := Lib.hid K2
  have HC := Lib.hid C
  have KX := Lib.hid (fun o => alloc2_0 w (.cells #[.int .i64 xtr, .int .i64 xid, .int .i64 xpa, .int .i64 xrv, .string xsv, .string xop, .int .i64 xst, .int .i64 xdu, .bool xgn] 23) o)
  have KY := Lib.hid (fun o => alloc2_1 w o (.cells #[.int .i64 ytr, .int .i64 yid, .int .i64 ypa, .int .i64 yrv, .string ysv, .string yop, .int .i64 yst, .int .i64 ydu, .bool ygn] 23))
  clear P1 P2 K1 K2 C hx hy hxs hys
  by_cases h : xrv < yrv
  · rw [if_pos h] at CM ⊢
    have HCM := Lib.hid CM
    clear CM h
    go_enter Try.func60, Try.ntmps60
    go_wp2_with (go_at_call 91; (with_reducible refine (HCM.out _).mono ?_); rintro e w1 ⟨rfl, rfl⟩)
    go_ret
    exact ⟨rfl, by (repeat (first | assumption | exact Below.refl _ _ | refine below_step (by assumption) ?_ | refine below_alloc' _ ?_ | refine below_drewN ?_ _ | refine Below.drew ?_))⟩
  · rw [if_neg h] at CM ⊢
    by_cases h2 : yrv < xrv
    · rw [if_pos h2] at CM ⊢
      have HCM := Lib.hid CM
      clear CM h h2
      go_enter Try.func60, Try.ntmps60
      go_wp2_with (go_at_call 91; (with_reducible refine (HCM.out _).mono ?_); rintro e w1 ⟨rfl, rfl⟩)
      go_ret
      exact ⟨rfl, by (repeat (first | assumption | exact Below.refl _ _ | refine below_step (by assumption) ?_ | refine below_alloc' _ ?_ | refine below_drewN ?_ _ | refine Below.drew ?_))⟩
    · rw [if_neg h2] at CM ⊢
      have HCM := Lib.hid CM
      clear CM h h2
      go_enter Try.func60, Try.ntmps60
      go_wp2_with (first
        | (go_at_call 91; (with_reducible refine (HCM.out _).mono ?_); rintro e w1 ⟨rfl, rfl⟩)
        | (go_at_call 58; (with_reducible refine (HK1.out _).mono ?_); rintro e w2 ⟨rfl, b2⟩; have k2 := kept (KX.out _) b2; have m2 := kept (KY.out _) b2)
        | (go_at_call 37; (with_reducible refine (HP1.out _).mono ?_); rintro e w3 ⟨rfl, b3⟩; have m3 := kept m2 b3; have f3 := box_cells m3)
        | (go_at_call 58; (with_reducible refine (HK2.out _).mono ?_); rintro e w4 ⟨rfl, b4⟩)
        | (go_at_call 37; (with_reducible refine (HP2.out _).mono ?_); rintro e w5 ⟨rfl, b5⟩)
        | (go_at_call 92; (with_reducible refine (HC.out _).mono ?_); rintro e w6 ⟨rfl, rfl⟩))
      go_ret
      exact ⟨rfl, by (repeat (first | assumption | exact Below.refl _ _ | refine below_step (by assumption) ?_ | refine below_alloc' _ ?_ | refine below_drewN ?_ _ | refine Below.drew ?_))⟩
set_option maxRecDepth 100000 in
theorem rank_Newer (x y : Sp) (hx : x.Ok) (hy : y.Ok) (hxs : x.few) (hys : y.few) (w : World) :
    Calls Try.prog 20 #[.agg #[.int .i64 x.tr, .int .i64 x.id, .int .i64 x.pa, .int .i64 x.rv, .string x.sv, .string x.op, .int .i64 x.st, .int .i64 x.du, .bool x.gn], .agg #[.int .i64 y.tr, .int .i64 y.id, .int .i64 y.pa, .int .i64 y.rv, .string y.sv, .string y.op, .int .i64 y.st, .int .i64 y.du, .bool y.gn]] w fun e w' => e = .returned (.bool (RankP.newer (spP x) (spP y))) ∧ Below w.heap.size w w' := by
  have O := rank_order x y hx hy hxs hys
  unfold RankP.newer
  generalize RankP.ordI (spP x) (spP y) = n at O ⊢
  have HO := Lib.hid O
  clear O hx hy hxs hys
  go_enter Try.func20, Try.ntmps20
  go_wp2_with (go_at_call 60; (with_reducible refine (HO.out _).mono ?_); rintro e w1 ⟨rfl, b1⟩)
  go_ret
  exact ⟨rfl, by (repeat (first | assumption | exact Below.refl _ _ | refine below_step (by assumption) ?_ | refine below_alloc' _ ?_ | refine below_drewN ?_ _ | refine Below.drew ?_))⟩
set_option maxRecDepth 100000 in
set_option maxHeartbeats 1000000 in
theorem rank_Same (x y : Sp) (w : World) :
    Calls Try.prog 22 #[.agg #[.int .i64 x.tr, .int .i64 x.id, .int .i64 x.pa, .int .i64 x.rv, .string x.sv, .string x.op, .int .i64 x.st, .int .i64 x.du, .bool x.gn], .agg #[.int .i64 y.tr, .int .i64 y.id, .int .i64 y.pa, .int .i64 y.rv, .string y.sv, .string y.op, .int .i64 y.st, .int .i64 y.du, .bool y.gn]] w fun e w' => e = .returned (.bool (spEq x.kept y.kept)) ∧ Below w.heap.size w w' := by
  have K1 := sat_Kept x
  have K2 := sat_Kept y
  obtain ⟨xtr, xid, xpa, xrv, xsv, xop, xst, xdu, xgn⟩ := x
  obtain ⟨ytr, yid, ypa, yrv, ysv, yop, yst, ydu, ygn⟩ := y
  simp only [Sp.kept] at K1 K2 ⊢
  generalize clampS xdu 0 4611686018427387904 = xk at K1 ⊢
  generalize clampS ydu 0 4611686018427387904 = yk at K2 ⊢
  have HK1 := Lib.hid K1
  have HK2 := Lib.hid K2
  clear K1 K2
  go_enter Try.func22, Try.ntmps22
  go_wp2_with fail
  have cX := fun u => later_at (alloc2_0 w (.cells #[.int .i64 xtr, .int .i64 xid, .int .i64 xpa, .int .i64 xrv, .string xsv, .string xop, .int .i64 xst, .int .i64 xdu, .bool xgn] 23) (.cells #[.int .i64 ytr, .int .i64 yid, .int .i64 ypa, .int .i64 yrv, .string ysv, .string yop, .int .i64 yst, .int .i64 ydu, .bool ygn] 23)) (B := w.heap.size + 1 + 1) (by omega) u
  have cY := fun u => later_at (alloc2_1 w (.cells #[.int .i64 xtr, .int .i64 xid, .int .i64 xpa, .int .i64 xrv, .string xsv, .string xop, .int .i64 xst, .int .i64 xdu, .bool xgn] 23) (.cells #[.int .i64 ytr, .int .i64 yid, .int .i64 ypa, .int .i64 yrv, .string ysv, .string yop, .int .i64 yst, .int .i64 ydu, .bool ygn] 23)) (B := w.heap.size + 1 + 1) (by omega) u
  refine wp_region_later (w.heap.size + 1 + 1) (by kernel_rfl) (by kernel_rfl) ?_
  repeat (go_big_quiet_step ((first
    | (go_at_call 58; exact later_of _ (by simp) (HK1.out _))
    | (go_at_call 58; exact later_of _ (by simp) (HK2.out _)))))
  refine wpQuiet_nil ?_; intro _ hw'; obtain ⟨u, hw''⟩ := hw'; subst hw''
  go_wp2_with fail
  go_ret
  refine ⟨rfl, below_later9 ?_ u⟩
  (repeat (first | assumption | exact Below.refl _ _ | refine below_step (by assumption) ?_ | refine below_alloc' _ ?_ | refine below_drewN ?_ _ | refine Below.drew ?_))

/-- behind: beyond in order -/
theorem drop_cmp (a b : List UInt8) (k : Nat) (ha : k < a.length) (hb : k < b.length) : Lib.compareBytes (a.drop k) (b.drop k) = if (a.getD k 0).toNat < (b.getD k 0).toNat then -1 else if (b.getD k 0).toNat < (a.getD k 0).toNat then 1 else Lib.compareBytes (a.drop (k + 1)) (b.drop (k + 1)) := by
  rw [List.drop_eq_getElem_cons ha, List.drop_eq_getElem_cons hb]
  have e1 : a.getD k 0 = a[k] := by rw [List.getD_eq_getElem?_getD, List.getElem?_eq_getElem ha]; rfl
  have e2 : b.getD k 0 = b[k] := by rw [List.getD_eq_getElem?_getD, List.getElem?_eq_getElem hb]; rfl
  rw [e1, e2]
  rfl
set_option maxRecDepth 100000 in
set_option maxHeartbeats 1000000 in
theorem ref10_behind (a b : ByteArray) (ha : a.size ≤ 100000) (hb : b.size ≤ 100000) (w : World) :
    Calls Try.prog 61 #[.string a, .string b] w fun e w' => e = .returned (.bool (decide (0 < Lib.compareBytes a.data.toList b.data.toList))) ∧ Below w.heap.size w w' := by
  have la : a.data.toList.length = a.size := rfl
  have lb : b.data.toList.length = b.size := rfl
  have HD := Lib.hid (fun k h1 h2 => drop_cmp a.data.toList b.data.toList k h1 h2)
  rw [la, lb] at HD
  have HGA := Lib.hid (fun (k : Nat) (h : k < a.size) => (show a[k] = a.data.toList.getD k 0 by rw [List.getD_eq_getElem?_getD, List.getElem?_eq_getElem h]; rfl))
  have HGB := Lib.hid (fun (k : Nat) (h : k < b.size) => (show b[k] = b.data.toList.getD k 0 by rw [List.getD_eq_getElem?_getD, List.getElem?_eq_getElem h]; rfl))
  have HEA := Lib.hid (show a.data.toList.drop a.size = [] from List.drop_of_length_le (by rw [la]; exact Nat.le_refl _))
  have HEB := Lib.hid (show b.data.toList.drop b.size = [] from List.drop_of_length_le (by rw [lb]; exact Nat.le_refl _))
  have HNE := Lib.hid (fun (k : Nat) (h : k < a.size) => (show ∃ c l, a.data.toList.drop k = c :: l from ⟨_, _, List.drop_eq_getElem_cons h⟩))
  obtain ⟨R, hR⟩ : ∃ R : Bool, decide (0 < Lib.compareBytes a.data.toList b.data.toList) = R := ⟨_, rfl⟩
  rw [hR]
  have HR0 := Lib.hid hR
  clear hR
  go_enter Try.func61, Try.ntmps61
  go_wp2_with fail
  go_loopw [5] (fun i wr => ∃ k : Nat, k ≤ a.size ∧ k ≤ b.size ∧ i = .int .i64 k ∧ Below w.heap.size w wr ∧ decide (0 < Lib.compareBytes (a.data.toList.drop k) (b.data.toList.drop k)) = R) (fun i _ => a.size - (intOf i).toNat)
  case atStart => exact ⟨0, by omega, by omega, rfl, Below.refl _ _, HR0.out⟩
  case round =>
    obtain ⟨k, hk, hkb, rfl, hb1, hpre⟩ := hrel
    have HP := Lib.hid hpre
    clear hpre
    have hi0 : (0 : Int) ≤ (k : Int) := by omega
    by_cases hlt : k < a.size
    · have hi1 : (k : Int) < (a.size : Int) := by omega
      by_cases hltb : k < b.size
      · have hi2 : (k : Int) < (b.size : Int) := by omega
        have hga := congrArg UInt8.toNat (HGA.out k hlt)
        have hgb := congrArg UInt8.toNat (HGB.out k hltb)
        have hd := HD.out k hlt hltb
        have hta := (a.data.toList.getD k 0).toNat_lt
        have htb := (b.data.toList.getD k 0).toNat_lt
        generalize (a.data.toList.getD k 0).toNat = xa at hga hd hta
        generalize (b.data.toList.getD k 0).toNat = xb at hgb hd htb
        by_cases c1 : xb < xa
        · rw [if_neg (by omega), if_pos c1] at hd
          have hr : R = true := by rw [← HP.out, hd]; rfl
          have HRR := Lib.hid hr
          clear hd hr
          go_wp2_with fail
          go_quiet (fail)
          go_wp2_with fail
          go_ret
          exact ⟨by rw [HRR.out]; rfl, below_drewN hb1 _⟩
        · have g1 : decide ((xb : Int) < (xa : Int)) = false := by rw [decide_eq_false_iff_not]; omega
          by_cases c2 : xa < xb
          · rw [if_pos c2] at hd
            have hr : R = false := by rw [← HP.out, hd]; rfl
            have HRR := Lib.hid hr
            clear hd hr
            go_wp2_with fail
            go_quiet (fail)
            go_wp2_with fail
            go_quiet (fail)
            go_wp2_with fail
            go_ret
            exact ⟨by rw [HRR.out]; rfl, below_drewN (below_drewN hb1 _) _⟩
          · rw [if_neg c2, if_neg c1] at hd
            have g2 : decide ((xa : Int) < (xb : Int)) = false := by rw [decide_eq_false_iff_not]; omega
            have HD2 := Lib.hid hd
            clear hd
            go_wp2_with fail
            go_quiet (fail)
            go_wp2_with fail
            go_quiet (fail)
            go_wp2_with fail
            exact ⟨⟨k + 1, by omega, by omega, by go_num, below_drewN hb1 _, by rw [← HD2.out]; exact HP.out⟩, by simp [intOf]; omega⟩
      · obtain rfl : k = b.size := by omega
        obtain ⟨c, l, hcl⟩ := HNE.out _ hlt
        have hr : R = true := by rw [← HP.out, HEB.out, hcl]; rfl
        have HRR := Lib.hid hr
        clear hr hcl
        go_wp2_with fail
        go_quiet (fail)
        go_wp2_with fail
        go_ret
        exact ⟨by rw [HRR.out]; rfl, below_drewN hb1 _⟩
    · obtain rfl : k = a.size := by omega
      have hr : R = false := by
        rw [← HP.out, HEA.out]
        cases b.data.toList.drop a.size <;> rfl
      have HRR := Lib.hid hr
      clear hr
      go_wp2_with fail
      go_ret
      exact ⟨by rw [HRR.out]; rfl, hb1⟩

set_option maxRecDepth 100000 in
set_option maxHeartbeats 1000000 in
theorem ref10_Newer (x y : Sp) (hx : x.Ok) (hy : y.Ok) (hxs : x.few) (hys : y.few) (w : World) :
    Calls Try.prog 21 #[.agg #[.int .i64 x.tr, .int .i64 x.id, .int .i64 x.pa, .int .i64 x.rv, .string x.sv, .string x.op, .int .i64 x.st, .int .i64 x.du, .bool x.gn], .agg #[.int .i64 y.tr, .int .i64 y.id, .int .i64 y.pa, .int .i64 y.rv, .string y.sv, .string y.op, .int .i64 y.st, .int .i64 y.du, .bool y.gn]] w fun e w' => e = .returned (.bool (RankP.newer (spP x) (spP y))) ∧ Below w.heap.size w w' := by
  have P1 := ref9_Put x.kept (Sp.kept_Ok x hx) ⟨Nat.le_trans hxs.1 (by omega), Nat.le_trans hxs.2 (by omega)⟩
  have P2 := ref9_Put y.kept (Sp.kept_Ok y hy) ⟨Nat.le_trans hys.1 (by omega), Nat.le_trans hys.2 (by omega)⟩
  have K1 := ref_Kept x
  have K2 := ref_Kept y
  have hl1 := putS_len x.kept hxs
  have hl2 := putS_len y.kept hys
  have C := ref10_behind ⟨(CodeP.putS (spP x.kept)).1.toArray⟩ ⟨(CodeP.putS (spP y.kept)).1.toArray⟩ (by rw [bl_size]; exact hl1) (by rw [bl_size]; exact hl2)
  have ho : RankP.newer (spP x) (spP y) = decide (0 < if x.rv < y.rv then -1 else if y.rv < x.rv then 1 else Lib.compareBytes (CodeP.putS (spP x.kept)).1 (CodeP.putS (spP y.kept)).1) := rfl
  rw [ho]
  clear ho hl1 hl2
  simp only at C
  generalize (CodeP.putS (spP x.kept)).2 = e1 at P1
  generalize (CodeP.putS (spP y.kept)).2 = e2 at P2
  generalize Lib.compareBytes (CodeP.putS (spP x.kept)).1 (CodeP.putS (spP y.kept)).1 = cv at C ⊢
  generalize (⟨(CodeP.putS (spP x.kept)).1.toArray⟩ : ByteArray) = PA at P1 C
  generalize (⟨(CodeP.putS (spP y.kept)).1.toArray⟩ : ByteArray) = PB at P2 C
  obtain ⟨xtr, xid, xpa, xrv, xsv, xop, xst, xdu, xgn⟩ := x
  obtain ⟨ytr, yid, ypa, yrv, ysv, yop, yst, ydu, ygn⟩ := y
  simp only [Sp.kept] at P1 P2 K1 K2 ⊢
  generalize clampS xdu 0 4611686018427387904 = xk at P1 K1
  generalize clampS ydu 0 4611686018427387904 = yk at P2 K2
  have HP1 := Lib.hid P1
  have HP2 := Lib.hid P2
  have HK1 := Lib.hid K1
  have HK2 := Lib.hid K2
  have HC := Lib.hid C
  have KX := Lib.hid (fun o => alloc2_0 w (.cells #[.int .i64 xtr, .int .i64 xid, .int .i64 xpa, .int .i64 xrv, .string xsv, .string xop, .int .i64 xst, .int .i64 xdu, .bool xgn] 23) o)
  have KY := Lib.hid (fun o => alloc2_1 w o (.cells #[.int .i64 ytr, .int .i64 yid, .int .i64 ypa, .int .i64 yrv, .string ysv, .string yop, .int .i64 yst, .int .i64 ydu, .bool ygn] 23))
  clear P1 P2 K1 K2 C hx hy hxs hys
  by_cases h : xrv < yrv
  · rw [if_pos h]
    have e1 : (xrv != yrv) = true := by rw [bne_iff_ne]; omega
    have e2 : decide (yrv < xrv) = false := by rw [decide_eq_false_iff_not]; omega
    go_enter Try.func21, Try.ntmps21
    go_wp2_with fail
    go_ret
    exact ⟨rfl, by (repeat (first | assumption | exact Below.refl _ _ | refine below_step (by assumption) ?_ | refine below_alloc' _ ?_ | refine below_drewN ?_ _ | refine Below.drew ?_))⟩
  · rw [if_neg h]
    by_cases h2 : yrv < xrv
    · rw [if_pos h2]
      have e1 : (xrv != yrv) = true := by rw [bne_iff_ne]; omega
      clear h
      go_enter Try.func21, Try.ntmps21
      go_wp2_with fail
      go_ret
      exact ⟨rfl, by (repeat (first | assumption | exact Below.refl _ _ | refine below_step (by assumption) ?_ | refine below_alloc' _ ?_ | refine below_drewN ?_ _ | refine Below.drew ?_))⟩
    · rw [if_neg h2]
      have e1 : xrv = yrv := by omega
      subst e1
      clear h h2
      go_enter Try.func21, Try.ntmps21
      go_wp2_with (first
        | (go_at_call 59; (with_reducible refine (HK1.out _).mono ?_); rintro e w2 ⟨rfl, b2⟩; have k2 := kept (KX.out _) b2; have m2 := kept (KY.out _) b2)
        | (go_at_call 38; (with_reducible refine (HP1.out _).mono ?_); rintro e w3 ⟨rfl, b3⟩; have m3 := kept m2 b3; have f3 := box_cells m3)
        | (go_at_call 59; (with_reducible refine (HK2.out _).mono ?_); rintro e w4 ⟨rfl, b4⟩)
        | (go_at_call 38; (with_reducible refine (HP2.out _).mono ?_); rintro e w5 ⟨rfl, b5⟩)
        | (go_at_call 61; (with_reducible refine (HC.out _).mono ?_); rintro e w6 ⟨rfl, b6⟩))
      go_ret
      exact ⟨rfl, by (repeat (first | assumption | exact Below.refl _ _ | refine below_step (by assumption) ?_ | refine below_alloc' _ ?_ | refine below_drewN ?_ _ | refine Below.drew ?_))⟩
