/- The statements of layer 9 (code): the walk of CodeBack. -/
import Derived.Test.YtkhnmdmpkedifaaLaw09b
import Derived.Test.YtkhnmdmpkedifaaEqSpan
namespace Go.Proofs.Ytkhnmdmpkedifaa
open Go.ChangeShapes Go.WideShapes Go.ChangeAt Go.RowKit Go.Deep

theorem enc_len (x : CodeP.Sp) : (CodeP.enc x).length ≤ x.sv.length + x.op.length + 100 := by
  have h1 := putI_len x.tr
  have h2 := putI_len x.id
  have h3 := putI_len x.pa
  have h4 := putI_len x.rv
  have h5 := VariP.put_len (VariP.zig x.st)
  have h6 := VariP.put_len (VariP.zig x.du)
  have h7 := VariP.put_len x.sv.length
  have h8 := VariP.put_len x.op.length
  have h9 : (PackP.flag x.gn).length = 1 := by cases x.gn <;> rfl
  unfold CodeP.enc PackP.text
  simp only [List.length_append]
  omega
theorem spP_Ok (x : Sp) (hx : x.Ok) : (spP x).Ok := ⟨hx.1, hx.2.1, hx.2.2.1, hx.2.2.2.1, hx.2.2.2.2.1, hx.2.2.2.2.2.1⟩
theorem spP_inj {x y : Sp} (h : spP x = spP y) : x = y := by
  obtain ⟨tr, id, pa, rv, ⟨⟨sv⟩⟩, ⟨⟨op⟩⟩, st, du, gn⟩ := x
  obtain ⟨tr', id', pa', rv', ⟨⟨sv'⟩⟩, ⟨⟨op'⟩⟩, st', du', gn'⟩ := y
  simp only [spP, CodeP.Sp.mk.injEq] at h
  obtain ⟨rfl, rfl, rfl, rfl, rfl, rfl, rfl, rfl, rfl⟩ := h
  rfl
theorem spV_spP (x : Sp) : spV (spP x) = .agg #[.int .i64 x.tr, .int .i64 x.id, .int .i64 x.pa, .int .i64 x.rv, .string x.sv, .string x.op, .int .i64 x.st, .int .i64 x.du, .bool x.gn] := rfl
theorem ba_ne {l m : List UInt8} (h : l ≠ m) : ((⟨l.toArray⟩ : ByteArray) == ⟨m.toArray⟩) = false := by
  show ((l.toArray : Array UInt8) == m.toArray) = false
  rw [beq_eq_false_iff_ne]
  intro e
  exact h (by simpa using congrArg Array.toList e)
/-- what is put of a record that may be -/
theorem put_facts (x : Sp) (hx : x.Ok) (hm : CodeP.mayB (spP x) = true) : CodeP.putS (spP x) = (CodeP.enc (spP x), 0) ∧ CodeP.takeS (CodeP.enc (spP x)) = (spP x, 0) ∧ (CodeP.enc (spP x)).length ≤ 100000 := by
  have hf := CodeP.may_fit _ (spP_Ok x hx) hm
  refine ⟨by unfold CodeP.putS; rw [if_pos hm], CodeP.takeS_putS _ (spP_Ok x hx) hm, ?_⟩
  have := enc_len (spP x)
  obtain ⟨_, _, _, _, h5, h6, _⟩ := hf
  omega

/-- what is put of any record -/
theorem put_any (x : Sp) (hx : x.Ok) (hs : x.sv.size ≤ 100 ∧ x.op.size ≤ 100) : ∃ (PA : ByteArray) (ea : Int), (∀ w, Calls Try.prog 37 #[.agg #[.int .i64 x.tr, .int .i64 x.id, .int .i64 x.pa, .int .i64 x.rv, .string x.sv, .string x.op, .int .i64 x.st, .int .i64 x.du, .bool x.gn]] w fun e w' => e = .returned (.tuple #[.string PA, .int .i64 ea]) ∧ Below w.heap.size w w') ∧
    (ea = 0 → ∀ w, Calls Try.prog 39 #[.string PA] w fun e w' => e = .returned (.tuple #[.agg #[.int .i64 x.tr, .int .i64 x.id, .int .i64 x.pa, .int .i64 x.rv, .string x.sv, .string x.op, .int .i64 x.st, .int .i64 x.du, .bool x.gn], .int .i64 0]) ∧ Below w.heap.size w w') ∧ (ea = 0 → CodeP.mayB (spP x) = true ∧ PA = ⟨(CodeP.enc (spP x)).toArray⟩) ∧ (ea = 0 ∨ ea = 1) := by
  have P1 := code_Put x hx (by omega)
  by_cases mx : CodeP.mayB (spP x) = true
  · obtain ⟨x1, x2, x3⟩ := put_facts x hx mx
    have TA := code_Take ⟨(CodeP.enc (spP x)).toArray⟩ x3
    rw [show (⟨(CodeP.enc (spP x)).toArray⟩ : ByteArray).data.toList = CodeP.enc (spP x) from rfl, x2, spV_spP] at TA
    rw [x1] at P1
    exact ⟨_, _, P1, fun _ => TA, fun _ => ⟨mx, rfl⟩, .inl rfl⟩
  · have hp : CodeP.putS (spP x) = ([], 1) := by unfold CodeP.putS; rw [if_neg mx]
    rw [hp] at P1
    exact ⟨_, _, P1, fun h => absurd h (by decide), fun h => absurd h (by decide), .inr rfl⟩
theorem put_ne (x y : Sp) (hx : x.Ok) (hy : y.Ok) (hne : x ≠ y) (PA PB : ByteArray) (h1 : CodeP.mayB (spP x) = true ∧ PA = ⟨(CodeP.enc (spP x)).toArray⟩) (h2 : CodeP.mayB (spP y) = true ∧ PB = ⟨(CodeP.enc (spP y)).toArray⟩) : (PA.toList == PB.toList) = false := by
  rw [← beq_toListBytes, h1.2, h2.2]
  exact ba_ne (fun e => hne (spP_inj (CodeP.enc_inj _ _ (CodeP.may_fit _ (spP_Ok x hx) h1.1) (CodeP.may_fit _ (spP_Ok y hy) h2.1) e)))
/-- what is taken of any bytes: a record that is put so, or nothing -/
theorem take_any (s : ByteArray) (hs : s.size ≤ 200) : ∃ (z : Sp) (g : Int), (∀ w, Calls Try.prog 39 #[.string s] w fun e w' => e = .returned (.tuple #[.agg #[.int .i64 z.tr, .int .i64 z.id, .int .i64 z.pa, .int .i64 z.rv, .string z.sv, .string z.op, .int .i64 z.st, .int .i64 z.du, .bool z.gn], .int .i64 g]) ∧ Below w.heap.size w w') ∧
    ((g ≠ 0 ∧ z = ⟨0, 0, 0, 0, ⟨#[]⟩, ⟨#[]⟩, 0, 0, false⟩) ∨ (g = 0 ∧ ∀ w, Calls Try.prog 37 #[.agg #[.int .i64 z.tr, .int .i64 z.id, .int .i64 z.pa, .int .i64 z.rv, .string z.sv, .string z.op, .int .i64 z.st, .int .i64 z.du, .bool z.gn]] w fun e w' => e = .returned (.tuple #[.string s, .int .i64 0]) ∧ Below w.heap.size w w')) := by
  have T := code_Take s (by omega)
  have hbk := CodeP.takeS_back s.data.toList
  have her := CodeP.takeS_err s.data.toList
  generalize CodeP.takeS s.data.toList = tk at T hbk her
  obtain ⟨z, g⟩ := tk
  refine ⟨spB z, g, T, ?_⟩
  by_cases hg : g = 0
  · subst hg
    obtain ⟨h1, h2, h3⟩ := hbk z rfl
    refine .inr ⟨rfl, ?_⟩
    have hfit := CodeP.may_fit z h3 h2
    obtain ⟨_, _, _, _, h5, h6, _⟩ := hfit
    have hok : (spB z).Ok := ⟨h3.1, h3.2.1, h3.2.2.1, h3.2.2.2.1, h3.2.2.2.2.1, h3.2.2.2.2.2, by show z.sv.length ≤ maxLen; unfold maxLen; omega, by show z.op.length ≤ maxLen; unfold maxLen; omega⟩
    have P := code_Put (spB z) hok ⟨by show z.sv.length ≤ 100000; omega, by show z.op.length ≤ 100000; omega⟩
    rw [spP_spB, (show CodeP.putS z = (CodeP.enc z, 0) by unfold CodeP.putS; rw [if_pos h2]), ← h1] at P
    exact P
  · refine .inl ⟨hg, ?_⟩
    have := her hg
    simp only at this
    subst this
    rfl

set_option maxRecDepth 100000 in
set_option maxHeartbeats 16000000 in
theorem law09_CodeBack_ne (x y : Sp) (s : ByteArray) (hx : x.Ok) (hy : y.Ok) (hxs : x.sv.size ≤ 100 ∧ x.op.size ≤ 100) (hys : y.sv.size ≤ 100 ∧ y.op.size ≤ 100) (hs : s.size ≤ 200) (hne : x ≠ y) (w : World) :
    Calls Try.prog 11 #[.agg #[.int .i64 x.tr, .int .i64 x.id, .int .i64 x.pa, .int .i64 x.rv, .string x.sv, .string x.op, .int .i64 x.st, .int .i64 x.du, .bool x.gn], .agg #[.int .i64 y.tr, .int .i64 y.id, .int .i64 y.pa, .int .i64 y.rv, .string y.sv, .string y.op, .int .i64 y.st, .int .i64 y.du, .bool y.gn], .string s] w fun e w' => e = .returned (.bool true) ∧ Below w.heap.size w w' := by
  have S1 := ref9_Short_yes x hxs
  have S2 := ref9_Short_yes y hys
  obtain ⟨PA, ea, P1, TA, hea, hea2⟩ := put_any x hx hxs
  obtain ⟨PB, eb, P2, TB, heb, heb2⟩ := put_any y hy hys
  have hE : ea = 0 → eb = 0 → (PA.toList == PB.toList) = false := fun h1 h2 => put_ne x y hx hy hne PA PB (hea h1) (heb h2)
  have hSE := spEq_ne hne
  obtain ⟨z, g, TS, hz⟩ := take_any s hs
  obtain ⟨xtr, xid, xpa, xrv, xsv, xop, xst, xdu, xgn⟩ := x
  obtain ⟨ytr, yid, ypa, yrv, ysv, yop, yst, ydu, ygn⟩ := y
  obtain ⟨ztr, zid, zpa, zrv, zsv, zop, zst, zdu, zgn⟩ := z
  simp only at S1 S2 P1 P2 TA TB TS hz ⊢
  have HS1 := Lib.hid S1
  have HS2 := Lib.hid S2
  have HP1 := Lib.hid P1
  have HP2 := Lib.hid P2
  have HTA := Lib.hid TA
  have HTS := Lib.hid TS
  have hsz : (s.size : Int) ≤ 200 := by omega
  have KX := Lib.hid (fun o => alloc2_0 w (.cells #[.int .i64 xtr, .int .i64 xid, .int .i64 xpa, .int .i64 xrv, .string xsv, .string xop, .int .i64 xst, .int .i64 xdu, .bool xgn] 23) o)
  have KY := Lib.hid (fun o => alloc2_1 w o (.cells #[.int .i64 ytr, .int .i64 yid, .int .i64 ypa, .int .i64 yrv, .string ysv, .string yop, .int .i64 yst, .int .i64 ydu, .bool ygn] 23))
  clear S1 S2 P1 P2 TA TB TS hea heb hx hy hxs hys hs hne
  have hcase : (ea = 0 ∧ eb = 0 ∧ (PA.toList == PB.toList) = false) ∨ ea = 1 ∨ (ea = 0 ∧ eb = 1) := by
    rcases hea2 with h | h
    · rcases heb2 with k | k
      · exact .inl ⟨h, k, hE h k⟩
      · exact .inr (.inr ⟨h, k⟩)
    · exact .inr (.inl h)
  clear hE hea2
  rcases hz with ⟨hg, hzz⟩ | ⟨rfl, PZ⟩
  · simp only [Sp.mk.injEq] at hzz
    obtain ⟨rfl, rfl, rfl, rfl, rfl, rfl, rfl, rfl, rfl⟩ := hzz
    have hg2 : (g != 0) = true := by rw [bne_iff_ne]; exact hg
    clear hg
    rcases hcase with ⟨rfl, rfl, hSB⟩ | rfl | ⟨rfl, rfl⟩
    all_goals
      clear heb2
      go_enter Try.func11, Try.ntmps11
      go_wp2_with (first
        | (go_at_call 15; (with_reducible refine (HS1.out _).mono ?_); rintro e w1 ⟨rfl, b1⟩; have k1 := kept (KX.out _) b1; have m1 := kept (KY.out _) b1; have f1 := box_cells k1; have g1 := box_cells m1)
        | (go_at_call 15; (with_reducible refine (HS2.out _).mono ?_); rintro e w2 ⟨rfl, b2⟩; have k2 := kept k1 b2; have m2 := kept m1 b2; have f2 := box_cells k2; have g2 := box_cells m2)
        | (go_at_call 37; (with_reducible refine (HP1.out _).mono ?_); rintro e w3 ⟨rfl, b3⟩; have k3 := kept k2 b3; have m3 := kept m2 b3; have f3 := box_cells k3; have g3 := box_cells m3)
        | (go_at_call 37; (with_reducible refine (HP2.out _).mono ?_); rintro e w4 ⟨rfl, b4⟩; have k4 := kept k3 b4; have m4 := kept m3 b4; have f4 := box_cells k4; have g4 := box_cells m4)
        | (go_at_call 39; (with_reducible refine (HTA.out trivial _).mono ?_); rintro e w5 ⟨rfl, b5⟩; have k5 := kept_alloc (kept k4 b5) (.cells #[.int .i64 xtr, .int .i64 xid, .int .i64 xpa, .int .i64 xrv, .string xsv, .string xop, .int .i64 xst, .int .i64 xdu, .bool xgn] 23); have m5 := kept_alloc (kept m4 b5) (.cells #[.int .i64 xtr, .int .i64 xid, .int .i64 xpa, .int .i64 xrv, .string xsv, .string xop, .int .i64 xst, .int .i64 xdu, .bool xgn] 23); have f5 := box_cells k5; have g5 := box_cells m5)
        | (go_at_call 39; (with_reducible refine (HTS.out _).mono ?_); rintro e w6 ⟨rfl, b6⟩)
        | (go_at_call 36; (with_reducible refine (law09_awake _).mono ?_); rintro e w8 ⟨rfl, b8⟩))
    all_goals
      go_ret
      exact ⟨rfl, by (repeat (first | assumption | exact Below.refl _ _ | refine below_step (by assumption) ?_ | refine below_alloc' _ ?_ | refine below_drewN ?_ _ | refine Below.drew ?_))⟩
  · have HPZ := Lib.hid PZ
    clear PZ
    rcases hcase with ⟨rfl, rfl, hSB⟩ | rfl | ⟨rfl, rfl⟩
    all_goals
      clear heb2
      go_enter Try.func11, Try.ntmps11
      go_wp2_with (first
        | (go_at_call 15; (with_reducible refine (HS1.out _).mono ?_); rintro e w1 ⟨rfl, b1⟩; have k1 := kept (KX.out _) b1; have m1 := kept (KY.out _) b1; have f1 := box_cells k1; have g1 := box_cells m1)
        | (go_at_call 15; (with_reducible refine (HS2.out _).mono ?_); rintro e w2 ⟨rfl, b2⟩; have k2 := kept k1 b2; have m2 := kept m1 b2; have f2 := box_cells k2; have g2 := box_cells m2)
        | (go_at_call 37; (with_reducible refine (HP1.out _).mono ?_); rintro e w3 ⟨rfl, b3⟩; have k3 := kept k2 b3; have m3 := kept m2 b3; have f3 := box_cells k3; have g3 := box_cells m3)
        | (go_at_call 37; (with_reducible refine (HP2.out _).mono ?_); rintro e w4 ⟨rfl, b4⟩; have k4 := kept k3 b4; have m4 := kept m3 b4; have f4 := box_cells k4; have g4 := box_cells m4)
        | (go_at_call 39; (with_reducible refine (HTA.out trivial _).mono ?_); rintro e w5 ⟨rfl, b5⟩; have k5 := kept_alloc (kept k4 b5) (.cells #[.int .i64 xtr, .int .i64 xid, .int .i64 xpa, .int .i64 xrv, .string xsv, .string xop, .int .i64 xst, .int .i64 xdu, .bool xgn] 23); have m5 := kept_alloc (kept m4 b5) (.cells #[.int .i64 xtr, .int .i64 xid, .int .i64 xpa, .int .i64 xrv, .string xsv, .string xop, .int .i64 xst, .int .i64 xdu, .bool xgn] 23); have f5 := box_cells k5; have g5 := box_cells m5)
        | (go_at_call 39; (with_reducible refine (HTS.out _).mono ?_); rintro e w6 ⟨rfl, b6⟩)
        | (go_at_call 37; (with_reducible refine (HPZ.out _).mono ?_); rintro e w7 ⟨rfl, b7⟩)
        | (go_at_call 36; (with_reducible refine (law09_awake _).mono ?_); rintro e w8 ⟨rfl, b8⟩))
    all_goals
      go_ret
      exact ⟨rfl, by (repeat (first | assumption | exact Below.refl _ _ | refine below_step (by assumption) ?_ | refine below_alloc' _ ?_ | refine below_drewN ?_ _ | refine Below.drew ?_))⟩

set_option maxRecDepth 100000 in
set_option maxHeartbeats 16000000 in
theorem law09_CodeBack_eq (x : Sp) (s : ByteArray) (hx : x.Ok) (hxs : x.sv.size ≤ 100 ∧ x.op.size ≤ 100) (hs : s.size ≤ 200) (w : World) :
    Calls Try.prog 11 #[.agg #[.int .i64 x.tr, .int .i64 x.id, .int .i64 x.pa, .int .i64 x.rv, .string x.sv, .string x.op, .int .i64 x.st, .int .i64 x.du, .bool x.gn], .agg #[.int .i64 x.tr, .int .i64 x.id, .int .i64 x.pa, .int .i64 x.rv, .string x.sv, .string x.op, .int .i64 x.st, .int .i64 x.du, .bool x.gn], .string s] w fun e w' => e = .returned (.bool true) ∧ Below w.heap.size w w' := by
  have S1 := ref9_Short_yes x hxs
  obtain ⟨PA, ea, P1, TA, hea, hea2⟩ := put_any x hx hxs
  obtain ⟨z, g, TS, hz⟩ := take_any s hs
  obtain ⟨xtr, xid, xpa, xrv, xsv, xop, xst, xdu, xgn⟩ := x
  obtain ⟨ztr, zid, zpa, zrv, zsv, zop, zst, zdu, zgn⟩ := z
  simp only at S1 P1 TA TS hz ⊢
  have HS1 := Lib.hid S1
  have HP1 := Lib.hid P1
  have HTA := Lib.hid TA
  have HTS := Lib.hid TS
  have hsz : (s.size : Int) ≤ 200 := by omega
  have KX := Lib.hid (fun o => alloc2_0 w (.cells #[.int .i64 xtr, .int .i64 xid, .int .i64 xpa, .int .i64 xrv, .string xsv, .string xop, .int .i64 xst, .int .i64 xdu, .bool xgn] 23) o)
  have KY := Lib.hid (fun o => alloc2_1 w o (.cells #[.int .i64 xtr, .int .i64 xid, .int .i64 xpa, .int .i64 xrv, .string xsv, .string xop, .int .i64 xst, .int .i64 xdu, .bool xgn] 23))
  clear S1 P1 TA TS hea hx hxs hs
  rcases hz with ⟨hg, hzz⟩ | ⟨rfl, PZ⟩
  · simp only [Sp.mk.injEq] at hzz
    obtain ⟨rfl, rfl, rfl, rfl, rfl, rfl, rfl, rfl, rfl⟩ := hzz
    have hg2 : (g != 0) = true := by rw [bne_iff_ne]; exact hg
    clear hg
    rcases hea2 with rfl | rfl
    all_goals
      go_enter Try.func11, Try.ntmps11
      go_wp2_with (first
        | (go_at_call 15; (with_reducible refine (HS1.out _).mono ?_); rintro e w1 ⟨rfl, b1⟩; have k1 := kept (KX.out _) b1; have m1 := kept (KY.out _) b1; have f1 := box_cells k1; have g1 := box_cells m1)
        | (go_at_call 15; (with_reducible refine (HS1.out _).mono ?_); rintro e w2 ⟨rfl, b2⟩; have k2 := kept k1 b2; have m2 := kept m1 b2; have f2 := box_cells k2; have g2 := box_cells m2)
        | (go_at_call 37; (with_reducible refine (HP1.out _).mono ?_); rintro e w3 ⟨rfl, b3⟩; have k3 := kept k2 b3; have m3 := kept m2 b3; have f3 := box_cells k3; have g3 := box_cells m3)
        | (go_at_call 37; (with_reducible refine (HP1.out _).mono ?_); rintro e w4 ⟨rfl, b4⟩; have k4 := kept k3 b4; have m4 := kept m3 b4; have f4 := box_cells k4; have g4 := box_cells m4)
        | (go_at_call 39; (with_reducible refine (HTA.out trivial _).mono ?_); rintro e w5 ⟨rfl, b5⟩; have k5 := kept_alloc (kept k4 b5) (.cells #[.int .i64 xtr, .int .i64 xid, .int .i64 xpa, .int .i64 xrv, .string xsv, .string xop, .int .i64 xst, .int .i64 xdu, .bool xgn] 23); have m5 := kept_alloc (kept m4 b5) (.cells #[.int .i64 xtr, .int .i64 xid, .int .i64 xpa, .int .i64 xrv, .string xsv, .string xop, .int .i64 xst, .int .i64 xdu, .bool xgn] 23); have f5 := box_cells k5; have g5 := box_cells m5)
        | (go_at_call 39; (with_reducible refine (HTS.out _).mono ?_); rintro e w6 ⟨rfl, b6⟩)
        | (go_at_call 36; (with_reducible refine (law09_awake _).mono ?_); rintro e w8 ⟨rfl, b8⟩))
    all_goals
      go_ret
      exact ⟨rfl, by (repeat (first | assumption | exact Below.refl _ _ | refine below_step (by assumption) ?_ | refine below_alloc' _ ?_ | refine below_drewN ?_ _ | refine Below.drew ?_))⟩
  · have HPZ := Lib.hid PZ
    clear PZ
    rcases hea2 with rfl | rfl
    all_goals
      go_enter Try.func11, Try.ntmps11
      go_wp2_with (first
        | (go_at_call 15; (with_reducible refine (HS1.out _).mono ?_); rintro e w1 ⟨rfl, b1⟩; have k1 := kept (KX.out _) b1; have m1 := kept (KY.out _) b1; have f1 := box_cells k1; have g1 := box_cells m1)
        | (go_at_call 15; (with_reducible refine (HS1.out _).mono ?_); rintro e w2 ⟨rfl, b2⟩; have k2 := kept k1 b2; have m2 := kept m1 b2; have f2 := box_cells k2; have g2 := box_cells m2)
        | (go_at_call 37; (with_reducible refine (HP1.out _).mono ?_); rintro e w3 ⟨rfl, b3⟩; have k3 := kept k2 b3; have m3 := kept m2 b3; have f3 := box_cells k3; have g3 := box_cells m3)
        | (go_at_call 37; (with_reducible refine (HP1.out _).mono ?_); rintro e w4 ⟨rfl, b4⟩; have k4 := kept k3 b4; have m4 := kept m3 b4; have f4 := box_cells k4; have g4 := box_cells m4)
        | (go_at_call 39; (with_reducible refine (HTA.out trivial _).mono ?_); rintro e w5 ⟨rfl, b5⟩; have k5 := kept_alloc (kept k4 b5) (.cells #[.int .i64 xtr, .int .i64 xid, .int .i64 xpa, .int .i64 xrv, .string xsv, .string xop, .int .i64 xst, .int .i64 xdu, .bool xgn] 23); have m5 := kept_alloc (kept m4 b5) (.cells #[.int .i64 xtr, .int .i64 xid, .int .i64 xpa, .int .i64 xrv, .string xsv, .string xop, .int .i64 xst, .int .i64 xdu, .bool xgn] 23); have f5 := box_cells k5; have g5 := box_cells m5)
        | (go_at_call 39; (with_reducible refine (HTS.out _).mono ?_); rintro e w6 ⟨rfl, b6⟩)
        | (go_at_call 37; (with_reducible refine (HPZ.out _).mono ?_); rintro e w7 ⟨rfl, b7⟩)
        | (go_at_call 36; (with_reducible refine (law09_awake _).mono ?_); rintro e w8 ⟨rfl, b8⟩))
    all_goals
      go_ret
      exact ⟨rfl, by (repeat (first | assumption | exact Below.refl _ _ | refine below_step (by assumption) ?_ | refine below_alloc' _ ?_ | refine below_drewN ?_ _ | refine Below.drew ?_))⟩

set_option maxRecDepth 100000 in
theorem law09_CodeBack_wide (x y : Sp) (s : ByteArray) (hx : x.Ok) (hy : y.Ok) (hs : s.size ≤ maxLen) (h : ¬ ((x.sv.size ≤ 100 ∧ x.op.size ≤ 100) ∧ (y.sv.size ≤ 100 ∧ y.op.size ≤ 100) ∧ s.size ≤ 200)) (w : World) :
    Calls Try.prog 11 #[.agg #[.int .i64 x.tr, .int .i64 x.id, .int .i64 x.pa, .int .i64 x.rv, .string x.sv, .string x.op, .int .i64 x.st, .int .i64 x.du, .bool x.gn], .agg #[.int .i64 y.tr, .int .i64 y.id, .int .i64 y.pa, .int .i64 y.rv, .string y.sv, .string y.op, .int .i64 y.st, .int .i64 y.du, .bool y.gn], .string s] w fun e w' => e = .returned (.bool true) ∧ Below w.heap.size w w' := by
  unfold maxLen at hs
  have KX := Lib.hid (alloc2_0 w (.cells #[.int .i64 x.tr, .int .i64 x.id, .int .i64 x.pa, .int .i64 x.rv, .string x.sv, .string x.op, .int .i64 x.st, .int .i64 x.du, .bool x.gn] 23) (.cells #[.int .i64 y.tr, .int .i64 y.id, .int .i64 y.pa, .int .i64 y.rv, .string y.sv, .string y.op, .int .i64 y.st, .int .i64 y.du, .bool y.gn] 23))
  have KY := Lib.hid (alloc2_1 w (.cells #[.int .i64 x.tr, .int .i64 x.id, .int .i64 x.pa, .int .i64 x.rv, .string x.sv, .string x.op, .int .i64 x.st, .int .i64 x.du, .bool x.gn] 23) (.cells #[.int .i64 y.tr, .int .i64 y.id, .int .i64 y.pa, .int .i64 y.rv, .string y.sv, .string y.op, .int .i64 y.st, .int .i64 y.du, .bool y.gn] 23))
  by_cases h1 : x.sv.size ≤ 100 ∧ x.op.size ≤ 100
  · have HS1 := Lib.hid (ref9_Short_yes x h1)
    by_cases h2 : y.sv.size ≤ 100 ∧ y.op.size ≤ 100
    · have HS2 := Lib.hid (ref9_Short_yes y h2)
      have h3 : 200 < s.size := by
        rcases Nat.lt_or_ge 200 s.size with h3 | h3
        · exact h3
        · exact absurd ⟨h1, h2, h3⟩ h
      clear h h1 h2 hx hy
      go_enter Try.func11, Try.ntmps11
      go_wp2_with (first
        | (go_at_call 15; (with_reducible refine (HS1.out _).mono ?_); rintro e w1 ⟨rfl, b1⟩; have m1 := kept KY.out b1; have g1 := box_cells m1)
        | (go_at_call 15; (with_reducible refine (HS2.out _).mono ?_); rintro e w2 ⟨rfl, b2⟩)
        | (go_at_call 36; (with_reducible refine (law09_awake _).mono ?_); rintro e w8 ⟨rfl, b8⟩))
      go_ret
      exact ⟨rfl, by (repeat (first | assumption | exact Below.refl _ _ | refine below_step (by assumption) ?_ | refine below_alloc' _ ?_ | refine below_drewN ?_ _ | refine Below.drew ?_))⟩
    · have HS2 := Lib.hid (ref9_Short_no y hy h2)
      clear h h1 h2 hx hy
      go_enter Try.func11, Try.ntmps11
      go_wp2_with (first
        | (go_at_call 15; (with_reducible refine (HS1.out _).mono ?_); rintro e w1 ⟨rfl, b1⟩; have m1 := kept KY.out b1; have g1 := box_cells m1)
        | (go_at_call 15; (with_reducible refine (HS2.out _).mono ?_); rintro e w2 ⟨rfl, b2⟩)
        | (go_at_call 36; (with_reducible refine (law09_awake _).mono ?_); rintro e w8 ⟨rfl, b8⟩))
      go_ret
      exact ⟨rfl, by (repeat (first | assumption | exact Below.refl _ _ | refine below_step (by assumption) ?_ | refine below_alloc' _ ?_ | refine below_drewN ?_ _ | refine Below.drew ?_))⟩
  · have HS1 := Lib.hid (ref9_Short_no x hx h1)
    clear h h1 hx hy
    go_enter Try.func11, Try.ntmps11
    go_wp2_with (first
      | (go_at_call 15; (with_reducible refine (HS1.out _).mono ?_); rintro e w1 ⟨rfl, b1⟩)
      | (go_at_call 36; (with_reducible refine (law09_awake _).mono ?_); rintro e w8 ⟨rfl, b8⟩))
    go_ret
    exact ⟨rfl, by (repeat (first | assumption | exact Below.refl _ _ | refine below_step (by assumption) ?_ | refine below_alloc' _ ?_ | refine below_drewN ?_ _ | refine Below.drew ?_))⟩
theorem law09_CodeBack (x y : Sp) (s : ByteArray) (hx : x.Ok) (hy : y.Ok) (hs : s.size ≤ maxLen) (w : World) :
    Calls Try.prog 11 #[.agg #[.int .i64 x.tr, .int .i64 x.id, .int .i64 x.pa, .int .i64 x.rv, .string x.sv, .string x.op, .int .i64 x.st, .int .i64 x.du, .bool x.gn], .agg #[.int .i64 y.tr, .int .i64 y.id, .int .i64 y.pa, .int .i64 y.rv, .string y.sv, .string y.op, .int .i64 y.st, .int .i64 y.du, .bool y.gn], .string s] w fun e w' => e = .returned (.bool true) ∧ Below w.heap.size w w' := by
  by_cases h : (x.sv.size ≤ 100 ∧ x.op.size ≤ 100) ∧ (y.sv.size ≤ 100 ∧ y.op.size ≤ 100) ∧ s.size ≤ 200
  · by_cases hxy : x = y
    · subst hxy
      exact law09_CodeBack_eq x s hx h.1 h.2.2 w
    · exact law09_CodeBack_ne x y s hx hy h.1 h.2.1 h.2.2 hxy w
  · exact law09_CodeBack_wide x y s hx hy hs h w
