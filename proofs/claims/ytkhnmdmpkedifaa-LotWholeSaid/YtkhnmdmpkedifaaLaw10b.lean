/- The statements of layer 10 (rank): the walk of RankOrder. -/
import Derived.Test.YtkhnmdmpkedifaaLaw10
import Derived.Test.YtkhnmdmpkedifaaInv
namespace Go.Proofs.Ytkhnmdmpkedifaa
open Go.ChangeShapes Go.WideShapes Go.ChangeAt Go.RowKit Go.Deep

theorem boxes3_inv {w : World} {A B C : Nat} {oX oY oZ : Obj} {W W' : World}
    (h : W.heap[A]? = some oX ∧ W.heap[B]? = some oY ∧ W.heap[C]? = some oZ ∧ Below w.heap.size w W) (hb : Below W.heap.size W W') :
    W'.heap[A]? = some oX ∧ W'.heap[B]? = some oY ∧ W'.heap[C]? = some oZ ∧ Below w.heap.size w W' :=
  ⟨kept h.1 hb, kept h.2.1 hb, kept h.2.2.1 hb, h.2.2.2.trans (hb.mono h.2.2.2.size)⟩
theorem Sp.kept_inj {x y : Sp} : spEq x.kept y.kept = true ↔ RankP.keptP (spP x) = RankP.keptP (spP y) := by
  rw [← spP_kept, ← spP_kept]
  constructor
  · intro h
    rcases Classical.em (x.kept = y.kept) with e | e
    · rw [e]
    · rw [spEq_ne e] at h; cases h
  · intro h
    rw [spP_inj h]; exact spEq_self _
/-- what is so of two records -/
theorem order_facts (x y : Sp) (hx : x.Ok) (hy : y.Ok) : ∃ s, spEq x.kept y.kept = s ∧ ((RankP.newer (spP x) (spP y) = true ∧ RankP.newer (spP y) (spP x) = false ∧ s = false) ∨ (RankP.newer (spP x) (spP y) = false ∧ RankP.newer (spP y) (spP x) = true ∧ s = false)
    ∨ (RankP.newer (spP x) (spP y) = false ∧ RankP.newer (spP y) (spP x) = false ∧ (s = true ∨ (s = false ∧ (CodeP.may (spP x) = 1 ∨ CodeP.may (spP y) = 1))))) := by
  refine ⟨_, rfl, ?_⟩
  have hs : spEq x.kept y.kept = true → RankP.ordI (spP x) (spP y) = 0 := fun h => RankP.same_ord _ _ (Sp.kept_inj.1 h)
  cases hab : RankP.newer (spP x) (spP y) with
  | true =>
    refine .inl ⟨rfl, RankP.newer_asymm _ _ hab, ?_⟩
    cases hq : spEq x.kept y.kept with
    | false => rfl
    | true =>
      unfold RankP.newer at hab
      rw [hs hq] at hab
      simp at hab
  | false =>
    cases hba : RankP.newer (spP y) (spP x) with
    | true =>
      refine .inr (.inl ⟨rfl, rfl, ?_⟩)
      cases hq : spEq x.kept y.kept with
      | false => rfl
      | true =>
        unfold RankP.newer at hba
        rw [RankP.ord_anti, hs hq] at hba
        simp at hba
    | false =>
      refine .inr (.inr ⟨rfl, rfl, ?_⟩)
      cases hq : spEq x.kept y.kept with
      | true => exact .inl rfl
      | false =>
        refine .inr ⟨rfl, ?_⟩
        have h0 : RankP.ordI (spP x) (spP y) = 0 := by
          unfold RankP.newer at hab hba
          rw [decide_eq_false_iff_not] at hab hba
          rw [RankP.ord_anti] at hba
          omega
        unfold CodeP.may
        by_cases mx : CodeP.mayB (spP x) = true
        · by_cases my : CodeP.mayB (spP y) = true
          · have := Sp.kept_inj.2 (RankP.ord_same _ _ (spP_Ok x hx) (spP_Ok y hy) mx my h0)
            rw [hq] at this; cases this
          · exact .inr (by rw [if_neg my])
        · exact .inl (by rw [if_neg mx])
theorem may_01 (x : CodeP.Sp) : CodeP.may x = 0 ∨ CodeP.may x = 1 := by unfold CodeP.may; split <;> simp

set_option maxRecDepth 100000 in
set_option maxHeartbeats 16000000 in
theorem law10_RankOrder_few (x y z : Sp) (hx : x.Ok) (hy : y.Ok) (hz : z.Ok) (hxs : x.few) (hys : y.few) (hzs : z.few) (w : World) :
    Calls Try.prog 4 #[.agg #[.int .i64 x.tr, .int .i64 x.id, .int .i64 x.pa, .int .i64 x.rv, .string x.sv, .string x.op, .int .i64 x.st, .int .i64 x.du, .bool x.gn], .agg #[.int .i64 y.tr, .int .i64 y.id, .int .i64 y.pa, .int .i64 y.rv, .string y.sv, .string y.op, .int .i64 y.st, .int .i64 y.du, .bool y.gn], .agg #[.int .i64 z.tr, .int .i64 z.id, .int .i64 z.pa, .int .i64 z.rv, .string z.sv, .string z.op, .int .i64 z.st, .int .i64 z.du, .bool z.gn]] w fun e w' => e = .returned (.bool true) ∧ Below w.heap.size w w' := by
  have S1 := ref9_Short_yes x hxs
  have S2 := ref9_Short_yes y hys
  have S3 := ref9_Short_yes z hzs
  have NXY := rank_Newer x y hx hy hxs hys
  have NYX := rank_Newer y x hy hx hys hxs
  have NXX := rank_Newer x x hx hx hxs hxs
  have NYZ := rank_Newer y z hy hz hys hzs
  have NXZ := rank_Newer x z hx hz hxs hzs
  have SXY := rank_Same x y
  have MX := ref9_May x hx
  have MY := ref9_May y hy
  rw [RankP.newer_self] at NXX
  have htr := RankP.newer_trans (spP x) (spP y) (spP z)
  obtain ⟨sm, hsm, hcases⟩ := order_facts x y hx hy
  rw [hsm] at SXY
  have hmx := may_01 (spP x)
  have hmy := may_01 (spP y)
  generalize RankP.newer (spP x) (spP y) = ab at NXY hcases htr
  generalize RankP.newer (spP y) (spP x) = ba at NYX hcases
  generalize RankP.newer (spP y) (spP z) = bc at NYZ htr
  generalize RankP.newer (spP x) (spP z) = ac at NXZ htr
  generalize CodeP.may (spP x) = mx at MX hcases hmx
  generalize CodeP.may (spP y) = my at MY hcases hmy
  obtain ⟨xtr, xid, xpa, xrv, xsv, xop, xst, xdu, xgn⟩ := x
  obtain ⟨ytr, yid, ypa, yrv, ysv, yop, yst, ydu, ygn⟩ := y
  obtain ⟨ztr, zid, zpa, zrv, zsv, zop, zst, zdu, zgn⟩ := z
  simp only at S1 S2 S3 NXY NYX NXX NYZ NXZ SXY MX MY ⊢
  have HS1 := Lib.hid S1
  have HS2 := Lib.hid S2
  have HS3 := Lib.hid S3
  have HXY := Lib.hid NXY
  have HYX := Lib.hid NYX
  have HXX := Lib.hid NXX
  have HYZ := Lib.hid NYZ
  have HXZ := Lib.hid NXZ
  have HSXY := Lib.hid SXY
  have HMX := Lib.hid MX
  have HMY := Lib.hid MY
  have K1 := Lib.hid (alloc3_0 w (.cells #[.int .i64 xtr, .int .i64 xid, .int .i64 xpa, .int .i64 xrv, .string xsv, .string xop, .int .i64 xst, .int .i64 xdu, .bool xgn] 23) (.cells #[.int .i64 ytr, .int .i64 yid, .int .i64 ypa, .int .i64 yrv, .string ysv, .string yop, .int .i64 yst, .int .i64 ydu, .bool ygn] 23) (.cells #[.int .i64 ztr, .int .i64 zid, .int .i64 zpa, .int .i64 zrv, .string zsv, .string zop, .int .i64 zst, .int .i64 zdu, .bool zgn] 23))
  have K2 := Lib.hid (alloc3_1 w (.cells #[.int .i64 xtr, .int .i64 xid, .int .i64 xpa, .int .i64 xrv, .string xsv, .string xop, .int .i64 xst, .int .i64 xdu, .bool xgn] 23) (.cells #[.int .i64 ytr, .int .i64 yid, .int .i64 ypa, .int .i64 yrv, .string ysv, .string yop, .int .i64 yst, .int .i64 ydu, .bool ygn] 23) (.cells #[.int .i64 ztr, .int .i64 zid, .int .i64 zpa, .int .i64 zrv, .string zsv, .string zop, .int .i64 zst, .int .i64 zdu, .bool zgn] 23))
  have K3 := Lib.hid (alloc3_2 w (.cells #[.int .i64 xtr, .int .i64 xid, .int .i64 xpa, .int .i64 xrv, .string xsv, .string xop, .int .i64 xst, .int .i64 xdu, .bool xgn] 23) (.cells #[.int .i64 ytr, .int .i64 yid, .int .i64 ypa, .int .i64 yrv, .string ysv, .string yop, .int .i64 yst, .int .i64 ydu, .bool ygn] 23) (.cells #[.int .i64 ztr, .int .i64 zid, .int .i64 zpa, .int .i64 zrv, .string zsv, .string zop, .int .i64 zst, .int .i64 zdu, .bool zgn] 23))
  clear S1 S2 S3 NXY NYX NXX NYZ NXZ SXY MX MY hx hy hz hxs hys hzs hsm
  have hbc : (ab = true ∧ bc = true ∧ ac = true) ∨ (ab = true ∧ bc = false) ∨ ab = false := by
    cases ab <;> cases bc <;> cases ac <;> simp_all
  have hall : (∃ s, sm = s ∧ ab = true ∧ ba = false ∧ s = false ∧ ((bc = true ∧ ac = true) ∨ bc = false)) ∨ (ab = false ∧ ba = true ∧ sm = false) ∨ (ab = false ∧ ba = false ∧ sm = true) ∨ (ab = false ∧ ba = false ∧ sm = false ∧ (mx = 1 ∨ (mx = 0 ∧ my = 1))) := by
    rcases hcases with ⟨rfl, rfl, rfl⟩ | ⟨rfl, rfl, rfl⟩ | ⟨rfl, rfl, rfl | ⟨rfl, h⟩⟩
    · refine .inl ⟨_, rfl, rfl, rfl, rfl, ?_⟩
      rcases hbc with ⟨_, h1, h2⟩ | ⟨_, h1⟩ | h1
      · exact .inl ⟨h1, h2⟩
      · exact .inr h1
      · cases h1
    · exact .inr (.inl ⟨rfl, rfl, rfl⟩)
    · exact .inr (.inr (.inl ⟨rfl, rfl, rfl⟩))
    · refine .inr (.inr (.inr ⟨rfl, rfl, rfl, ?_⟩))
      omega
  clear hbc hcases htr
  rcases hall with ⟨s, rfl, rfl, rfl, rfl, ⟨rfl, rfl⟩ | rfl⟩ | ⟨rfl, rfl, rfl⟩ | ⟨rfl, rfl, rfl⟩ | ⟨rfl, rfl, rfl, hm⟩
  case inr.inr.inr => 
    rcases hm with rfl | ⟨rfl, rfl⟩
    all_goals
      clear hmx hmy
      go_enter Try.func4, Try.ntmps4
      go_wp2_with (first
        | (go_at_call 15; (with_reducible refine (HS1.out _).mono ?_); rintro e w1 ⟨rfl, b1⟩; have k1 := kept K1.out b1; have m1 := kept K2.out b1; have n1 := kept K3.out b1; have f1 := box_cells k1; have g1 := box_cells m1; have h1 := box_cells n1)
        | (go_at_call 15; (with_reducible refine (HS2.out _).mono ?_); rintro e w2 ⟨rfl, b2⟩; have k2 := kept k1 b2; have m2 := kept m1 b2; have n2 := kept n1 b2; have f2 := box_cells k2; have g2 := box_cells m2; have h2 := box_cells n2)
        | (go_at_call 15; (with_reducible refine (HS3.out _).mono ?_); rintro e w3 ⟨rfl, b3⟩; have k3 := kept k2 b3; have m3 := kept m2 b3; have n3 := kept n2 b3))
      have B3 : Below w.heap.size w w3 := below_step b3 (below_step b2 (below_step b1 (below_alloc' _ (below_alloc' _ (below_alloc' _ (Below.refl _ _))))))
      clear f1 g1 h1 f2 g2 h2 k1 m1 n1 k2 m2 n2
      refine wp_region_inv (fun W => W.heap[w.heap.size]? = some (.cells #[.int .i64 xtr, .int .i64 xid, .int .i64 xpa, .int .i64 xrv, .string xsv, .string xop, .int .i64 xst, .int .i64 xdu, .bool xgn] 23 (0, 0)) ∧ W.heap[w.heap.size + 1]? = some (.cells #[.int .i64 ytr, .int .i64 yid, .int .i64 ypa, .int .i64 yrv, .string ysv, .string yop, .int .i64 yst, .int .i64 ydu, .bool ygn] 23 (0, 0)) ∧ W.heap[w.heap.size + 2]? = some (.cells #[.int .i64 ztr, .int .i64 zid, .int .i64 zpa, .int .i64 zrv, .string zsv, .string zop, .int .i64 zst, .int .i64 zdu, .bool zgn] 23 (0, 0)) ∧ Below w.heap.size w W) ⟨k3, m3, n3, B3⟩ (fun W h => boxes3_inv h (Below.drew (Below.refl _ _))) (by kernel_rfl) (by kernel_rfl) (fun c hc => ?_)
      have cX := fun u : In c => box_cells ((hc u.w).1 u.h).1
      have cY := fun u : In c => box_cells ((hc u.w).1 u.h).2.1
      have HI := Lib.hid (fun u : In c => (hc u.w).1 u.h)
      have HC := Lib.hid hc
      clear hc
      repeat (go_big_quiet_step ((first
        | (go_at_call 20; exact inv_of_below HC.out (fun _ _ => boxes3_inv) _ (HXY.out _))
        | (go_at_call 20; exact inv_of_below HC.out (fun _ _ => boxes3_inv) _ (HYX.out _))
        | (go_at_call 22; exact inv_of_below HC.out (fun _ _ => boxes3_inv) _ (HSXY.out _)))))
      refine wpQuiet_nil ?_; intro _ hw'; obtain ⟨u, hw''⟩ := hw'; subst hw''
      obtain ⟨p1, p2, p3, BU⟩ := HI.out u
      generalize u.w = wu at p1 p2 p3 BU
      have f3 := box_cells p1
      have g3 := box_cells p2
      clear cX cY HI HC k3 m3 n3
      go_wp2_with (first
        | (go_at_call 23; (with_reducible refine (HMX.out _).mono ?_); rintro e w4 ⟨rfl, b4⟩; obtain ⟨q1, q2, q3, B4⟩ := boxes3_inv ⟨p1, p2, p3, BU⟩ b4; have f4 := box_cells q1; have g4 := box_cells q2; have h4 := box_cells q3)
        | (go_at_call 23; (with_reducible refine (HMY.out _).mono ?_); rintro e w5 ⟨rfl, b5⟩; obtain ⟨r1, r2, r3, B5⟩ := boxes3_inv ⟨q1, q2, q3, B4⟩ b5; have f5 := box_cells r1; have g5 := box_cells r2; have h5 := box_cells r3)
        | (go_at_call 20; (with_reducible refine (HXX.out _).mono ?_); rintro e w6 ⟨rfl, b6⟩; obtain ⟨s1, s2, s3, B6⟩ := boxes3_inv (by first | exact ⟨r1, r2, r3, B5⟩ | exact ⟨q1, q2, q3, B4⟩) b6; have f6 := box_cells s1; have g6 := box_cells s2; have h6 := box_cells s3)
        | (go_at_call 20; (with_reducible refine (HYZ.out _).mono ?_); rintro e w7 ⟨rfl, b7⟩; obtain ⟨t1, t2, t3, B7⟩ := boxes3_inv ⟨s1, s2, s3, B6⟩ b7; have f7 := box_cells t1; have g7 := box_cells t2; have h7 := box_cells t3)
        | (go_at_call 20; (with_reducible refine (HXZ.out _).mono ?_); rintro e w8 ⟨rfl, b8⟩)
        | (go_at_call 17; (with_reducible refine (law10_awake _).mono ?_); rintro e w9 ⟨rfl, b9⟩))
      all_goals
        go_ret
        exact ⟨rfl, by (repeat (first | assumption | exact Below.refl _ _ | refine below_step (by assumption) ?_ | refine below_alloc' _ ?_ | refine below_drewN ?_ _ | refine Below.drew ?_))⟩
  all_goals
    rcases hmx with rfl | rfl
    all_goals
      clear hmy
      go_enter Try.func4, Try.ntmps4
      go_wp2_with (first
        | (go_at_call 15; (with_reducible refine (HS1.out _).mono ?_); rintro e w1 ⟨rfl, b1⟩; have k1 := kept K1.out b1; have m1 := kept K2.out b1; have n1 := kept K3.out b1; have f1 := box_cells k1; have g1 := box_cells m1; have h1 := box_cells n1)
        | (go_at_call 15; (with_reducible refine (HS2.out _).mono ?_); rintro e w2 ⟨rfl, b2⟩; have k2 := kept k1 b2; have m2 := kept m1 b2; have n2 := kept n1 b2; have f2 := box_cells k2; have g2 := box_cells m2; have h2 := box_cells n2)
        | (go_at_call 15; (with_reducible refine (HS3.out _).mono ?_); rintro e w3 ⟨rfl, b3⟩; have k3 := kept k2 b3; have m3 := kept m2 b3; have n3 := kept n2 b3))
      have B3 : Below w.heap.size w w3 := below_step b3 (below_step b2 (below_step b1 (below_alloc' _ (below_alloc' _ (below_alloc' _ (Below.refl _ _))))))
      clear f1 g1 h1 f2 g2 h2 k1 m1 n1 k2 m2 n2
      refine wp_region_inv (fun W => W.heap[w.heap.size]? = some (.cells #[.int .i64 xtr, .int .i64 xid, .int .i64 xpa, .int .i64 xrv, .string xsv, .string xop, .int .i64 xst, .int .i64 xdu, .bool xgn] 23 (0, 0)) ∧ W.heap[w.heap.size + 1]? = some (.cells #[.int .i64 ytr, .int .i64 yid, .int .i64 ypa, .int .i64 yrv, .string ysv, .string yop, .int .i64 yst, .int .i64 ydu, .bool ygn] 23 (0, 0)) ∧ W.heap[w.heap.size + 2]? = some (.cells #[.int .i64 ztr, .int .i64 zid, .int .i64 zpa, .int .i64 zrv, .string zsv, .string zop, .int .i64 zst, .int .i64 zdu, .bool zgn] 23 (0, 0)) ∧ Below w.heap.size w W) ⟨k3, m3, n3, B3⟩ (fun W h => boxes3_inv h (Below.drew (Below.refl _ _))) (by kernel_rfl) (by kernel_rfl) (fun c hc => ?_)
      have cX := fun u : In c => box_cells ((hc u.w).1 u.h).1
      have cY := fun u : In c => box_cells ((hc u.w).1 u.h).2.1
      have HI := Lib.hid (fun u : In c => (hc u.w).1 u.h)
      have HC := Lib.hid hc
      clear hc
      repeat (go_big_quiet_step ((first
        | (go_at_call 20; exact inv_of_below HC.out (fun _ _ => boxes3_inv) _ (HXY.out _))
        | (go_at_call 20; exact inv_of_below HC.out (fun _ _ => boxes3_inv) _ (HYX.out _))
        | (go_at_call 22; exact inv_of_below HC.out (fun _ _ => boxes3_inv) _ (HSXY.out _)))))
      refine wpQuiet_nil ?_; intro _ hw'; obtain ⟨u, hw''⟩ := hw'; subst hw''
      obtain ⟨p1, p2, p3, BU⟩ := HI.out u
      generalize u.w = wu at p1 p2 p3 BU
      have f3 := box_cells p1
      have g3 := box_cells p2
      clear cX cY HI HC k3 m3 n3
      go_wp2_with (first
        | (go_at_call 23; (with_reducible refine (HMX.out _).mono ?_); rintro e w4 ⟨rfl, b4⟩; obtain ⟨q1, q2, q3, B4⟩ := boxes3_inv ⟨p1, p2, p3, BU⟩ b4; have f4 := box_cells q1; have g4 := box_cells q2; have h4 := box_cells q3)
        | (go_at_call 23; (with_reducible refine (HMY.out _).mono ?_); rintro e w5 ⟨rfl, b5⟩; obtain ⟨r1, r2, r3, B5⟩ := boxes3_inv ⟨q1, q2, q3, B4⟩ b5; have f5 := box_cells r1; have g5 := box_cells r2; have h5 := box_cells r3)
        | (go_at_call 20; (with_reducible refine (HXX.out _).mono ?_); rintro e w6 ⟨rfl, b6⟩; obtain ⟨s1, s2, s3, B6⟩ := boxes3_inv (by first | exact ⟨r1, r2, r3, B5⟩ | exact ⟨q1, q2, q3, B4⟩) b6; have f6 := box_cells s1; have g6 := box_cells s2; have h6 := box_cells s3)
        | (go_at_call 20; (with_reducible refine (HYZ.out _).mono ?_); rintro e w7 ⟨rfl, b7⟩; obtain ⟨t1, t2, t3, B7⟩ := boxes3_inv ⟨s1, s2, s3, B6⟩ b7; have f7 := box_cells t1; have g7 := box_cells t2; have h7 := box_cells t3)
        | (go_at_call 20; (with_reducible refine (HXZ.out _).mono ?_); rintro e w8 ⟨rfl, b8⟩)
        | (go_at_call 17; (with_reducible refine (law10_awake _).mono ?_); rintro e w9 ⟨rfl, b9⟩))
      all_goals
        go_ret
        exact ⟨rfl, by (repeat (first | assumption | exact Below.refl _ _ | refine below_step (by assumption) ?_ | refine below_alloc' _ ?_ | refine below_drewN ?_ _ | refine Below.drew ?_))⟩
