/- The statements of layer 10 (rank): the walk of RankIs. -/
import Derived.Test.YtkhnmdmpkedifaaLaw10b
namespace Go.Proofs.Ytkhnmdmpkedifaa
open Go.ChangeShapes Go.WideShapes Go.ChangeAt Go.RowKit Go.Deep

theorem RdS.later {w W : World} {A : Option Addr} {l : List Sp} (h : RdS w w.heap.size A l) (hb : Below w.heap.size w W) : RdS W W.heap.size A l := (h.below hb).more hb.size
/-- the newest of any, by both -/
theorem best_any (A : Option Addr) (c : Nat) (l : List Sp) (hok : ∀ x ∈ l, x.Ok ∧ x.few) (hlc : l.length ≤ c) (hcm : c ≤ maxLen) (w : World) (hr : RdS w w.heap.size A l) : ∃ (r : Sp) (ok : Bool),
    (∀ W, RdS W W.heap.size A l → Calls Try.prog 18 #[.slice A l.length c] W fun e W' => e = .returned (.tuple #[.agg #[.int .i64 r.tr, .int .i64 r.id, .int .i64 r.pa, .int .i64 r.rv, .string r.sv, .string r.op, .int .i64 r.st, .int .i64 r.du, .bool r.gn], .bool ok]) ∧ Below W.heap.size W W') ∧
    (∀ W, RdS W W.heap.size A l → Calls Try.prog 19 #[.slice A l.length c] W fun e W' => e = .returned (.tuple #[.agg #[.int .i64 r.tr, .int .i64 r.id, .int .i64 r.pa, .int .i64 r.rv, .string r.sv, .string r.op, .int .i64 r.st, .int .i64 r.du, .bool r.gn], .bool ok]) ∧ Below W.heap.size W W') := by
  cases l with
  | nil => exact ⟨⟨0, 0, 0, 0, ⟨#[]⟩, ⟨#[]⟩, 0, 0, false⟩, false, fun W _ => rank_Best_nil A c W, fun W _ => ref10_Best_nil A c W⟩
  | cons b l =>
    obtain ⟨ad, rfl, _⟩ := hr 0 b rfl
    obtain ⟨t, ht⟩ := topS_best b l
    refine ⟨(bestS b l).kept, true, fun W h => ?_, fun W h => ?_⟩
    · exact rank_Best ad c b l hok (by simpa using hlc) hcm W h
    · exact ref10_Best ad c (b :: l) hok (Nat.le_trans hlc hcm) t (bestS b l) ht W h

set_option maxRecDepth 100000 in
set_option maxHeartbeats 4000000 in
theorem law10_RankIs_few (x y : Sp) (A : Option Addr) (c : Nat) (l : List Sp) (hx : x.Ok) (hy : y.Ok) (hxs : x.few) (hys : y.few) (hok : ∀ x ∈ l, x.Ok) (hf : fewS 12 l) (hlc : l.length ≤ c) (hcm : c ≤ maxLen) (w : World) (hr : RdS w w.heap.size A l) :
    Calls Try.prog 3 #[.agg #[.int .i64 x.tr, .int .i64 x.id, .int .i64 x.pa, .int .i64 x.rv, .string x.sv, .string x.op, .int .i64 x.st, .int .i64 x.du, .bool x.gn], .agg #[.int .i64 y.tr, .int .i64 y.id, .int .i64 y.pa, .int .i64 y.rv, .string y.sv, .string y.op, .int .i64 y.st, .int .i64 y.du, .bool y.gn], .slice A l.length c] w fun e w' => e = .returned (.bool true) ∧ Below w.heap.size w w' := by
  have S1 := ref9_Short_yes x hxs
  have S2 := ref9_Short_yes y hys
  have HF := Lib.hid (fun W h => (show Calls Try.prog 16 #[.slice A l.length c, .int .i64 12] W _ from ref9_Few_yes A c l 12 (by omega) hf W h))
  have NXY := rank_Newer x y hx hy hxs hys
  have NYX := rank_Newer y x hy hx hys hxs
  have RXY := ref10_Newer x y hx hy hxs hys
  have RYX := ref10_Newer y x hy hx hys hxs
  obtain ⟨r, ok, B1, B2⟩ := best_any A c l (fun x h => ⟨hok x h, hf.2 x h⟩) hlc hcm w hr
  generalize RankP.newer (spP x) (spP y) = ab at NXY RXY
  generalize RankP.newer (spP y) (spP x) = ba at NYX RYX
  obtain ⟨xtr, xid, xpa, xrv, xsv, xop, xst, xdu, xgn⟩ := x
  obtain ⟨ytr, yid, ypa, yrv, ysv, yop, yst, ydu, ygn⟩ := y
  obtain ⟨rtr, rid, rpa, rrv, rsv, rop, rst, rdu, rgn⟩ := r
  simp only at S1 S2 NXY NYX RXY RYX B1 B2 ⊢
  have HS1 := Lib.hid S1
  have HS2 := Lib.hid S2
  have HXY := Lib.hid NXY
  have HYX := Lib.hid NYX
  have GXY := Lib.hid RXY
  have GYX := Lib.hid RYX
  have HB1 := Lib.hid B1
  have HB2 := Lib.hid B2
  have HR := Lib.hid (fun W (h : Below w.heap.size w W) => hr.later h)
  have K1 := Lib.hid (alloc2_0 w (.cells #[.int .i64 xtr, .int .i64 xid, .int .i64 xpa, .int .i64 xrv, .string xsv, .string xop, .int .i64 xst, .int .i64 xdu, .bool xgn] 23) (.cells #[.int .i64 ytr, .int .i64 yid, .int .i64 ypa, .int .i64 yrv, .string ysv, .string yop, .int .i64 yst, .int .i64 ydu, .bool ygn] 23))
  have K2 := Lib.hid (alloc2_1 w (.cells #[.int .i64 xtr, .int .i64 xid, .int .i64 xpa, .int .i64 xrv, .string xsv, .string xop, .int .i64 xst, .int .i64 xdu, .bool xgn] 23) (.cells #[.int .i64 ytr, .int .i64 yid, .int .i64 ypa, .int .i64 yrv, .string ysv, .string yop, .int .i64 yst, .int .i64 ydu, .bool ygn] 23))
  clear S1 S2 NXY NYX RXY RYX B1 B2 hx hy hxs hys hok hf hr
  go_enter Try.func3, Try.ntmps3
  go_wp2_with (first
    | (go_at_call 15; (with_reducible refine (HS1.out _).mono ?_); rintro e w1 ⟨rfl, b1⟩; have k1 := kept K1.out b1; have m1 := kept K2.out b1; have f1 := box_cells k1; have g1 := box_cells m1)
    | (go_at_call 15; (with_reducible refine (HS2.out _).mono ?_); rintro e w2 ⟨rfl, b2⟩; have k2 := kept k1 b2; have m2 := kept m1 b2; have B2 : Below w.heap.size w w2 := below_step b2 (below_step b1 (below_alloc' _ (below_alloc' _ (Below.refl _ _)))))
    | (go_at_call 16; (with_reducible refine (HF.out _ (HR.out _ B2)).mono ?_); rintro e w3 ⟨rfl, b3⟩; have k3 := kept k2 b3; have m3 := kept m2 b3; have B3 := below_step b3 B2)
    | (go_at_call 18; (with_reducible refine (HB1.out _ (HR.out _ B3)).mono ?_); rintro e w4 ⟨rfl, b4⟩; have k4 := kept_alloc (kept k3 b4) (.cells #[.int .i64 rtr, .int .i64 rid, .int .i64 rpa, .int .i64 rrv, .string rsv, .string rop, .int .i64 rst, .int .i64 rdu, .bool rgn] 23); have m4 := kept_alloc (kept m3 b4) (.cells #[.int .i64 rtr, .int .i64 rid, .int .i64 rpa, .int .i64 rrv, .string rsv, .string rop, .int .i64 rst, .int .i64 rdu, .bool rgn] 23); have q4 := heap_alloc_new w4 (.cells #[.int .i64 rtr, .int .i64 rid, .int .i64 rpa, .int .i64 rrv, .string rsv, .string rop, .int .i64 rst, .int .i64 rdu, .bool rgn] 23); have B4 := below_alloc' (.cells #[.int .i64 rtr, .int .i64 rid, .int .i64 rpa, .int .i64 rrv, .string rsv, .string rop, .int .i64 rst, .int .i64 rdu, .bool rgn] 23) (below_step b4 B3))
    | (go_at_call 19; (with_reducible refine (HB2.out _ (HR.out _ B4)).mono ?_); rintro e w5 ⟨rfl, b5⟩))
  have kX := kept_alloc (kept k4 b5) (.cells #[.int .i64 rtr, .int .i64 rid, .int .i64 rpa, .int .i64 rrv, .string rsv, .string rop, .int .i64 rst, .int .i64 rdu, .bool rgn] 23)
  have kY := kept_alloc (kept m4 b5) (.cells #[.int .i64 rtr, .int .i64 rid, .int .i64 rpa, .int .i64 rrv, .string rsv, .string rop, .int .i64 rst, .int .i64 rdu, .bool rgn] 23)
  have kC := kept_alloc (kept q4 b5) (.cells #[.int .i64 rtr, .int .i64 rid, .int .i64 rpa, .int .i64 rrv, .string rsv, .string rop, .int .i64 rst, .int .i64 rdu, .bool rgn] 23)
  have kD := heap_alloc_new w5 (.cells #[.int .i64 rtr, .int .i64 rid, .int .i64 rpa, .int .i64 rrv, .string rsv, .string rop, .int .i64 rst, .int .i64 rdu, .bool rgn] 23)
  have hz1 := box_lt k3
  have hz2 := box_lt m3
  have hz3 := b4.size
  have hz4 := b5.size
  rw [World.size_alloc] at hz4
  have cX := fun u => later_at kX (B := w5.heap.size + 1) (by omega) u
  have cY := fun u => later_at kY (B := w5.heap.size + 1) (by omega) u
  have cC := fun u => later_at kC (B := w5.heap.size + 1) (by omega) u
  have cD := fun u => later_at kD (B := w5.heap.size + 1) (by omega) u
  have B6 := below_alloc' (.cells #[.int .i64 rtr, .int .i64 rid, .int .i64 rpa, .int .i64 rrv, .string rsv, .string rop, .int .i64 rst, .int .i64 rdu, .bool rgn] 23) (below_step b5 B4)
  have hw5 := B6.size
  rw [World.size_alloc] at hw5
  clear k1 k2 k3 k4 m1 m2 m3 m4 q4 f1 g1 kX kY kC kD
  have hle : w5.heap.size + 1 ≤ (w5.alloc (.cells #[.int .i64 rtr, .int .i64 rid, .int .i64 rpa, .int .i64 rrv, .string rsv, .string rop, .int .i64 rst, .int .i64 rdu, .bool rgn] 23)).heap.size := by rw [World.size_alloc]; exact Nat.le_refl _
  refine wp_region_later (w5.heap.size + 1) (by kernel_rfl) (by kernel_rfl) ?_
  repeat (go_big_quiet_step ((first
    | (go_at_call 20; with_reducible exact later_of _ hle (HXY.out _))
    | (go_at_call 20; with_reducible exact later_of _ hle (HYX.out _))
    | (go_at_call 21; with_reducible exact later_of _ hle (GXY.out _))
    | (go_at_call 21; with_reducible exact later_of _ hle (GYX.out _))
    | (go_at_call 17; with_reducible exact later_of _ hle (law10_awake _)))))
  refine wpQuiet_nil ?_; intro _ hw'; obtain ⟨u, hw''⟩ := hw'; subst hw''
  go_wp2_with fail
  go_ret
  exact ⟨rfl, B6.trans (u.h.mono (by omega))⟩
set_option maxRecDepth 100000 in
set_option maxHeartbeats 2000000 in
theorem law10_RankIs_wide (x y : Sp) (A : Option Addr) (c : Nat) (l : List Sp) (hx : x.Ok) (hy : y.Ok) (hok : ∀ x ∈ l, x.Ok) (hm : l.length ≤ maxLen) (h : ¬ (x.few ∧ y.few ∧ fewS 12 l)) (w : World) (hr : RdS w w.heap.size A l) :
    Calls Try.prog 3 #[.agg #[.int .i64 x.tr, .int .i64 x.id, .int .i64 x.pa, .int .i64 x.rv, .string x.sv, .string x.op, .int .i64 x.st, .int .i64 x.du, .bool x.gn], .agg #[.int .i64 y.tr, .int .i64 y.id, .int .i64 y.pa, .int .i64 y.rv, .string y.sv, .string y.op, .int .i64 y.st, .int .i64 y.du, .bool y.gn], .slice A l.length c] w fun e w' => e = .returned (.bool true) ∧ Below w.heap.size w w' := by
  have K2 := Lib.hid (alloc2_1 w (.cells #[.int .i64 x.tr, .int .i64 x.id, .int .i64 x.pa, .int .i64 x.rv, .string x.sv, .string x.op, .int .i64 x.st, .int .i64 x.du, .bool x.gn] 23) (.cells #[.int .i64 y.tr, .int .i64 y.id, .int .i64 y.pa, .int .i64 y.rv, .string y.sv, .string y.op, .int .i64 y.st, .int .i64 y.du, .bool y.gn] 23))
  have HR := Lib.hid (fun W (h : Below w.heap.size w W) => hr.later h)
  by_cases h1 : x.few
  · have HS1 := Lib.hid (ref9_Short_yes x h1)
    by_cases h2 : y.few
    · have HS2 := Lib.hid (ref9_Short_yes y h2)
      have HF := Lib.hid (fun W k => (show Calls Try.prog 16 #[.slice A l.length c, .int .i64 12] W _ from ref9_Few_no A c l hm hok 12 (by omega) (fun h3 => h ⟨h1, h2, h3⟩) W k))
      clear h h1 h2 hx hy hr hok
      go_enter Try.func3, Try.ntmps3
      go_wp2_with (first
        | (go_at_call 15; (with_reducible refine (HS1.out _).mono ?_); rintro e w1 ⟨rfl, b1⟩; have m1 := kept K2.out b1; have g1 := box_cells m1)
        | (go_at_call 15; (with_reducible refine (HS2.out _).mono ?_); rintro e w2 ⟨rfl, b2⟩; have B2 : Below w.heap.size w w2 := below_step b2 (below_step b1 (below_alloc' _ (below_alloc' _ (Below.refl _ _)))))
        | (go_at_call 16; (with_reducible refine (HF.out _ (HR.out _ B2)).mono ?_); rintro e w3 ⟨rfl, b3⟩)
        | (go_at_call 17; (with_reducible refine (law10_awake _).mono ?_); rintro e w9 ⟨rfl, b9⟩))
      go_ret
      exact ⟨rfl, by (repeat (first | assumption | exact Below.refl _ _ | refine below_step (by assumption) ?_ | refine below_alloc' _ ?_ | refine below_drewN ?_ _ | refine Below.drew ?_))⟩
    · have HS2 := Lib.hid (ref9_Short_no y hy h2)
      clear h h1 h2 hx hy hr hok
      go_enter Try.func3, Try.ntmps3
      go_wp2_with (first
        | (go_at_call 15; (with_reducible refine (HS1.out _).mono ?_); rintro e w1 ⟨rfl, b1⟩; have m1 := kept K2.out b1; have g1 := box_cells m1)
        | (go_at_call 15; (with_reducible refine (HS2.out _).mono ?_); rintro e w2 ⟨rfl, b2⟩)
        | (go_at_call 17; (with_reducible refine (law10_awake _).mono ?_); rintro e w9 ⟨rfl, b9⟩))
      go_ret
      exact ⟨rfl, by (repeat (first | assumption | exact Below.refl _ _ | refine below_step (by assumption) ?_ | refine below_alloc' _ ?_ | refine below_drewN ?_ _ | refine Below.drew ?_))⟩
  · have HS1 := Lib.hid (ref9_Short_no x hx h1)
    clear h h1 hx hy hr hok
    go_enter Try.func3, Try.ntmps3
    go_wp2_with (first
      | (go_at_call 15; (with_reducible refine (HS1.out _).mono ?_); rintro e w1 ⟨rfl, b1⟩)
      | (go_at_call 17; (with_reducible refine (law10_awake _).mono ?_); rintro e w9 ⟨rfl, b9⟩))
    go_ret
    exact ⟨rfl, by (repeat (first | assumption | exact Below.refl _ _ | refine below_step (by assumption) ?_ | refine below_alloc' _ ?_ | refine below_drewN ?_ _ | refine Below.drew ?_))⟩
theorem law10_RankIs (x y : Sp) (a : SlSp) (hx : x.Ok) (hy : y.Ok) (w : World) (ha : a.Ok w) :
    Calls Try.prog 3 #[.agg #[.int .i64 x.tr, .int .i64 x.id, .int .i64 x.pa, .int .i64 x.rv, .string x.sv, .string x.op, .int .i64 x.st, .int .i64 x.du, .bool x.gn], .agg #[.int .i64 y.tr, .int .i64 y.id, .int .i64 y.pa, .int .i64 y.rv, .string y.sv, .string y.op, .int .i64 y.st, .int .i64 y.du, .bool y.gn], .slice a.A a.l.length a.c] w fun e w' => e = .returned (.bool true) ∧ Below w.heap.size w w' := by
  by_cases h : x.few ∧ y.few ∧ fewS 12 a.l
  · exact law10_RankIs_few x y a.A a.c a.l hx hy h.1 h.2.1 ha.2.2.2.1 h.2.2 ha.2.1 ha.2.2.1 w ha.2.2.2.2
  · exact law10_RankIs_wide x y a.A a.c a.l hx hy ha.2.2.2.1 ha.1 h w ha.2.2.2.2
