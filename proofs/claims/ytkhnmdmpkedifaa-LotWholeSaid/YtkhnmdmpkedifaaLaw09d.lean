/- The statements of layer 9 (code): the walk of CodeParts. -/
import Derived.Test.YtkhnmdmpkedifaaLaw09c
import Derived.Test.YtkhnmdmpkedifaaInv
namespace Go.Proofs.Ytkhnmdmpkedifaa
open Go.ChangeShapes Go.WideShapes Go.ChangeAt Go.RowKit Go.Deep

theorem box_grown {w W : World} {B b : Nat} {o : Obj} (h : w.heap[B]? = some o) (hg : w.grownBy W (some b)) (hne : b ≠ B) : W.heap[B]? = some o :=
  (hg.block B (box_lt h) (fun e => hne (Option.some.inj e).symm)).trans h
theorem box_grown0 {w W : World} {B : Nat} {o : Obj} (h : w.heap[B]? = some o) (hg : w.grownBy W none) : W.heap[B]? = some o := (hg.block B (box_lt h) (by simp)).trans h
theorem Wr.alloc {b : Nat} {l : List UInt8} {w : World} (h : Wr b l w) (o : Obj) : Wr b l (w.alloc o) := h.below ((Below.refl _ _).alloc (Nat.le_refl _) _)
theorem Rdr.alloc {T : TypeId} {b : Nat} {r : PackP.St} {w : World} (h : Rdr T b r w) (o : Obj) : Rdr T b r (w.alloc o) := h.kept (World.grownBy_alloc w o none) (by simp)
theorem rSp_len (r : PackP.St) : (CodeP.rSp r).2.1.length ≤ r.1.length := by
  unfold CodeP.rSp
  simp only
  refine Nat.le_trans (rFlag_len _) (Nat.le_trans (rSigned_len _) (Nat.le_trans (rSigned_len _) (Nat.le_trans (rText_len 24 _) (Nat.le_trans (rText_len 24 _) (Nat.le_trans (rNum_len _) (Nat.le_trans (rNum_len _) (Nat.le_trans (rNum_len _) (rNum_len _))))))))
theorem Rdr.new' (T : TypeId) (s : ByteArray) (w : World) : Rdr T w.heap.size (s.data.toList, 0) (w.alloc (.cells #[.string s, .int .i64 0] T)) := Rdr.new T s w
theorem ne_some {a b : Nat} (h : a < b) : (some b : Option Nat) ≠ some a := fun e => by have := Option.some.inj e; omega
theorem ne_some' {a b : Nat} (h : a < b) : (some a : Option Nat) ≠ some b := fun e => by have := Option.some.inj e; omega
theorem parts_inv {w : World} {b A C D rb yb : Nat} {T1 T2 : TypeId} {L : List UInt8} {oX oZ oZ2 : Obj} {r1 r2 : PackP.St} {W W' : World}
    (h : Wr b L W ∧ W.heap[A]? = some oX ∧ W.heap[C]? = some oZ ∧ W.heap[D]? = some oZ2 ∧ Rdr T1 rb r1 W ∧ Rdr T2 yb r2 W ∧ Below w.heap.size w W) (hb : Below W.heap.size W W') :
    Wr b L W' ∧ W'.heap[A]? = some oX ∧ W'.heap[C]? = some oZ ∧ W'.heap[D]? = some oZ2 ∧ Rdr T1 rb r1 W' ∧ Rdr T2 yb r2 W' ∧ Below w.heap.size w W' :=
  ⟨h.1.below hb, kept h.2.1 hb, kept h.2.2.1 hb, kept h.2.2.2.1 hb, h.2.2.2.2.1.below hb, h.2.2.2.2.2.1.below hb, h.2.2.2.2.2.2.trans (hb.mono h.2.2.2.2.2.2.size)⟩

theorem parts_inv2 {w : World} {b A C D rb yb : Nat} {L : List UInt8} {cX cZ cZ2 : Array Value} {r1 r2 : PackP.St} {W W' : World}
    (h : Wr b L W ∧ W.heap[A]? = some (.cells cX 23 (0, 0)) ∧ W.heap[C]? = some (.cells cZ 23 (0, 0)) ∧ W.heap[D]? = some (.cells cZ2 23 (0, 0)) ∧ Rdr 59 rb r1 W ∧ Rdr 55 yb r2 W ∧ Below w.heap.size w W) (hb : Wr b L W' ∧ Below b W W' ∧ Lib.OthersKept 5 (some b) W W')
    (hA : b ≠ A := by omega) (hC : b ≠ C := by omega) (hD : b ≠ D := by omega) (hr : b ≠ rb := by omega) (hy : b ≠ yb := by omega) (hle : w.heap.size ≤ b := by omega) :
    Wr b L W' ∧ W'.heap[A]? = some (.cells cX 23 (0, 0)) ∧ W'.heap[C]? = some (.cells cZ 23 (0, 0)) ∧ W'.heap[D]? = some (.cells cZ2 23 (0, 0)) ∧ Rdr 59 rb r1 W' ∧ Rdr 55 yb r2 W' ∧ Below w.heap.size w W' :=
  ⟨hb.1, others_box h.2.1 hb.2.2 (by decide) hA, others_box h.2.2.1 hb.2.2 (by decide) hC, others_box h.2.2.2.1 hb.2.2 (by decide) hD, h.2.2.2.2.1.others hb.2.2 (by decide) hr, h.2.2.2.2.2.1.others hb.2.2 (by decide) hy, h.2.2.2.2.2.2.trans (hb.2.1.mono hle)⟩

set_option maxRecDepth 100000 in
set_option maxHeartbeats 4000000 in
theorem law09_CodeParts_few (x : Sp) (s : ByteArray) (hx : x.Ok) (hsh : x.sv.size ≤ 100 ∧ x.op.size ≤ 100) (hs : s.size ≤ 200) (w : World) :
    Calls Try.prog 10 #[.agg #[.int .i64 x.tr, .int .i64 x.id, .int .i64 x.pa, .int .i64 x.rv, .string x.sv, .string x.op, .int .i64 x.st, .int .i64 x.du, .bool x.gn], .string s] w fun e w' => e = .returned (.bool true) ∧ Below w.heap.size w w' := by
  have S1 := ref9_Short_yes x hsh
  have hsl : s.data.toList.length ≤ 200 := hs
  have N1 := fun b W (h : Wr b [] W) => pack_Num b [] 7 (by unfold I64; omega) W h (by simp)
  rw [show ([] : List UInt8) ++ VariP.putI 7 = [7] by decide +kernel] at N1
  have W1 := fun b W (h : Wr b [7] W) => code_Write b [7] x hx (by omega) W h (by simp)
  have B1 := fun b W (h : Wr b ([7] ++ CodeP.enc (spP x)) W) => pack_Bytes b _ W h
  have B2 := ref9_Bytes x hx (by omega)
  rw [bl_app [7] (CodeP.enc (spP x))] at B1
  have hEB : (⟨(CodeP.enc (spP x)).toArray⟩ : ByteArray).size ≤ 400 := by
    have h1 := enc_len (spP x)
    have h2 : (spP x).sv.length = x.sv.size := rfl
    have h3 : (spP x).op.length = x.op.size := rfl
    rw [bl_size]; omega
  generalize (⟨(CodeP.enc (spP x)).toArray⟩ : ByteArray) = EB at B1 B2 hEB
  generalize [7] ++ CodeP.enc (spP x) = L at W1 B1
  have NW := pack_New s
  have hln := rNum_len (s.data.toList, 0)
  simp only at hln
  have R1 := fun b W (h : Rdr 59 b (s.data.toList, 0) W) => pack_Num_at b (s.data.toList, 0) (by show s.data.toList.length ≤ 100000000; omega) W h
  have R2 := fun b W (h : Rdr 55 b (s.data.toList, 0) W) => ref5_Num b (s.data.toList, 0) (by show s.data.toList.length ≤ 100000; omega) W h
  generalize PackP.rNum (s.data.toList, 0) = q at R1 R2 hln
  obtain ⟨qn, qr⟩ := q
  simp only at R1 R2 hln
  have C1 := fun b W (h : Rdr 59 b qr W) => code_Read b qr (by omega) W h
  have C2 := fun b W (h : Rdr 55 b qr W) => ref9_Read b qr (by omega) W h
  have hl2 := rSp_len qr
  generalize CodeP.rSp qr = rs at C1 C2 hl2
  obtain ⟨⟨ztr, zid, zpa, zrv, zsvl, zopl, zst, zdu, zgn⟩, li, er⟩ := rs
  simp only [spV] at C1 C2 hl2
  generalize (⟨zsvl.toArray⟩ : ByteArray) = zsv at C1 C2
  generalize (⟨zopl.toArray⟩ : ByteArray) = zop at C1 C2
  have E1 := fun b W (h : Rdr 59 b (li, er) W) => pack_Err b (li, er) W h
  have L1 := fun b W (h : Rdr 59 b (li, er) W) => pack_Left b (li, er) W h
  simp only at E1 L1
  have hLI := bl_size li
  obtain ⟨xtr, xid, xpa, xrv, xsv, xop, xst, xdu, xgn⟩ := x
  simp only at S1 W1 B2 ⊢
  have HS1 := Lib.hid S1
  have HN1 := Lib.hid N1
  have HW1 := Lib.hid W1
  have HB1 := Lib.hid B1
  have HB2 := Lib.hid B2
  have HNW := Lib.hid NW
  have HR1 := Lib.hid R1
  have HR2 := Lib.hid R2
  have HC1 := Lib.hid C1
  have HC2 := Lib.hid C2
  have HE1 := Lib.hid E1
  have HL1 := Lib.hid L1
  have KX := Lib.hid (heap_alloc_new w (.cells #[.int .i64 xtr, .int .i64 xid, .int .i64 xpa, .int .i64 xrv, .string xsv, .string xop, .int .i64 xst, .int .i64 xdu, .bool xgn] 23))
  have HSL := Lib.hid hLI
  clear S1 N1 W1 B1 B2 NW R1 R2 C1 C2 E1 L1 hx hsh hsl hln hl2 hLI
  go_enter Try.func10, Try.ntmps10
  go_wp2_with (first
    | (go_at_call 15; (with_reducible refine (HS1.out _).mono ?_); rintro e w1 ⟨rfl, b1⟩; have k1 := kept KX.out b1; have f1 := box_cells k1; have m1 := Wr.new w1; have z1 := kept_alloc k1 (.cells #[.pointer none, .slice none 0 0] 44))
    | (go_at_call 42; (with_reducible refine (HN1.out _ _ m1).mono ?_); rintro e w2 ⟨rfl, m2, b2, o2⟩; have k2 := others_box z1 o2 (by decide) (Nat.ne_of_gt (box_lt k1)); have f2 := box_cells k2)
    | (go_at_call 43; (with_reducible refine (HW1.out _ _ m2).mono ?_); rintro e w3 ⟨rfl, m3, b3, o3⟩; have k3 := others_box k2 o3 (by decide) (Nat.ne_of_gt (box_lt k1)))
    | (go_at_call 29; (with_reducible refine (HNW.out _).mono ?_); rintro e w4 ⟨rfl, q4, g4⟩; have k4 := box_grown0 k3 g4; have m4 := m3.below (below_grown g4); have e34 := q4.lt; have e14 := m4.lt; have e13 := m3.lt; have ea3 := box_lt k3; have ea4 := box_lt k4; have k5 := kept_alloc k4 (.cells #[.string s, .int .i64 0] 55); have m5 := m4.alloc (.cells #[.string s, .int .i64 0] 55); have y5 := Rdr.new' 55 s w4; have q5 := q4.alloc (.cells #[.string s, .int .i64 0] 55))
    | (go_at_call 44; (with_reducible refine (HR1.out _ _ q5).mono ?_); rintro e w5 ⟨rfl, q6, g6⟩; have y6 := y5.kept g6 (ne_some e34); have k6 := box_grown k5 g6 (Nat.ne_of_gt ea3); have m6 := m5.grown q5 g6 (by decide) (Nat.ne_of_lt e13))
    | (go_at_call 45; (with_reducible refine (HR2.out _ _ y6).mono ?_); rintro e w6 ⟨rfl, y7, g7⟩; have q7 := q6.kept g7 (ne_some' e34); have k7 := box_grown k6 g7 (Nat.ne_of_gt ea4); have m7 := m6.grown y6 g7 (by decide) (Nat.ne_of_lt e14))
    | (go_at_call 46; (with_reducible refine (HC1.out _ _ q7).mono ?_); rintro e w7 ⟨rfl, q8, g8⟩; have y8 := y7.kept g8 (ne_some e34); have k8 := box_grown k7 g8 (Nat.ne_of_gt ea3); have m8 := m7.grown q7 g8 (by decide) (Nat.ne_of_lt e13))
    | (go_at_call 47; (with_reducible refine (HC2.out _ _ y8).mono ?_); rintro e w8 ⟨rfl, y9, g9⟩; have q9 := q8.kept g9 (ne_some' e34); have k9 := box_grown k8 g9 (Nat.ne_of_gt ea4); have m9 := m8.grown y8 g9 (by decide) (Nat.ne_of_lt e14)))
  have B3 : Below w.heap.size w w3 := by
    have h1 : Below w.heap.size w w1 := below_step b1 (below_alloc' _ (Below.refl _ _))
    have h2 := below_alloc' (.cells #[.pointer none, .slice none 0 0] 44) h1
    exact (h2.trans (b2.mono h1.size)).trans (b3.mono h1.size)
  have B5 := below_alloc' (.cells #[.string s, .int .i64 0] 55) (B3.trans ((below_grown g4).mono B3.size))
  have hk3 : ∀ k, some w3.heap.size = some k → w.heap.size ≤ k := fun k e => by injection e with e; omega
  have hk4 : ∀ k, some w4.heap.size = some k → w.heap.size ≤ k := fun k e => by injection e with e; omega
  have B6 := B5.grown g6 B5.size hk3
  have B7 := B6.grown g7 B6.size hk4
  have B8 := B7.grown g8 B7.size hk3
  have B9 := B8.grown g9 B8.size hk4
  have hea1 := box_lt k1
  have e18 := m9.lt
  refine wp_region_inv (fun W => Wr w1.heap.size L W ∧ W.heap[w.heap.size]? = some (.cells #[.int .i64 xtr, .int .i64 xid, .int .i64 xpa, .int .i64 xrv, .string xsv, .string xop, .int .i64 xst, .int .i64 xdu, .bool xgn] 23) ∧ W.heap[w8.heap.size]? = some (.cells #[.int .i64 ztr, .int .i64 zid, .int .i64 zpa, .int .i64 zrv, .string zsv, .string zop, .int .i64 zst, .int .i64 zdu, .bool zgn] 23) ∧ W.heap[w8.heap.size + 1]? = some (.cells #[.int .i64 ztr, .int .i64 zid, .int .i64 zpa, .int .i64 zrv, .string zsv, .string zop, .int .i64 zst, .int .i64 zdu, .bool zgn] 23) ∧ Rdr 59 w3.heap.size (li, er) W ∧ Rdr 55 w4.heap.size (li, er) W ∧ Below w.heap.size w W)
    ⟨(m9.alloc _).alloc _, kept_alloc (kept_alloc k9 _) _, alloc2_0 _ _ _, alloc2_1 _ _ _, (q9.alloc _).alloc _, (y9.alloc _).alloc _, below_alloc' _ (below_alloc' _ B9)⟩
    (fun W h => parts_inv h (Below.drew (Below.refl _ _))) (by kernel_rfl) (by kernel_rfl) (fun c hc => ?_)
  have cX := fun u : In c => box_cells ((hc u.w).1 u.h).2.1
  have cZ := fun u : In c => box_cells ((hc u.w).1 u.h).2.2.1
  have cZ2 := fun u : In c => box_cells ((hc u.w).1 u.h).2.2.2.1
  have cY0 := fun u : In c => ((hc u.w).1 u.h).2.2.2.2.2.1.c0
  have cY1 := fun u : In c => ((hc u.w).1 u.h).2.2.2.2.2.1.c1
  have HI := Lib.hid (fun u : In c => (hc u.w).1 u.h)
  have HC := Lib.hid hc
  clear hc
  simp only at cY0 cY1
  have hLI := HSL.out
  generalize (⟨li.toArray⟩ : ByteArray) = LI at cY0 hLI
  repeat (go_big_quiet_step ((first
    | (go_at_call 28; exact inv_of HC.out ((HB1.out _ _ (HI.out _).1).mono fun e W h => ⟨h.1, parts_inv2 (HI.out _) h.2⟩))
    | (go_at_call 48; exact inv_of_below HC.out (fun _ _ => parts_inv) _ (HB2.out _))
    | (go_at_call 32; exact inv_of_same _ (HE1.out _ _ (HI.out _).2.2.2.2.1))
    | (go_at_call 33; exact inv_of_same _ (HL1.out _ _ (HI.out _).2.2.2.2.1))
    | (go_at_call 36; exact inv_of_below HC.out (fun _ _ => parts_inv) _ (law09_awake _)))))
  refine wpQuiet_nil ?_; intro _ hw'; obtain ⟨u, hw''⟩ := hw'; subst hw''
  go_wp2_with fail
  go_ret
  exact ⟨rfl, (HI.out u).2.2.2.2.2.2⟩

set_option maxRecDepth 100000 in
theorem law09_CodeParts_wide (x : Sp) (s : ByteArray) (hx : x.Ok) (hs : s.size ≤ maxLen) (h : ¬ (x.sv.size ≤ 100 ∧ x.op.size ≤ 100) ∨ 200 < s.size) (w : World) :
    Calls Try.prog 10 #[.agg #[.int .i64 x.tr, .int .i64 x.id, .int .i64 x.pa, .int .i64 x.rv, .string x.sv, .string x.op, .int .i64 x.st, .int .i64 x.du, .bool x.gn], .string s] w fun e w' => e = .returned (.bool true) ∧ Below w.heap.size w w' := by
  unfold maxLen at hs
  by_cases hsh : x.sv.size ≤ 100 ∧ x.op.size ≤ 100
  · have hlong : 200 < s.size := h.resolve_left (fun k => k hsh)
    have HS := Lib.hid (ref9_Short_yes x hsh)
    clear h hsh hx
    go_enter Try.func10, Try.ntmps10
    go_wp2_with (first
      | (go_at_call 15; (with_reducible refine (HS.out _).mono ?_); rintro e w1 ⟨rfl, b1⟩)
      | (go_at_call 36; (with_reducible refine (law09_awake _).mono ?_); rintro e w2 ⟨rfl, b2⟩))
    go_ret
    exact ⟨rfl, by (repeat (first | assumption | exact Below.refl _ _ | refine below_step (by assumption) ?_ | refine below_alloc' _ ?_ | refine below_drewN ?_ _ | refine Below.drew ?_))⟩
  · have HS := Lib.hid (ref9_Short_no x hx hsh)
    clear h hsh hx
    go_enter Try.func10, Try.ntmps10
    go_wp2_with (first
      | (go_at_call 15; (with_reducible refine (HS.out _).mono ?_); rintro e w1 ⟨rfl, b1⟩)
      | (go_at_call 36; (with_reducible refine (law09_awake _).mono ?_); rintro e w2 ⟨rfl, b2⟩))
    go_ret
    exact ⟨rfl, by (repeat (first | assumption | exact Below.refl _ _ | refine below_step (by assumption) ?_ | refine below_alloc' _ ?_ | refine below_drewN ?_ _ | refine Below.drew ?_))⟩
theorem law09_CodeParts (x : Sp) (s : ByteArray) (hx : x.Ok) (hs : s.size ≤ maxLen) (w : World) :
    Calls Try.prog 10 #[.agg #[.int .i64 x.tr, .int .i64 x.id, .int .i64 x.pa, .int .i64 x.rv, .string x.sv, .string x.op, .int .i64 x.st, .int .i64 x.du, .bool x.gn], .string s] w fun e w' => e = .returned (.bool true) ∧ Below w.heap.size w w' := by
  by_cases h : ¬ (x.sv.size ≤ 100 ∧ x.op.size ≤ 100) ∨ 200 < s.size
  · exact law09_CodeParts_wide x s hx hs h w
  · exact law09_CodeParts_few x s hx (Decidable.of_not_not fun k => h (.inl k)) (by omega) w
