/- The statements of layer 6 (frame): the walk of FrameEach. -/
import Derived.Test.YtaocmepffhochaaLaw06b
namespace Go.Proofs.Ytaocmepffhochaa
open Go.ChangeShapes Go.WideShapes Go.ChangeAt Go.RowKit Go.Deep Go.Shelf BigP

attribute [local go_sem] Oper.semAt_some
theorem run_equalIn_func_nil {P : Program} (w : World) (d : Nat) (t : TypeId) {x y z} (f : Fn) (a c : Array Value) (h : P.underlying t = some (.func x y z)) : (Op.equalIn (d + 1) t (.func f a c) .nilFunc).run P w = .ok false w := by
  simp [Op.equalIn, run_underlying h]
theorem run_equal_func_nil {P : Program} (w : World) (t : TypeId) {x y z} (f : Fn) (a c : Array Value) (h : P.underlying t = some (.func x y z)) : (Op.equal t (.func f a c) .nilFunc).run P w = .ok false w := run_equalIn_func_nil w 9999 t f a c h
theorem run_eql_func_nil {P : Program} (w : World) (t : TypeId) {x y z} (f : Fn) (a c : Array Value) (h : P.underlying t = some (.func x y z)) : (binOp .eql t (.func f a c) .nilFunc).run P w = .ok (.bool false) w := by
  simp only [binOp]
  simp [run_equal_func_nil w t f a c h]
@[local go_sem] theorem run_seq_nil (w : World) (f : Fn) (a c : Array Value) : (binOp .eql 53 (.func f a c) .nilFunc).run Try.prog w = .ok (.bool false) w := run_eql_func_nil w _ f a c Try.underlying53
theorem RdF.take {w : World} {B : Nat} {A : Option Addr} {l : List FrameP.Fr} (h : RdF w B A l) (n : Nat) : RdF w B A (l.take n) := fun k f hk => by
  rw [List.getElem?_take] at hk
  split at hk
  · exact h k f hk
  · cases hk

theorem law06_FrameEach_long (s : ByteArray) (c : Int) (h : ¬ s.size ≤ 1024) (w : World) :
    Calls Try.prog 10 #[.string s, .int .u8 c] w fun e w' => e = .returned (.bool true) ∧ Below w.heap.size w w' := by
  go_enter Try.func10, Try.ntmps10
  go_wp2_with (go_at_call 31; refine (law06_awake _).mono ?_; rintro e w1 ⟨rfl, hb1⟩)
  go_ret
  exact ⟨rfl, by (repeat (first | assumption | exact Below.refl _ _ | refine below_step (by assumption) ?_ | refine below_alloc' _ ?_ | refine below_drewN ?_ _ | refine Below.drew ?_))⟩

set_option maxRecDepth 100000 in
set_option maxHeartbeats 4000000 in
theorem law06_FrameEach_ok (s : ByteArray) (c : Nat) (hs : s.size ≤ 1024) (hc8 : c < 256) (w : World) :
    Calls Try.prog 10 #[.string s, .int .u8 (c : Int)] w fun e w' => e = .returned (.bool true) ∧ Below w.heap.size w w' := by
  obtain ⟨i0, hi, hz0, hz1, hz2⟩ := info_parts' info_frame
  have HI := Lib.hid (And.intro hi (And.intro hz0 (And.intro hz1 hz2)))
  clear hi hz0 hz1 hz2
  have hl : (FrameP.all s.data.toList).1.length ≤ 1000 := by
    obtain ⟨_, f2, f3, _⟩ := FrameP.all_facts _ s.data.toList (Nat.le_refl _)
    have : s.data.toList.length = s.size := rfl
    omega
  have ha := ref_All6 s (by omega)
  have hst := fun n hn Bn => each_stops n hn Bn s (by unfold maxLen; omega)
  generalize FrameP.all s.data.toList = L at ha hl hst
  obtain ⟨l, n0, er⟩ := L
  simp only at hl hst
  unfold AllPost at ha
  simp only at ha
  have HA := Lib.hid ha
  have HST := Lib.hid hst
  clear ha hst
  refine (callsIn_wide (n := 3)).1 ?_
  refine callsIn_of_wp_marks Try.func10 rfl trivial ?_ rfl
  simp only [Try.ntmps10, List.size_toArray, List.length_cons, List.length_nil, Nat.reduceAdd, Nat.reduceSub, Array.replicate_succ, Array.replicate_zero, List.push_toArray, List.append_toArray, List.nil_append, List.cons_append]
  gi_wp2_with (first
    | (refine ⟨trivial, ?_⟩; gi_at_call 37; refine (callsIn_wide.2 (HA.out _)).mono ?_; rintro e w1 ⟨A, cA, rfl, hR, hb1, hcap⟩)
    | (refine ⟨trivial, ?_⟩; gi_at_call 39; refine (callsIn_wide.2 (frame_Each s _)).mono ?_; rintro e w1 ⟨rfl, rfl⟩))
  have x0 : Boxed w1 w.heap.size 5 (.int .u8 (c : Int)) := (hb1.block w.heap.size (by rw [World.size_alloc]; omega)).trans (Boxed.new w 5 (.int .u8 (c : Int)))
  have hw1 : w.heap.size < w1.heap.size := x0.lt
  have bW := (x0.alloc (.cells #[.string s] 9)).alloc (.cells #[.slice none 0 0] 47)
  have bO := Boxed.new (w1.alloc (.cells #[.string s] 9)) 47 (.slice none 0 0)
  have bE := (Boxed.new w1 9 (.string s)).alloc (.cells #[.slice none 0 0] 47)
  simp only [World.size_alloc] at bO
  have hB0 : Below w1.heap.size w1 ((w1.alloc (.cells #[.string s] 9)).alloc (.cells #[.slice none 0 0] 47)) := ((Below.refl _ w1).alloc (Nat.le_refl _) _).alloc (by simp) _
  have hsz : ((w1.alloc (.cells #[.string s] 9)).alloc (.cells #[.slice none 0 0] 47)).heap.size = w1.heap.size + 2 := by simp
  obtain ⟨W0, hW0⟩ : ∃ W0, ((w1.alloc (.cells #[.string s] 9)).alloc (.cells #[.slice none 0 0] 47)) = W0 := ⟨_, rfl⟩
  rw [hW0] at bO bW bE hB0 hsz ⊢
  clear hW0
  refine wpIn_rangeFunc_ownH rfl (by omega) (gf := 55) (lb := #[.pointer (some ⟨w1.heap.size, 0, none⟩)]) rfl trivial (enters_of Try.func55 (by kernel_rfl) rfl)
    (HST.out 2 (by omega) w1.heap.size W0 (by omega) bE.cell) (fun _ _ => trivial) (fun _ _ _ _ _ _ _ _ => trivial) (Below.refl _ _) (fun _ => rfl)
    (fun pre W => (((∃ v, Boxed W (w1.heap.size + 1) 47 v ∧ W.ownsRow w1.heap.size 44 2 v pre.length (fcells pre) ∧ True) ∧ Boxed W w.heap.size 5 (.int .u8 (c : Int))) ∧ (pre = [] ∨ pre.length < c)) ∧ Below w1.heap.size w1 W)
    (fun cd pre W => (((∃ v, Boxed W (w1.heap.size + 1) 47 v ∧ W.ownsRow w1.heap.size 44 2 v pre.length (fcells pre) ∧ True) ∧ Boxed W w.heap.size 5 (.int .u8 (c : Int))) ∧ (cd = .exit 0 ∧ pre.length = max 1 c)) ∧ Below w1.heap.size w1 W)
    (OwnFrom.and (OwnFrom.and (OwnFrom.and (Own.from (holdsRow_own w1.heap.size (w1.heap.size + 1) 47 44 2 (fun pre => pre.length) (fun pre => fcells pre) (fun _ _ => True)) _) (Own.from (boxed_own w.heap.size 5 (fun _ => Value.int .u8 (c : Int))) _)) (ownFrom_pure _ _)) (ownFrom_below (Nat.le_refl _) (by omega)))
    (fun cd => OwnFrom.and (OwnFrom.and (OwnFrom.and (Own.from (holdsRow_own w1.heap.size (w1.heap.size + 1) 47 44 2 (fun pre => pre.length) (fun pre => fcells pre) (fun _ _ => True)) _) (Own.from (boxed_own w.heap.size 5 (fun _ => Value.int .u8 (c : Int))) _)) (ownFrom_pure _ _)) (ownFrom_below (Nat.le_refl _) (by omega)))
    ⟨⟨⟨⟨_, bO, World.ownsRow_nil _ _ _ _, trivial⟩, bW⟩, .inl rfl⟩, hB0⟩
    (fun x a' W => ∃ (Bx : Nat) (v0 : Value), w1.heap.size + 1 < Bx ∧ Boxed W (w1.heap.size + 1) 47 v0 ∧ v0.ownBlock ≠ some Bx ∧ Box2 W Bx 44 (.int .i64 x.1) (.string ⟨x.2.toArray⟩) ∧ a' = { tmps := #[.string s, .int .u8 (c : Int), undef, .pointer (some ⟨w.heap.size, 0, none⟩), .bool false, .slice A l.length cA, .int .i64 (n0 : Int), .int .i64 er, .func (.func 55) #[] #[.pointer (some ⟨w1.heap.size, 0, none⟩)], .pointer (some ⟨w1.heap.size + 1, 0, none⟩), .pointer (some ⟨Bx, 0, none⟩), .string s, .int .i64 (s.size : Int), .bool (decide (1024 < (s.size : Int))), undef, .tuple #[.slice A l.length cA, .int .i64 (n0 : Int), .int .i64 er], .string s, .tuple #[.slice A l.length cA, .int .i64 (n0 : Int), .int .i64 er], .slice A l.length cA, .int .i64 (n0 : Int), .int .i64 er, .string s, .func (.func 55) #[] #[.pointer (some ⟨w1.heap.size, 0, none⟩)], .func (.func 55) #[] #[.pointer (some ⟨w1.heap.size, 0, none⟩)], .bool false, .func (.func 55) #[] #[.pointer (some ⟨w1.heap.size, 0, none⟩)], .agg #[.int .i64 x.1, .string ⟨x.2.toArray⟩], undef, undef, undef, undef, undef, undef, undef, undef, undef, undef, undef, undef, undef, undef, undef, undef, undef, undef, undef, undef, undef, undef], defers := [] })
    (fun x a' _ X Y row hs hg hr => by
      obtain ⟨Bx, v0, h1, h2, h3, h4, h5⟩ := hs
      exact ⟨Bx, v0, h1, boxed_own (w1.heap.size + 1) 47 (fun (_ : Unit) => v0) () X Y row h2 hg (fun r e => (hr r e).2), h3, Box2.own Bx 44 _ _ () X Y row h4 hg (fun r e => (hr r e).2), h5⟩)
    ?assign ?body ?done ?stop
  case assign =>
    rintro l0 pre x W K ⟨⟨⟨⟨v, hv, hrow, _⟩, hS⟩, hlen⟩, hB⟩ hK
    have hob : v.ownBlock ≠ some W.heap.size := fun e => by have := (hrow.lt _ e).2; omega
    unfold frV
    gi_wp2
    exact hK _ _ ((KeepsOthers.alloc _ _).from _) trivial ⟨⟨⟨⟨v, hv.alloc _, hrow.alloc _, trivial⟩, hS.alloc _⟩, hlen⟩, hB.alloc hB.size _⟩ ⟨W.heap.size, v, hv.lt, hv.alloc _, hob, Box2.new W _ _ _, rfl⟩
  case body =>
    rintro l0 pre x a' W hl0 ⟨r, hr⟩ ⟨⟨⟨⟨v, hv, hrow, _⟩, hS⟩, hlen⟩, hB⟩ ⟨Bx, v0, hBx, hv0, hob, bX, rfl⟩ hlt
    obtain rfl : v = v0 := boxed_uniq hv hv0
    have hc := hv.cell
    obtain ⟨x0, x1⟩ := bX.cells
    have hle := hB.size
    have hsb := hS
    gi_wp2_with (gi_at_builtin; go_loud (refine wpListIn_append_own _ rfl _ _ 47 rfl w1.heap.size 44 i0 (.agg #[.int .i64 0, .string ⟨#[]⟩]) 2 24 Try.underlying47 HI.out.1 HI.out.2.1 HI.out.2.2.1 HI.out.2.2.2 rfl (by decide) _ _ _ rfl (hrow.alloc _) ⟨W.heap.size, 0, none⟩ 1 1 [.int .i64 x.1, .string ⟨x.2.toArray⟩] rfl rfl (World.news_of_block (heap_alloc_new W _)) (by simp [Value.oneCell']) (by unfold maxLen; omega) (by omega) (by simp; omega) ?_; intro v' w2 hown' hgrow _; obtain ⟨g', cap', rfl⟩ := ownsRow_succ hown'; obtain ⟨hv1, hv2, hr2, hk2, hb2⟩ := hv.appended (by decide) hrow hB.size (by omega) hown' hgrow; have hc1 := hv1.cell; have hf1 := hv1.frozen; have hS1 := (hS.alloc (.cells #[.int .i64 x.1, .string ⟨x.2.toArray⟩] 44)).kept hgrow (hS.not_row (by decide) hrow); have hS2 := hS1.other (B' := w1.heap.size + 1) (by omega) (.slice (some ⟨g', 0, none⟩) (pre.length + 1) cap'); have cS2 := hS2.cell; have bX1 := (box2_grown bX (.cells #[.int .i64 x.1, .string ⟨x.2.toArray⟩] 44) hgrow (fun e => hob e.symm)).cells.2; have hne1 : ¬ (w1.heap.size + 1 = Bx) := by omega))
    · rename_i h9
      refine ⟨hk2.from _, ⟨⟨⟨⟨_, hv2, ?_, trivial⟩, hS2⟩, rfl, ?_⟩, hB.trans hb2⟩⟩
      · rw [List.length_append, fcells_snoc]; exact hr2
      · rw [List.length_append]
        rcases hlen with rfl | hlen
        · simp at h9 ⊢; omega
        · simp; omega
    · rename_i h9
      refine ⟨hk2.from _, trivial, ⟨⟨⟨⟨_, hv2, ?_, trivial⟩, hS2⟩, .inr ?_⟩, hB.trans hb2⟩⟩
      · rw [List.length_append, fcells_snoc]; exact hr2
      · rw [List.length_append]; simp; omega
  case done =>
    rintro D ys W hD rfl ⟨⟨⟨⟨v, hv, hrow, _⟩, hS⟩, hlen⟩, hB⟩ hK
    have hc := hv.cell
    have hcs := hS.cell
    obtain ⟨B, cB, rfl⟩ := own_slice hrow
    have hl0 : ys.length = 0 ∨ ys.length < c := by
      rcases hlen with rfl | h
      · exact .inl rfl
      · exact .inr h
    have HP := Lib.hid (fun u : Later W.heap.size W => ((hR.below (hB.trans (u.h.mono hB.size))).more (Nat.le_trans hB.size u.h.size)))
    have hvl := hv.lt
    have hSl := hS.lt
    have HS := Lib.hid (fun u : Later W.heap.size W => ref_Same6 B A cB cA ys (by omega) u.w ((RdF.own hrow).below u.h |>.more u.h.size) (HP.out u))
    have hg := fun u : Later W.heap.size W => (u.h.cell (p := ⟨w1.heap.size + 1, 0, none⟩) hvl).trans hc
    have hg' := fun u : Later W.heap.size W => (u.h.cell (p := ⟨w.heap.size, 0, none⟩) hSl).trans hcs
    have hi0 : (0 : Int) ≤ (ys.length : Int) := by omega
    have hi1 : (ys.length : Int) ≤ (cA : Int) := by omega
    have hm : min (ys.length : Int) (max 1 (c : Int)) = (ys.length : Int) := by omega
    have hBw : Below w.heap.size w W := (below_step hb1 (below_alloc' _ (Below.refl _ _))).trans (hB.mono (by omega))
    have hle := hB.size
    have hKl : D < W.heap.size := (Array.getElem?_eq_some_iff.1 hK).1
    gi_wp2
    refine wpIn_wide.2 ?_
    clear hc hcs hrow hv hS hvl hSl HP
    refine wp_region_later W.heap.size (by kernel_rfl) (by kernel_rfl) ?_
    repeat (go_big_quiet_step (first
      | (go_at_call 38; with_reducible exact later_of _ (Nat.le_refl _) (HS.out _))
      | (go_at_call 31; with_reducible exact later_of _ (Nat.le_refl _) (law06_awake _))))
    refine wpQuiet_nil ?_; intro _ hw'; obtain ⟨u, hw''⟩ := hw'; subst hw''
    have hbw : Below w.heap.size w u.w := hBw.trans (u.h.mono (by omega))
    have hKu := (u.h.block D hKl).trans hK
    gi_wp2 <;> exact ⟨by simp, .inl ⟨_, _, rfl, run_takeDeferred hKu, _, results_tmp rfl _ _ _, rfl, hbw.trans (belowK_b (w := w) (Nat.le_refl _) _ D _ _ (by omega) hKu rfl rfl)⟩⟩
  case stop =>
    rintro D cd pre W hD hpre ⟨⟨⟨⟨v, hv, hrow, _⟩, hS⟩, rfl, hlen⟩, hB⟩ hK
    have hc := hv.cell
    have hcs := hS.cell
    obtain ⟨B, cB, rfl⟩ := own_slice hrow
    have hple := hpre.length_le
    have HP := Lib.hid (fun u : Later W.heap.size W => (by
      have h9 := ((hR.take pre.length).below (hB.trans (u.h.mono hB.size))).more (Nat.le_trans hB.size u.h.size)
      rwa [← List.prefix_iff_eq_take.1 hpre] at h9 : RdF u.w u.w.heap.size A pre))
    have hvl := hv.lt
    have hSl := hS.lt
    have HS := Lib.hid (fun u : Later W.heap.size W => ref_Same6 B A cB cA pre (by omega) u.w ((RdF.own hrow).below u.h |>.more u.h.size) (HP.out u))
    have hg := fun u : Later W.heap.size W => (u.h.cell (p := ⟨w1.heap.size + 1, 0, none⟩) hvl).trans hc
    have hg' := fun u : Later W.heap.size W => (u.h.cell (p := ⟨w.heap.size, 0, none⟩) hSl).trans hcs
    have hi0 : (0 : Int) ≤ (pre.length : Int) := by omega
    have hi1 : (pre.length : Int) ≤ (cA : Int) := by omega
    have hmx : (if (1 : Int) < (c : Int) then (c : Int) else 1) = (pre.length : Int) := by split <;> omega
    have hmn : (if pre.length < l.length then (pre.length : Int) else (l.length : Int)) = (pre.length : Int) := by split <;> omega
    clear hlen
    have hBw : Below w.heap.size w W := (below_step hb1 (below_alloc' _ (Below.refl _ _))).trans (hB.mono (by omega))
    have hle := hB.size
    have hKl : D < W.heap.size := (Array.getElem?_eq_some_iff.1 hK).1
    gi_wp2
    refine wpIn_wide.2 ?_
    clear hc hcs hrow hv hS hvl hSl HP
    refine wp_region_later W.heap.size (by kernel_rfl) (by kernel_rfl) ?_
    repeat (go_big_quiet_step (first
      | (go_at_call 38; with_reducible exact later_of _ (Nat.le_refl _) (HS.out _))
      | (go_at_call 31; with_reducible exact later_of _ (Nat.le_refl _) (law06_awake _))))
    refine wpQuiet_nil ?_; intro _ hw'; obtain ⟨u, hw''⟩ := hw'; subst hw''
    have hbw : Below w.heap.size w u.w := hBw.trans (u.h.mono (by omega))
    have hKu := (u.h.block D hKl).trans hK
    gi_wp2 <;> exact ⟨by simp, .inl ⟨_, _, rfl, run_takeDeferred hKu, _, results_tmp rfl _ _ _, rfl, hbw.trans (belowK_b (w := w) (Nat.le_refl _) _ D _ _ (by omega) hKu rfl rfl)⟩⟩
theorem law06_FrameEach (s : ByteArray) (c : Int) (hc : (Lit.int .u8 c).wf = true) (w : World) :
    Calls Try.prog 10 #[.string s, .int .u8 c] w fun e w' => e = .returned (.bool true) ∧ Below w.heap.size w w' := by
  have hc' : 0 ≤ c ∧ c ≤ 255 := by simpa [Lit.wf, IntKind.min, IntKind.max, IntKind.signed, IntKind.bits] using hc
  by_cases h : s.size ≤ 1024
  · obtain ⟨n, rfl⟩ := Int.eq_ofNat_of_zero_le hc'.1
    exact law06_FrameEach_ok s n h (by omega) w
  · exact law06_FrameEach_long s c h w
end Go.Proofs.Ytaocmepffhochaa
