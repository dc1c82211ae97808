/- Walks of layer 6 (frame): all frames that bytes begin with. -/
import Derived.Test.YtaocmepffhochaaFrameE
import Derived.Test.YtaocmepffhochaaFrameAP
import Derived.BigRegionIn
namespace Go.Proofs.Ytaocmepffhochaa
open Go.ChangeShapes Go.WideShapes Go.ChangeAt Go.RowKit Go.Deep Go.Shelf BigP

attribute [local go_sem] Oper.semAt_some
/-- the sum of bytes, as the program makes it -/
def szW (l : List FrameP.Fr) : Int := l.foldl (fun n f => RowKit.wrap64 (n + RowKit.wrap64 (16 + (f.2.length : Int)))) 0
theorem szW_snoc (l : List FrameP.Fr) (f : FrameP.Fr) : szW (l ++ [f]) = RowKit.wrap64 (szW l + RowKit.wrap64 (16 + (f.2.length : Int))) := by simp [szW]
theorem szW_eq (l : List FrameP.Fr) (h : FrameP.bytes l ≤ 1000000000) : szW l = (FrameP.bytes l : Int) := by
  suffices hh : ∀ (l : List FrameP.Fr) (n : Nat), n + FrameP.bytes l ≤ 1000000000 → l.foldl (fun n f => RowKit.wrap64 (n + RowKit.wrap64 (16 + (f.2.length : Int)))) (n : Int) = ((n + FrameP.bytes l : Nat) : Int) by
    have := hh l 0 (by omega)
    simpa [szW] using this
  intro l
  induction l with
  | nil => intro n _; simp [FrameP.bytes]
  | cons f l ih =>
    intro n h
    rw [FrameP.bytes_cons] at h ⊢
    have e : RowKit.wrap64 ((n : Int) + RowKit.wrap64 (16 + (f.2.length : Int))) = ((n + (16 + f.2.length) : Nat) : Int) := by unfold RowKit.wrap64; omega
    rw [List.foldl_cons, e, ih _ (by omega)]
    refine congrArg _ ?_
    omega
theorem boxed_uniq {W : World} {B : Nat} {t : TypeId} {a b : Value} (h : Boxed W B t a) (k : Boxed W B t b) : a = b := by
  have h' : W.heap[B]? = some (.cells #[a] t (0, 0)) := h
  have k' : W.heap[B]? = some (.cells #[b] t (0, 0)) := k
  rw [h'] at k'
  simpa using k'
theorem box2_grown {W W' : World} {B : Nat} {t : TypeId} {a b : Value} (h : Box2 W B t a b) (o : Obj) {row : Option Nat} (hg : (W.alloc o).grownBy W' row) (hne : some B ≠ row) : Box2 W' B t a b := by
  have h' : W.heap[B]? = some (.cells #[a, b] t (0, 0)) := h
  have hlt : B < W.heap.size := (Array.getElem?_eq_some_iff.1 h').1
  show W'.heap[B]? = _
  rw [hg.block B (by rw [World.size_alloc]; omega) hne, Below.heap_alloc W o B hlt]
  exact h'

set_option maxRecDepth 100000 in
set_option maxHeartbeats 4000000 in
theorem frame_All (s : ByteArray) (hs : s.size ≤ 1000000000) (w : World) :
    Calls Try.prog 36 #[.string s] w (AllPost (FrameP.all s.data.toList) w) := by
  obtain ⟨i0, hi, hz0, hz1, hz2⟩ := info_parts' info_frame
  have HI := Lib.hid (And.intro hi (And.intro hz0 (And.intro hz1 hz2)))
  clear hi hz0 hz1 hz2
  obtain ⟨f1, f2, f3, f4, f5⟩ := FrameP.all_facts _ s.data.toList (Nat.le_refl _)
  have hsl : s.data.toList.length = s.size := rfl
  rw [hsl] at f2 f4 f5
  have F := Lib.hid (And.intro f1 (And.intro f4 f5))
  have hN : (FrameP.all s.data.toList).1.length ≤ 100000000 := by omega
  have F3 := Lib.hid (And.intro f2 f3)
  clear f1 f2 f3 f4 f5 hsl
  refine (callsIn_wide (n := 3)).1 ?_
  refine callsIn_of_wp_marks Try.func36 rfl trivial ?_ rfl
  simp only [Try.ntmps36, List.size_toArray, List.length_cons, List.length_nil, Nat.reduceAdd, Nat.reduceSub, Array.replicate_succ, Array.replicate_zero, List.push_toArray, List.append_toArray, List.nil_append, List.cons_append]
  gi_wp2_with (refine ⟨trivial, ?_⟩; gi_at_call 39; refine (callsIn_wide.2 (frame_Each s _)).mono ?_; rintro e w1 ⟨rfl, rfl⟩)
  have bO := ((Boxed.new w 47 (.slice none 0 0)).alloc (.cells #[.int .i64 0] 3)).alloc (.cells #[.string s] 9)
  have bS := (Boxed.new (w.alloc (.cells #[.slice none 0 0] 47)) 3 (.int .i64 0)).alloc (.cells #[.string s] 9)
  have bE := Boxed.new ((w.alloc (.cells #[.slice none 0 0] 47)).alloc (.cells #[.int .i64 0] 3)) 9 (.string s)
  simp only [World.size_alloc] at bS bE
  have hB0 : Below w.heap.size w (((w.alloc (.cells #[.slice none 0 0] 47)).alloc (.cells #[.int .i64 0] 3)).alloc (.cells #[.string s] 9)) := (((Below.refl _ w).alloc (Nat.le_refl _) _).alloc (by simp) _).alloc (by simp; omega) _
  have hsz : (((w.alloc (.cells #[.slice none 0 0] 47)).alloc (.cells #[.int .i64 0] 3)).alloc (.cells #[.string s] 9)).heap.size = w.heap.size + 3 := by simp
  obtain ⟨W0, hW0⟩ : ∃ W0, (((w.alloc (.cells #[.slice none 0 0] 47)).alloc (.cells #[.int .i64 0] 3)).alloc (.cells #[.string s] 9)) = W0 := ⟨_, rfl⟩
  rw [hW0] at bO bS bE hB0 hsz ⊢
  clear hW0
  refine wpIn_rangeFunc_ownH rfl (by omega) (gf := 55) (lb := #[.pointer (some ⟨w.heap.size + 1 + 1, 0, none⟩)]) rfl trivial (enters_of Try.func55 (by kernel_rfl) rfl)
    (each_stops 2 (by omega) (w.heap.size + 1 + 1) s (by unfold maxLen; omega) W0 (by omega) bE.cell) (fun _ _ => trivial) (fun _ _ _ _ _ _ _ _ => trivial) (Below.refl _ _) (fun _ => rfl)
    (fun pre W => ((∃ v, Boxed W w.heap.size 47 v ∧ W.ownsRow w.heap.size 44 2 v pre.length (fcells pre) ∧ True) ∧ Boxed W (w.heap.size + 1) 3 (.int .i64 (szW pre))) ∧ Below w.heap.size w W)
    (fun _ _ _ => False)
    (OwnFrom.and (OwnFrom.and (Own.from (holdsRow_own w.heap.size w.heap.size 47 44 2 (fun pre => pre.length) (fun pre => fcells pre) (fun _ _ => True)) _) (Own.from (boxed_own (w.heap.size + 1) 3 (fun pre => Value.int .i64 (szW pre))) _)) (ownFrom_below (Nat.le_refl _) (by omega)))
    (fun _ _ _ _ _ hs _ _ => hs)
    ⟨⟨⟨_, bO, World.ownsRow_nil _ _ _ _, trivial⟩, bS⟩, hB0⟩
    (fun x a' W => ∃ (Bx : Nat) (v0 : Value), w.heap.size + 1 < Bx ∧ Boxed W w.heap.size 47 v0 ∧ v0.ownBlock ≠ some Bx ∧ Box2 W Bx 44 (.int .i64 x.1) (.string ⟨x.2.toArray⟩) ∧ a' = { tmps := #[.string s, undef, .slice none 0 0, .int .i64 0, .int .i64 0, .pointer (some ⟨w.heap.size, 0, none⟩), .pointer (some ⟨w.heap.size + 1, 0, none⟩), .pointer (some ⟨Bx, 0, none⟩), undef, undef, undef, .string s, .func (.func 55) #[] #[.pointer (some ⟨w.heap.size + 1 + 1, 0, none⟩)], .agg #[.int .i64 x.1, .string ⟨x.2.toArray⟩], undef, undef, undef, undef, undef, undef, undef, undef, undef, undef, undef, undef, undef, undef, undef, undef, undef, undef, undef, undef, undef, undef, undef, undef, undef, undef, undef], defers := [] })
    (fun x a' _ X Y row hs hg hr => by
      obtain ⟨Bx, v0, h1, h2, h3, h4, h5⟩ := hs
      exact ⟨Bx, v0, h1, boxed_own w.heap.size 47 (fun (_ : Unit) => v0) () X Y row h2 hg (fun r e => (hr r e).2), h3, Box2.own Bx 44 _ _ () X Y row h4 hg (fun r e => (hr r e).2), h5⟩)
    ?assign ?body ?done ?stop
  case assign =>
    rintro l pre x W K ⟨⟨⟨v, hv, hrow, _⟩, hS⟩, hB⟩ hK
    have hob : v.ownBlock ≠ some W.heap.size := fun e => by have := (hrow.lt _ e).2; omega
    unfold frV
    gi_wp2
    exact hK _ _ ((KeepsOthers.alloc _ _).from _) trivial ⟨⟨⟨v, hv.alloc _, hrow.alloc _, trivial⟩, hS.alloc _⟩, hB.alloc hB.size _⟩ ⟨W.heap.size, v, hS.lt, hv.alloc _, hob, Box2.new W _ _ _, rfl⟩
  case body =>
    rintro l pre x a' W hl ⟨r, hr⟩ ⟨⟨⟨v, hv, hrow, _⟩, hS⟩, hB⟩ ⟨Bx, v0, hBx, hv0, hob, bX, rfl⟩ hlt
    obtain rfl : v = v0 := boxed_uniq hv hv0
    have hc := hv.cell
    obtain ⟨x0, x1⟩ := bX.cells
    have hle := hB.size
    have hsb := hS
    gi_wp2_with (gi_at_builtin; refine wpListIn_append_own _ rfl _ _ 47 rfl w.heap.size 44 i0 (.agg #[.int .i64 0, .string ⟨#[]⟩]) 2 24 Try.underlying47 HI.out.1 HI.out.2.1 HI.out.2.2.1 HI.out.2.2.2 rfl (by decide) _ _ _ rfl (hrow.alloc _) ⟨W.heap.size, 0, none⟩ 1 1 [.int .i64 x.1, .string ⟨x.2.toArray⟩] rfl rfl (World.news_of_block (heap_alloc_new W _)) (by simp [Value.oneCell']) (by unfold maxLen; omega) (by omega) (by simp; omega) ?_; intro v' w1 hown' hgrow _; obtain ⟨g', cap', rfl⟩ := ownsRow_succ hown'; obtain ⟨hv1, hv2, hr2, hk2, hb2⟩ := hv.appended (by decide) hrow hB.size (Nat.le_refl _) hown' hgrow; have hc1 := hv1.cell; have hf1 := hv1.frozen; have hS1 := (hS.alloc (.cells #[.int .i64 x.1, .string ⟨x.2.toArray⟩] 44)).kept hgrow (hS.not_row (by decide) hrow); have cS1 := hS1.cell; have fS1 := hS1.frozen; have bX1 := (box2_grown bX (.cells #[.int .i64 x.1, .string ⟨x.2.toArray⟩] 44) hgrow (fun e => hob e.symm)).cells.2; have hne1 : ¬ (w.heap.size = Bx) := by omega)
    have hS2 := hS1.other (B' := w.heap.size) (by omega) (.slice (some ⟨g', 0, none⟩) (pre.length + 1) cap')
    refine ⟨(hk2.trans (KeepsOthers.setCell _ _ _)).from _, trivial, ⟨⟨_, hv2.other (by omega) _, ?_, trivial⟩, ?_⟩, (hB.trans hb2).setCell (p := ⟨w.heap.size + 1, 0, none⟩) (by simp) _⟩
    · rw [List.length_append, fcells_snoc]
      exact hr2.kept (grownBy_setCell' _ (w.heap.size + 1) _) (.inr (hS2.not_row (by decide) hr2).symm)
    · rw [szW_snoc]; exact hS2.set _
  case done =>
    rintro D ys W hD rfl ⟨⟨⟨v, hv, hrow, _⟩, hS⟩, hB⟩ hK
    have hc := hv.cell
    have hcs := hS.cell
    rw [szW_eq _ (by rw [F.out.1]; have := F3.out.1; omega), F.out.1] at hcs
    obtain ⟨A, c, rfl⟩ := own_slice hrow
    have hnz : (FrameP.all s.data.toList).2.1 ≤ s.size := F3.out.1
    have HF := Lib.hid F.out.2
    rcases hall : FrameP.all s.data.toList with ⟨xs, m, er⟩
    rw [hall] at hrow hc hcs hnz HF
    simp only at hrow hc hcs hnz HF
    by_cases hm : m = s.size
    · have hmb : ((m : Int) == (s.size : Int)) = true := by rw [beq_iff_eq]; omega
      have her : er = 0 := HF.out.1 hm
      subst her
      clear hm
      gi_wp2
      gi_region
      gi_wp2
      refine ⟨by simp, .inl ⟨_, _, rfl, run_takeDeferred (show W.drew.heap[D]? = _ from hK), ?_⟩⟩
      refine ⟨_, results_tmp3 rfl _ _ _, ?_⟩
      rw [hall]
      exact ⟨A, c, rfl, RdF.own (ownsRow_putObj hrow.drew _ hK rfl), (below_drewN hB 1).trans (belowK_b (w := w) (Nat.le_refl _) W.drew D _ _ (by omega) hK rfl rfl), own_cap hrow⟩
    · have hmb : ((m : Int) == (s.size : Int)) = false := by rw [beq_eq_false_iff_ne]; omega
      have hi0 : (0 : Int) ≤ (m : Int) := by omega
      have hi1 : (m : Int) ≤ (s.size : Int) := by omega
      have her : FrameP.take (s.extract m s.size).data.toList = ((FrameP.take (s.data.toList.drop m)).1, (FrameP.take (s.data.toList.drop m)).2.1, er) := by
        rw [ex_drop, ← (HF.out.2 (by omega)).1]
      have HE := Lib.hid (frame_Take (s.extract m s.size) (by rw [ByteArray.size_extract]; unfold maxLen; omega))
      rw [her] at HE
      unfold tfV at HE
      have hlt : w.heap.size < W.heap.size := hv.lt
      have hlt' : w.heap.size + 1 < W.heap.size := hS.lt
      have hKl : D < W.heap.size := (Array.getElem?_eq_some_iff.1 hK).1
      clear hm her
      gi_wp2_with (refine ⟨trivial, ?_⟩; gi_at_call 34; refine (callsIn_wide.2 (HE.out _)).mono ?_; rintro e w1 ⟨rfl, hb1⟩; have hc1 := (hb1.cell (p := ⟨w.heap.size, 0, none⟩) hlt).trans hc; have hcs1 := (hb1.cell (p := ⟨w.heap.size + 1, 0, none⟩) hlt').trans hcs; have hc2 := fun o => (((Below.refl w1.heap.size w1).alloc (Nat.le_refl _) o).cell (p := ⟨w.heap.size, 0, none⟩) (by have := hb1.size; show w.heap.size < _; omega)).trans hc1; have hcs2 := fun o => (((Below.refl w1.heap.size w1).alloc (Nat.le_refl _) o).cell (p := ⟨w.heap.size + 1, 0, none⟩) (by have := hb1.size; show w.heap.size + 1 < _; omega)).trans hcs1)
      gi_region
      gi_wp2
      have hbo : ∀ o, Below W.heap.size W (w1.alloc o).drew := fun o => below_drewN (hb1.alloc hb1.size o) 1
      refine ⟨by simp, .inl ⟨_, _, rfl, run_takeDeferred (((hbo _).block D hKl).trans hK), ?_⟩⟩
      refine ⟨_, results_tmp3 rfl _ _ _, ?_⟩
      rw [hall]
      have hK1 := fun o => ((hbo o).block D hKl).trans hK
      have hrow1 := fun o => hrow.kept (grown_of_below (hbo o)) (Classical.em _)
      exact ⟨A, c, rfl, RdF.own (ownsRow_putObj (hrow1 _) _ (hK1 _) rfl), (hB.trans ((hbo _).mono (by omega))).trans (belowK_b (w := w) (Nat.le_refl _) _ D _ _ (by omega) (hK1 _) rfl rfl), own_cap hrow⟩
  case stop =>
    rintro D c pre W _ _ h _
    exact h.elim
end Go.Proofs.Ytaocmepffhochaa
