/- Layer 10 (rank): the newest does not hang on the order: plain, and by the code. -/
import Derived.Test.YtkhnmdmpkedifaaLaw10c
import Derived.Test.YtkhnmdmpkedifaaAppend
namespace Go.Proofs.Ytkhnmdmpkedifaa
open Go.ChangeShapes Go.WideShapes Go.ChangeAt Go.RowKit Go.Deep

abbrev ordS (x y : Sp) : Int := RankP.ordI (spP x) (spP y)
abbrev newS (x y : Sp) : Bool := RankP.newer (spP x) (spP y)
/-- one of these, and none of them is newer -/
def TopL (l : List Sp) (a : Sp) : Prop := a ∈ l ∧ ∀ y ∈ l, newS y a = false
theorem newS_of_ord {x x' a : Sp} (h : ordS x x' = 0) : newS x a = newS x' a := by
  have h2 : ordS x' x = 0 := by rw [show ordS x' x = - ordS x x' from RankP.ord_anti _ _, h]; rfl
  have e1 : RankP.newer (spP x) (spP x') = false := by unfold RankP.newer; rw [show RankP.ordI (spP x) (spP x') = 0 from h]; rfl
  have e2 : RankP.newer (spP x') (spP x) = false := by unfold RankP.newer; rw [show RankP.ordI (spP x') (spP x) = 0 from h2]; rfl
  cases hx : newS x a with
  | true =>
    cases hx' : newS x' a with
    | true => rfl
    | false => have := RankP.not_newer_trans _ _ _ e1 hx'; rw [show RankP.newer (spP x) (spP a) = true from hx] at this; cases this
  | false =>
    cases hx' : newS x' a with
    | false => rfl
    | true => have := RankP.not_newer_trans _ _ _ e2 hx; rw [show RankP.newer (spP x') (spP a) = true from hx'] at this; cases this
theorem top_ord {l1 l2 : List Sp} {a b : Sp} (ha : TopL l1 a) (hb : TopL l2 b) (h12 : ∀ x ∈ l1, ∃ y ∈ l2, ordS x y = 0) (h21 : ∀ y ∈ l2, ∃ x ∈ l1, ordS y x = 0) : ordS a b = 0 := by
  obtain ⟨y, hy, e1⟩ := h12 a ha.1
  obtain ⟨x, hx, e2⟩ := h21 b hb.1
  have n1 : newS a b = false := by rw [newS_of_ord e1]; exact hb.2 y hy
  have n2 : newS b a = false := by rw [newS_of_ord e2]; exact ha.2 x hx
  unfold newS RankP.newer at n1 n2
  rw [decide_eq_false_iff_not] at n1 n2
  rw [RankP.ord_anti] at n2
  show RankP.ordI (spP a) (spP b) = 0
  omega
theorem keptP_idem (x : CodeP.Sp) : RankP.keptP (RankP.keptP x) = RankP.keptP x := by unfold RankP.keptP; simp only [CodeP.Sp.mk.injEq, true_and, and_true]; omega
theorem ord_kept (x : Sp) : ordS x.kept x = 0 := RankP.same_ord _ _ (by rw [spP_kept]; exact keptP_idem _)
theorem kept_kept (x : Sp) : x.kept.kept = x.kept := spP_inj (by rw [spP_kept, spP_kept]; exact keptP_idem _)
theorem kept_same {x y : Sp} (hx : x.Ok) (hy : y.Ok) (mx : CodeP.may (spP x) = 0) (my : CodeP.may (spP y) = 0) (h : ordS x y = 0) : x.kept = y.kept := by
  have m : ∀ z : Sp, CodeP.may (spP z) = 0 → CodeP.mayB (spP z) = true := fun z hz => by
    unfold CodeP.may at hz
    by_cases hb : CodeP.mayB (spP z) = true
    · exact hb
    · rw [if_neg hb] at hz; cases hz
  exact spP_inj (by rw [spP_kept, spP_kept]; exact RankP.ord_same _ _ (spP_Ok x hx) (spP_Ok y hy) (m x mx) (m y my) h)
/-- backwards, the first behind each -/
def bk (l : List Sp) (b : Sp) (m : Nat) : List Sp := (l.reverse.take m).flatMap (fun x => [x, b])
theorem bk_succ (l : List Sp) (b : Sp) (m j : Nat) (x : Sp) (hx : l[j]? = some x) (hm : m < l.length) (hj : (l.length : Int) - 1 - m = j) : bk l b (m + 1) = bk l b m ++ [x, b] := by
  have hr : l.reverse[m]? = some x := by rw [List.getElem?_reverse hm, show l.length - 1 - m = j by omega]; exact hx
  unfold bk
  rw [ptake_snoc _ _ _ hr, List.flatMap_append]
  simp
theorem bk_mem (l : List Sp) (b x : Sp) (hb : b ∈ l) : x ∈ bk l b l.length ↔ x ∈ l := by
  unfold bk
  rw [List.take_of_length_le (by simp), List.mem_flatMap]
  constructor
  · rintro ⟨y, hy, hx⟩
    simp at hx hy
    rcases hx with rfl | rfl
    · exact hy
    · exact hb
  · intro hx
    exact ⟨x, by simpa using hx, by simp⟩
theorem bk_len (l : List Sp) (b : Sp) (m : Nat) (hm : m ≤ l.length) : (bk l b m).length = 2 * m := by
  unfold bk
  rw [List.length_flatMap]
  have : ∀ q : List Sp, (List.map (fun _ => 2) q).sum = 2 * q.length := by
    intro q
    induction q with
    | nil => rfl
    | cons x q ih => rw [List.map_cons, List.sum_cons, ih, List.length_cons]; omega
  have h2 := this (l.reverse.take m)
  rw [List.length_take, List.length_reverse] at h2
  simp only [List.length_cons, List.length_nil]
  rw [h2]; omega

/-- the newest of some, by the code -/
theorem rank_Best_top (A : Option Addr) (c : Nat) (l : List Sp) (hne : l ≠ []) (hok : ∀ x ∈ l, x.Ok ∧ x.few) (hlc : l.length ≤ c) (hcm : c ≤ maxLen) (hA : ∃ ad, A = some ad) : ∃ r : Sp, TopL l r ∧
    ∀ W, RdS W W.heap.size A l → Calls Try.prog 18 #[.slice A l.length c] W fun e W' => e = .returned (.tuple #[.agg #[.int .i64 r.tr, .int .i64 r.id, .int .i64 r.pa, .int .i64 r.rv, .string r.sv, .string r.op, .int .i64 r.st, .int .i64 (clampS r.du 0 4611686018427387904), .bool r.gn], .bool true]) ∧ Below W.heap.size W W' := by
  cases l with
  | nil => exact absurd rfl hne
  | cons b l =>
    obtain ⟨ad, rfl⟩ := hA
    obtain ⟨t, ht⟩ := topS_best b l
    exact ⟨bestS b l, ⟨List.mem_of_getElem? ht.1, ht.2.1⟩, fun W h => rank_Best ad c b l hok (by simpa using hlc) hcm W h⟩
theorem info_span : (Try.prog.info? 23).map (fun i => (i.zero, i.size, i.bytes)) = some (some (.agg #[.int .i64 0, .int .i64 0, .int .i64 0, .int .i64 0, .string ⟨#[]⟩, .string ⟨#[]⟩, .int .i64 0, .int .i64 0, .bool false]), 9, 88) := by kernel_rfl
theorem RdS_own {w : World} {base g n cap : Nat} {e : TypeId} {l : List Sp} (h : w.ownsRow base e 9 (.slice (some ⟨g, 0, none⟩) n cap) n (l.flatMap spCells)) : RdS w w.heap.size (some ⟨g, 0, none⟩) l := by
  obtain ⟨_, ⟨h0, _⟩ | ⟨g', cap', cur, hv, _, hg, _⟩⟩ := id h
  · cases h0
  · obtain ⟨rfl, _⟩ : g = g' ∧ cap = cap' := by simpa using hv
    refine RdS_cells l (box_lt hg) (fun j v hj => ?_)
    have := h.cells (g := g) rfl j v hj
    have e1 : (⟨g, 0, none⟩ : Addr).add j = ⟨g, j, none⟩ := by unfold Addr.add; split <;> simp_all
    rwa [e1] at this
