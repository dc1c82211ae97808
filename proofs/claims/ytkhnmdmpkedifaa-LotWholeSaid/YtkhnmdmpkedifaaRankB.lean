/- Walks of layer 10 (rank): the newest of some records. -/
import Derived.Test.YtkhnmdmpkedifaaRank
import Derived.Test.YtkhnmdmpkedifaaSpans
namespace Go.Proofs.Ytkhnmdmpkedifaa
open Go.ChangeShapes Go.WideShapes Go.ChangeAt Go.RowKit Go.Deep

theorem box_set9 {w : World} {B : Nat} {T : TypeId} {c0 c1 c2 c3 c4 c5 c6 c7 c8 : Value} {fr : Nat × Nat} (h : w.heap[B]? = some (.cells #[c0, c1, c2, c3, c4, c5, c6, c7, c8] T fr)) (v0 v1 v2 v3 v4 v5 v6 v7 v8 : Value) :
    (((((((((w.setCell ⟨B, 0, none⟩ v0).setCell ⟨B, 1, none⟩ v1).setCell ⟨B, 2, none⟩ v2).setCell ⟨B, 3, none⟩ v3).setCell ⟨B, 4, none⟩ v4).setCell ⟨B, 5, none⟩ v5).setCell ⟨B, 6, none⟩ v6).setCell ⟨B, 7, none⟩ v7).setCell ⟨B, 8, none⟩ v8).heap[B]? = some (.cells #[v0, v1, v2, v3, v4, v5, v6, v7, v8] T fr) := by
  have k := box_set (box_set (box_set (box_set (box_set (box_set (box_set (box_set (box_set h 0 v0) 1 v1) 2 v2) 3 v3) 4 v4) 5 v5) 6 v6) 7 v7) 8 v8
  simpa only [List.setIfInBounds_toArray, List.set_cons_zero, List.set_cons_succ] using k
theorem box_setf {w : World} {A B : Nat} {o : Obj} (h : w.heap[A]? = some o) (hAB : A ≠ B) (j : Nat) (v : Value) : (w.setCell ⟨B, j, none⟩ v).heap[A]? = some o := (Below.heap_setCell w ⟨B, j, none⟩ v A hAB).trans h
theorem below_set {w W : World} (h : Below w.heap.size w W) {B : Nat} (hB : w.heap.size ≤ B) (j : Nat) (v : Value) : Below w.heap.size w (W.setCell ⟨B, j, none⟩ v) := h.setCell (p := ⟨B, j, none⟩) hB v
theorem addr_add_add (a : Addr) (m n : Nat) : (a.add m).add n = a.add (m + n) := by rw [add_add]
theorem RdS.tail_at {w w' : World} {B : Nat} {ad : Addr} {b : Sp} {l : List Sp} (h : RdS w B (some ad) (b :: l)) (hb : Below B w w') {k : Nat} {x : Sp} (hk : l[k]? = some x) :
    w'.cell? ⟨ad.block, ad.off + 9 + k * 9, none⟩ = some (.int .i64 x.tr) ∧ w'.cell? ⟨ad.block, ad.off + 9 + k * 9 + 1, none⟩ = some (.int .i64 x.id) ∧ w'.cell? ⟨ad.block, ad.off + 9 + k * 9 + 2, none⟩ = some (.int .i64 x.pa)
    ∧ w'.cell? ⟨ad.block, ad.off + 9 + k * 9 + 3, none⟩ = some (.int .i64 x.rv) ∧ w'.cell? ⟨ad.block, ad.off + 9 + k * 9 + 4, none⟩ = some (.string x.sv) ∧ w'.cell? ⟨ad.block, ad.off + 9 + k * 9 + 5, none⟩ = some (.string x.op)
    ∧ w'.cell? ⟨ad.block, ad.off + 9 + k * 9 + 6, none⟩ = some (.int .i64 x.st) ∧ w'.cell? ⟨ad.block, ad.off + 9 + k * 9 + 7, none⟩ = some (.int .i64 x.du) ∧ w'.cell? ⟨ad.block, ad.off + 9 + k * 9 + 8, none⟩ = some (.bool x.gn) := by
  have h0 := h.at hb (k := k + 1) (x := x) (by simpa using hk)
  have e9 : ad.add ((k + 1) * 9) = ⟨ad.block, ad.off + 9 + k * 9, none⟩ := by
    unfold Addr.add
    rw [if_neg (show ¬ (k + 1) * 9 = 0 by omega)]
    simp only [Addr.mk.injEq, true_and, and_true]; omega
  rw [e9] at h0
  exact h0
theorem addr_add0 (a : Addr) : a.add 0 = a := by unfold Addr.add; split <;> simp_all
/-- the newest so far -/
def bestS (b : Sp) (l : List Sp) : Sp := l.foldl (fun b x => if RankP.newer (spP x) (spP b) then x else b) b
theorem bestS_snoc (b : Sp) (l : List Sp) (x : Sp) : bestS b (l ++ [x]) = if RankP.newer (spP x) (spP (bestS b l)) then x else bestS b l := by unfold bestS; rw [List.foldl_append]; rfl
theorem bestS_spP (l : List Sp) : ∀ b, spP (bestS b l) = RankP.bestF (spP b) (l.map spP) := by
  induction l with
  | nil => intro b; rfl
  | cons x l ih =>
    intro b
    show spP (bestS (if RankP.newer (spP x) (spP b) then x else b) l) = RankP.bestF (if RankP.newer (spP x) (spP b) then spP x else spP b) (l.map spP)
    rw [ih]
    split <;> rfl
theorem bestS_mem (b : Sp) (l : List Sp) : bestS b l ∈ b :: l := by
  refine RankP.snoc_ind (p := fun l => bestS b l ∈ b :: l) (by simp [bestS]) (fun l x ih => ?_) l
  rw [bestS_snoc]
  split
  · simp
  · rcases List.mem_cons.1 ih with h | h
    · rw [h]; simp
    · simp [h]

set_option maxRecDepth 100000 in
theorem rank_Best_nil (A : Option Addr) (c : Nat) (w : World) :
    Calls Try.prog 18 #[.slice A 0 c] w fun e w' => e = .returned (.tuple #[.agg #[.int .i64 0, .int .i64 0, .int .i64 0, .int .i64 0, .string ⟨#[]⟩, .string ⟨#[]⟩, .int .i64 0, .int .i64 0, .bool false], .bool false]) ∧ Below w.heap.size w w' := by
  go_enter Try.func18, Try.ntmps18
  go_wp2_with fail
  refine bodyPost_ret (v := .tuple #[.agg #[.int .i64 0, .int .i64 0, .int .i64 0, .int .i64 0, .string ⟨#[]⟩, .string ⟨#[]⟩, .int .i64 0, .int .i64 0, .bool false], .bool false]) (by simp [results, Try.results18, go_sem]) rfl ⟨rfl, by (repeat (first | assumption | exact Below.refl _ _ | refine below_step (by assumption) ?_ | refine below_alloc' _ ?_ | refine below_drewN ?_ _ | refine Below.drew ?_))⟩
set_option maxRecDepth 100000 in
set_option maxHeartbeats 4000000 in
theorem rank_Best (ad : Addr) (c : Nat) (b : Sp) (l : List Sp) (hok : ∀ x ∈ b :: l, x.Ok ∧ x.few) (hc : l.length + 1 ≤ c) (hcm : c ≤ maxLen) (w : World) (hr : RdS w w.heap.size (some ad) (b :: l)) :
    Calls Try.prog 18 #[.slice (some ad) ((b :: l).length) c] w fun e w' => e = .returned (.tuple #[.agg #[.int .i64 (bestS b l).tr, .int .i64 (bestS b l).id, .int .i64 (bestS b l).pa, .int .i64 (bestS b l).rv, .string (bestS b l).sv, .string (bestS b l).op, .int .i64 (bestS b l).st, .int .i64 (clampS (bestS b l).du 0 4611686018427387904), .bool (bestS b l).gn], .bool true]) ∧ Below w.heap.size w w' := by
  have HR := Lib.hid hr
  have HK := Lib.hid hok
  have HM := Lib.hid (fun k : Nat => (show bestS b (l.take k) ∈ b :: l by
    rcases List.mem_cons.1 (bestS_mem b (l.take k)) with h | h
    · rw [h]; simp
    · exact List.mem_cons_of_mem _ (List.mem_of_mem_take h)))
  have hadl : ad.block < w.heap.size := by
    obtain ⟨ad', e, h, _⟩ := hr 0 b rfl
    cases e; exact h
  obtain ⟨c0, c1, c2, c3, c4, c5, c6, c7, c8⟩ := hr.at (below_alloc' (.cells #[.int .i64 0, .int .i64 0, .int .i64 0, .int .i64 0, .string ⟨#[]⟩, .string ⟨#[]⟩, .int .i64 0, .int .i64 0, .bool false] 23) (Below.refl _ _)) (k := 0) (x := b) rfl
  rw [List.length_cons]
  unfold maxLen at hcm
  simp only [Nat.zero_mul, addr_add0] at c0 c1 c2 c3 c4 c5 c6 c7 c8
  have hn : ((l.length + 1 : Nat) : Int) = (l.length : Int) + 1 := rfl
  have hn2 : ((l.length : Int) + 1 == 0) = false := by rw [beq_eq_false_iff_ne]; omega
  have hj1 : (1 : Int) ≤ (l.length : Int) + 1 := by omega
  have KA := Lib.hid (alloc2_0 w (.cells #[.int .i64 0, .int .i64 0, .int .i64 0, .int .i64 0, .string ⟨#[]⟩, .string ⟨#[]⟩, .int .i64 0, .int .i64 0, .bool false] 23) (.cells #[.int .i64 b.tr, .int .i64 b.id, .int .i64 b.pa, .int .i64 b.rv, .string b.sv, .string b.op, .int .i64 b.st, .int .i64 b.du, .bool b.gn] 23))
  have KB := Lib.hid (alloc2_1 w (.cells #[.int .i64 0, .int .i64 0, .int .i64 0, .int .i64 0, .string ⟨#[]⟩, .string ⟨#[]⟩, .int .i64 0, .int .i64 0, .bool false] 23) (.cells #[.int .i64 b.tr, .int .i64 b.id, .int .i64 b.pa, .int .i64 b.rv, .string b.sv, .string b.op, .int .i64 b.st, .int .i64 b.du, .bool b.gn] 23))
  clear hr hok
  by_cases hc1 : c = 1
  · subst hc1
    obtain rfl : l = [] := List.eq_nil_of_length_eq_zero (by omega)
    have HKP := Lib.hid (sat_Kept b)
    simp only [List.length_nil] at hn hn2 hj1 ⊢
    go_enter Try.func18, Try.ntmps18
    go_wp2_with fail
    refine wp_loop_rounds 1 ?_
    rw [rounds_succ]
    go_wp2_with (go_at_call 58; (with_reducible refine (HKP.out _).mono ?_); rintro e w1 ⟨rfl, b1⟩; have kA1 := kept KA.out b1; have fA1 := box_cells kA1; have gA1 := box_free kA1)
    have bb : Below w.heap.size w w1 := below_step b1 (below_alloc' _ (below_alloc' _ (Below.refl _ _)))
    refine bodyPost_ret (v := .tuple #[.agg #[.int .i64 b.tr, .int .i64 b.id, .int .i64 b.pa, .int .i64 b.rv, .string b.sv, .string b.op, .int .i64 b.st, .int .i64 (clampS b.du 0 4611686018427387904), .bool b.gn], .bool true]) (by simp [results, Try.results18, go_sem, fA1]) rfl ⟨rfl, ?_⟩
    repeat (with_reducible refine below_own ?_ _ _)
    exact bb
  · have hc2 : 1 < c := by omega
    go_enter Try.func18, Try.ntmps18
    go_wp2_with fail
    go_loopw [17] (fun i wr => ∃ k : Nat, k ≤ l.length ∧ i = .int .i64 k ∧ wr.heap[w.heap.size]? = some (.cells #[.int .i64 0, .int .i64 0, .int .i64 0, .int .i64 0, .string ⟨#[]⟩, .string ⟨#[]⟩, .int .i64 0, .int .i64 0, .bool false] 23 (0, 0)) ∧ wr.heap[w.heap.size + 1]? = some (.cells #[.int .i64 (bestS b (l.take k)).tr, .int .i64 (bestS b (l.take k)).id, .int .i64 (bestS b (l.take k)).pa, .int .i64 (bestS b (l.take k)).rv, .string (bestS b (l.take k)).sv, .string (bestS b (l.take k)).op, .int .i64 (bestS b (l.take k)).st, .int .i64 (bestS b (l.take k)).du, .bool (bestS b (l.take k)).gn] 23 (0, 0)) ∧ Below w.heap.size w wr) (fun i _ => l.length - (intOf i).toNat)
    case atStart => exact ⟨0, by omega, rfl, KA.out, by simpa [bestS] using KB.out, below_alloc' _ (below_alloc' _ (Below.refl _ _))⟩
    case round =>
      obtain ⟨k, hk, rfl, kA, kB, hb⟩ := hrel
      have hHM := HM.out k
      have hsn := fun x => bestS_snoc b (l.take k) x
      by_cases hlt : k < l.length
      · obtain ⟨x, hk'⟩ : ∃ x, l[k]? = some x := ⟨l[k], List.getElem?_eq_getElem hlt⟩
        have hts := ptake_snoc l k x hk'
        have hsn := bestS_snoc b (l.take k) x
        rw [← hts] at hsn
        obtain ⟨c0, c1, c2, c3, c4, c5, c6, c7, c8⟩ := HR.out.tail_at hb hk'
        obtain ⟨hxo, hxf⟩ := HK.out x (List.mem_cons_of_mem _ (List.mem_of_getElem? hk'))
        obtain ⟨hyo, hyf⟩ := HK.out _ hHM
        have N := rank_Newer x (bestS b (l.take k)) hxo hyo hxf hyf
        generalize bestS b (l.take k) = y at N kB hsn
        generalize RankP.newer (spP x) (spP y) = nb at N hsn
        have HN := Lib.hid N
        have HSN := Lib.hid hsn
        have hi0 : (0 : Int) ≤ (k : Int) := by omega
        have hi1 : (k : Int) < (l.length : Int) := by omega
        have kBa := kept_alloc kB (.cells #[.int .i64 x.tr, .int .i64 x.id, .int .i64 x.pa, .int .i64 x.rv, .string x.sv, .string x.op, .int .i64 x.st, .int .i64 x.du, .bool x.gn] 23)
        have kAa := kept_alloc kA (.cells #[.int .i64 x.tr, .int .i64 x.id, .int .i64 x.pa, .int .i64 x.rv, .string x.sv, .string x.op, .int .i64 x.st, .int .i64 x.du, .bool x.gn] 23)
        have fBa := box_cells kBa
        clear N hsn hts hk' hxo hxf hyo hyf hHM
        cases nb with
        | true =>
          go_wp2_with (go_at_call 20; (with_reducible refine (HN.out _).mono ?_); rintro e w1 ⟨rfl, b1⟩; have kX1 := later9 b1; have kA1 := kept kAa b1; have kB1 := kept kBa b1; have fB1 := box_cells kB1; have gB1 := box_free kB1)
          have hw1 : Below w.heap.size w w1 := below_step b1 (below_alloc' _ hb)
          refine ⟨⟨k + 1, by omega, by go_num, ?_, ?_, ?_⟩, by simp [intOf]; omega⟩
          · repeat (with_reducible refine box_setf ?_ (Nat.ne_of_lt (Nat.lt_succ_self _)) _ _)
            exact kA1
          · rw [HSN.out]
            exact box_set9 kB1 _ _ _ _ _ _ _ _ _
          · repeat (with_reducible refine below_set ?_ (Nat.le_succ _) _ _)
            exact hw1
        | false =>
          go_wp2_with (go_at_call 20; (with_reducible refine (HN.out _).mono ?_); rintro e w1 ⟨rfl, b1⟩; have kA1 := kept kAa b1; have kB1 := kept kBa b1)
          refine ⟨⟨k + 1, by omega, by go_num, kA1, ?_, below_step b1 (below_alloc' _ hb)⟩, by simp [intOf]; omega⟩
          rw [HSN.out]
          exact kB1
      · obtain rfl : k = l.length := by omega
        rw [List.take_length] at kB
        obtain ⟨y, hy⟩ : ∃ y, bestS b l = y := ⟨_, rfl⟩
        rw [hy] at kB
        have HKP := Lib.hid (sat_Kept y)
        have HY := Lib.hid hy
        clear hy
        have fB := box_cells kB
        clear hsn hHM
        go_wp2_with (go_at_call 58; (with_reducible refine (HKP.out _).mono ?_); rintro e w1 ⟨rfl, b1⟩; have kA1 := kept kA b1; have fA1 := box_cells kA1; have gA1 := box_free kA1)
        have bb : Below w.heap.size w w1 := below_step b1 hb
        refine bodyPost_ret (v := .tuple #[.agg #[.int .i64 y.tr, .int .i64 y.id, .int .i64 y.pa, .int .i64 y.rv, .string y.sv, .string y.op, .int .i64 y.st, .int .i64 (clampS y.du 0 4611686018427387904), .bool y.gn], .bool true]) (by simp [results, Try.results18, go_sem, fA1]) rfl ⟨by rw [HY.out], ?_⟩
        repeat (with_reducible refine below_own ?_ _ _)
        exact bb
