/- Walks of layer 10 (rank): the newest of some records, as the document has it. -/
import Derived.Test.YtkhnmdmpkedifaaRankB
namespace Go.Proofs.Ytkhnmdmpkedifaa
open Go.ChangeShapes Go.WideShapes Go.ChangeAt Go.RowKit Go.Deep

/-- no one of the first is newer -/
def noneS (l : List Sp) (x : Sp) : Bool := l.all (fun y => !RankP.newer (spP y) (spP x))
theorem noneS_snoc (l : List Sp) (x y : Sp) : noneS (l ++ [y]) x = (noneS l x && !RankP.newer (spP y) (spP x)) := by simp [noneS]
def TopS (l : List Sp) (t : Nat) (x : Sp) : Prop := l[t]? = some x ∧ (∀ y ∈ l, RankP.newer (spP y) (spP x) = false) ∧ ∀ j y, j < t → l[j]? = some y → RankP.newer (spP x) (spP y) = true
theorem noneS_top {l : List Sp} {t : Nat} {x : Sp} (h : TopS l t x) : noneS l x = true := by
  unfold noneS
  rw [List.all_eq_true]
  intro y hy
  rw [h.2.1 y hy]; rfl
theorem noneS_ahead {l : List Sp} {t j : Nat} {x y : Sp} (h : TopS l t x) (hj : j < t) (hy : l[j]? = some y) : noneS l y = false := by
  unfold noneS
  rw [List.all_eq_false]
  exact ⟨x, List.mem_of_getElem? h.1, by rw [h.2.2 j y hj hy]; simp⟩
theorem topS_best (b : Sp) (l : List Sp) : ∃ t, TopS (b :: l) t (bestS b l) := by
  obtain ⟨t, h1, h2, h3⟩ := RankP.bestF_top (spP b) (l.map spP)
  rw [← bestS_spP, show spP b :: l.map spP = (b :: l).map spP from rfl] at h1 h2 h3
  refine ⟨t, ?_, fun y hy => h2 (spP y) (List.mem_map_of_mem hy), fun j y hj hy => h3 j (spP y) hj (by rw [List.getElem?_map, hy]; rfl)⟩
  rw [List.getElem?_map] at h1
  obtain ⟨x, hx, he⟩ := Option.map_eq_some_iff.1 h1
  rw [hx, spP_inj he]

set_option maxRecDepth 100000 in
theorem ref10_Best_nil (A : Option Addr) (c : Nat) (w : World) :
    Calls Try.prog 19 #[.slice A 0 c] w fun e w' => e = .returned (.tuple #[.agg #[.int .i64 0, .int .i64 0, .int .i64 0, .int .i64 0, .string ⟨#[]⟩, .string ⟨#[]⟩, .int .i64 0, .int .i64 0, .bool false], .bool false]) ∧ Below w.heap.size w w' := by
  go_enter Try.func19, Try.ntmps19
  go_wp2_with fail
  refine wp_loop_rounds 1 ?_
  rw [rounds_succ]
  go_wp2_with fail
  refine bodyPost_ret (v := .tuple #[.agg #[.int .i64 0, .int .i64 0, .int .i64 0, .int .i64 0, .string ⟨#[]⟩, .string ⟨#[]⟩, .int .i64 0, .int .i64 0, .bool false], .bool false]) (by simp [results, Try.results19, go_sem]) rfl ⟨rfl, by (repeat (first | assumption | exact Below.refl _ _ | refine below_step (by assumption) ?_ | refine below_alloc' _ ?_ | refine below_drewN ?_ _ | refine Below.drew ?_))⟩
set_option maxRecDepth 100000 in
set_option maxHeartbeats 8000000 in
theorem ref10_Best (ad : Addr) (c : Nat) (l : List Sp) (hok : ∀ x ∈ l, x.Ok ∧ x.few) (hlen : l.length ≤ maxLen) (t : Nat) (x : Sp) (ht : TopS l t x) (w : World) (hr : RdS w w.heap.size (some ad) l) :
    Calls Try.prog 19 #[.slice (some ad) l.length c] w fun e w' => e = .returned (.tuple #[.agg #[.int .i64 x.tr, .int .i64 x.id, .int .i64 x.pa, .int .i64 x.rv, .string x.sv, .string x.op, .int .i64 x.st, .int .i64 (clampS x.du 0 4611686018427387904), .bool x.gn], .bool true]) ∧ Below w.heap.size w w' := by
  have HR := Lib.hid hr
  have HK := Lib.hid hok
  have HT := Lib.hid ht
  have htl : t < l.length := (List.getElem?_eq_some_iff.1 ht.1).1
  have HKP := Lib.hid (ref_Kept x)
  have KA := Lib.hid (heap_alloc_new w (.cells #[.int .i64 0, .int .i64 0, .int .i64 0, .int .i64 0, .string ⟨#[]⟩, .string ⟨#[]⟩, .int .i64 0, .int .i64 0, .bool false] 23))
  unfold maxLen at hlen
  clear hr hok ht
  go_enter Try.func19, Try.ntmps19
  go_wp2_with fail
  go_loopw [4] (fun i wr => ∃ k : Nat, k ≤ t ∧ i = .int .i64 k ∧ wr.heap[w.heap.size]? = some (.cells #[.int .i64 0, .int .i64 0, .int .i64 0, .int .i64 0, .string ⟨#[]⟩, .string ⟨#[]⟩, .int .i64 0, .int .i64 0, .bool false] 23 (0, 0)) ∧ Below w.heap.size w wr) (fun i _ => l.length - (intOf i).toNat)
  case atStart => exact ⟨0, by omega, rfl, KA.out, below_alloc' _ (Below.refl _ _)⟩
  case round =>
    obtain ⟨i, hi, rfl, kA, hb⟩ := hrel
    obtain ⟨y, hy'⟩ : ∃ y, l[i]? = some y := ⟨l[i]'(by omega), List.getElem?_eq_getElem (by omega)⟩
    have hil : i < l.length := by omega
    have hj0 : (0 : Int) ≤ (i : Int) := by omega
    have hj1 : (i : Int) < (l.length : Int) := by omega
    have HYI := Lib.hid hy'
    have hyok := HK.out y (List.mem_of_getElem? hy')
    have HYOK := Lib.hid hyok
    clear hy' hyok
    obtain ⟨wo, rfl⟩ : ∃ wo : World, wo = wr := ⟨_, rfl⟩
    go_wp2_with fail
    go_loopw [5, 6] (fun nn kk wi => ∃ k : Nat, k ≤ l.length ∧ kk = .int .i64 k ∧ nn = .bool (noneS (l.take k) y) ∧ wi.heap[w.heap.size]? = some (.cells #[.int .i64 0, .int .i64 0, .int .i64 0, .int .i64 0, .string ⟨#[]⟩, .string ⟨#[]⟩, .int .i64 0, .int .i64 0, .bool false] 23 (0, 0)) ∧ Below w.heap.size w wi) (fun _ kk _ => l.length - (intOf kk).toNat)
    case atStart => exact ⟨0, by omega, rfl, by simp [noneS], kA, hb⟩
    case round =>
      obtain ⟨k, hk, rfl, rfl, kA2, hb2⟩ := hrel
      by_cases hlt : k < l.length
      · obtain ⟨z, hk'⟩ : ∃ z, l[k]? = some z := ⟨l[k], List.getElem?_eq_getElem hlt⟩
        have hsn := noneS_snoc (l.take k) y z
        rw [← ptake_snoc l k z hk'] at hsn
        obtain ⟨hzo, hzf⟩ := HK.out z (List.mem_of_getElem? hk')
        have N := ref10_Newer z y hzo HYOK.out.1 hzf HYOK.out.2
        generalize noneS (l.take k) y = nb at hsn ⊢
        generalize RankP.newer (spP z) (spP y) = nz at N hsn
        have HN := Lib.hid N
        have HSN := Lib.hid hsn
        have hi0 : (0 : Int) ≤ (k : Int) := by omega
        have hi1 : (k : Int) < (l.length : Int) := by omega
        clear N hsn hzo hzf
        cases nb with
        | true =>
          have zX := fun u : Later wr.heap.size wr => HR.out.at (hb2.trans (u.h.mono hb2.size)) hk'
          have yX := fun u : Later wr.heap.size wr => HR.out.at (hb2.trans (u.h.mono hb2.size)) HYI.out
          have z0 := fun u => (zX u).1
          have z1 := fun u => (zX u).2.1
          have z2 := fun u => (zX u).2.2.1
          have z3 := fun u => (zX u).2.2.2.1
          have z4 := fun u => (zX u).2.2.2.2.1
          have z5 := fun u => (zX u).2.2.2.2.2.1
          have z6 := fun u => (zX u).2.2.2.2.2.2.1
          have z7 := fun u => (zX u).2.2.2.2.2.2.2.1
          have z8 := fun u => (zX u).2.2.2.2.2.2.2.2
          have y0 := fun u => (yX u).1
          have y1 := fun u => (yX u).2.1
          have y2 := fun u => (yX u).2.2.1
          have y3 := fun u => (yX u).2.2.2.1
          have y4 := fun u => (yX u).2.2.2.2.1
          have y5 := fun u => (yX u).2.2.2.2.2.1
          have y6 := fun u => (yX u).2.2.2.2.2.2.1
          have y7 := fun u => (yX u).2.2.2.2.2.2.2.1
          have y8 := fun u => (yX u).2.2.2.2.2.2.2.2
          clear zX yX hk'
          go_wp2_with fail
          refine wp_region_later wr.heap.size (by kernel_rfl) (by kernel_rfl) ?_
          repeat (go_big_quiet_step (((go_at_call 21; exact later_of _ (Nat.le_refl _) (HN.out _)))))
          refine wpQuiet_nil ?_; intro _ hw'; obtain ⟨u, hw''⟩ := hw'; subst hw''
          go_wp2_with fail
          exact ⟨⟨k + 1, by omega, by go_num, by rw [HSN.out]; rfl, kept kA2 u.h, hb2.trans (u.h.mono hb2.size)⟩, by simp [intOf]; omega⟩
        | false =>
          clear hk'
          go_wp2_with fail
          refine wp_region_later wr.heap.size (by kernel_rfl) (by kernel_rfl) ?_
          repeat (go_big_quiet_step (fail))
          refine wpQuiet_nil ?_; intro _ hw'; obtain ⟨u, hw''⟩ := hw'; subst hw''
          go_wp2_with fail
          exact ⟨⟨k + 1, by omega, by go_num, by rw [HSN.out]; rfl, kept kA2 u.h, hb2.trans (u.h.mono hb2.size)⟩, by simp [intOf]; omega⟩
      · obtain rfl : k = l.length := by omega
        rw [List.take_length]
        by_cases hit : i = t
        · subst hit
          have hyx : y = x := by have h1 := HYI.out; rw [HT.out.1] at h1; exact (Option.some.inj h1).symm
          subst hyx
          rw [noneS_top HT.out]
          obtain ⟨c0, c1, c2, c3, c4, c5, c6, c7, c8⟩ := HR.out.at hb2 HYI.out
          go_wp2_with (go_at_call 59; (with_reducible refine (HKP.out _).mono ?_); rintro e w1 ⟨rfl, b1⟩; have kA1 := kept kA2 b1; have fA1 := box_cells kA1; have gA1 := box_free kA1)
          have bb : Below w.heap.size w w1 := below_step b1 hb2
          refine bodyPost_ret (v := .tuple #[.agg #[.int .i64 y.tr, .int .i64 y.id, .int .i64 y.pa, .int .i64 y.rv, .string y.sv, .string y.op, .int .i64 y.st, .int .i64 (clampS y.du 0 4611686018427387904), .bool y.gn], .bool true]) (by simp [results, Try.results19, go_sem, fA1]) rfl ⟨rfl, ?_⟩
          repeat (with_reducible refine below_own ?_ _ _)
          exact bb
        · rw [noneS_ahead HT.out (show i < t by omega) HYI.out]
          go_wp2_with fail
          exact ⟨⟨i + 1, by omega, by go_num, kA2, hb2⟩, by simp [intOf]; omega⟩
