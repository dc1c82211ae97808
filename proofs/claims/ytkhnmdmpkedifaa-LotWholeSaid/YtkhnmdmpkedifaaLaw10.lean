/- The statements of layer 10 (rank): what must come. -/
import Derived.Test.YtkhnmdmpkedifaaRankC
namespace Go.Proofs.Ytkhnmdmpkedifaa
open Go.ChangeShapes Go.WideShapes Go.ChangeAt Go.RowKit Go.Deep

def spCells (x : Sp) : List Value := [.int .i64 x.tr, .int .i64 x.id, .int .i64 x.pa, .int .i64 x.rv, .string x.sv, .string x.op, .int .i64 x.st, .int .i64 x.du, .bool x.gn]
/-- a row of records, in a block whose first cells they are -/
theorem RdS_cells {w : World} {b B : Nat} (l : List Sp) (hB : b < B) (h : ∀ j v, (l.flatMap spCells)[j]? = some v → w.cell? ⟨b, j, none⟩ = some v) : RdS w B (some ⟨b, 0, none⟩) l := fun k x hk => by
  have hc : ∀ j, j < 9 → (l.flatMap spCells)[k * 9 + j]? = (spCells x)[j]? := fun j hj => by
    clear h
    induction l generalizing k with
    | nil => simp at hk
    | cons q l ih =>
      rw [List.flatMap_cons]
      cases k with
      | zero =>
        obtain rfl : q = x := by simpa using hk
        rw [List.getElem?_append_left (by simp [spCells]; omega), Nat.zero_mul, Nat.zero_add]
      | succ k =>
        rw [List.getElem?_append_right (by simp [spCells]; omega)]
        have := ih k (by simpa using hk)
        rw [← this]
        congr 1
        simp [spCells]; omega
  have hd : ∀ j v, j < 9 → (spCells x)[j]? = some v → w.cell? ⟨b, k * 9 + j, none⟩ = some v := fun j v hj hv => h _ _ ((hc j hj).trans hv)
  have e : (⟨b, 0, none⟩ : Addr).add (k * 9) = ⟨b, k * 9, none⟩ := by unfold Addr.add; split <;> simp_all
  refine ⟨_, rfl, hB, ?_⟩
  rw [e]
  exact ⟨hd 0 _ (by omega) rfl, hd 1 _ (by omega) rfl, hd 2 _ (by omega) rfl, hd 3 _ (by omega) rfl, hd 4 _ (by omega) rfl, hd 5 _ (by omega) rfl, hd 6 _ (by omega) rfl, hd 7 _ (by omega) rfl, hd 8 _ (by omega) rfl⟩
theorem RdS_row {w : World} {b : Nat} {T : TypeId} {fr : Nat × Nat} (l : List Sp) (h : w.heap[b]? = some (.cells (l.flatMap spCells).toArray T fr)) : RdS w w.heap.size (some ⟨b, 0, none⟩) l :=
  RdS_cells l (box_lt h) (fun j v hj => by rw [cell_of_row _ _ _ _ T _ h, List.getElem?_toArray]; exact hj)

def ofS (rev dur : Int) : Sp := ⟨1, 1, 0, rev, ⟨#[115]⟩, ⟨#[111]⟩, 0, dur, false⟩
theorem ofS_Ok (r d : Int) (hr : I64 r) (hd : I64 d) : (ofS r d).Ok := ⟨by unfold I64; simp [ofS], by unfold I64; simp [ofS], by unfold I64; simp [ofS], hr, by unfold I64; simp [ofS], hd, by show 1 ≤ maxLen; decide, by show 1 ≤ maxLen; decide⟩
theorem ofS_few (r d : Int) : (ofS r d).few := ⟨by show 1 ≤ 100; omega, by show 1 ≤ 100; omega⟩
theorem law10_of (r d : Int) (w : World) :
    Calls Try.prog 57 #[.int .i64 r, .int .i64 d] w fun e w' => e = .returned (.agg #[.int .i64 1, .int .i64 1, .int .i64 0, .int .i64 r, .string ⟨#[115]⟩, .string ⟨#[111]⟩, .int .i64 0, .int .i64 d, .bool false]) ∧ Below w.heap.size w w' := by
  go_enter Try.func57, Try.ntmps57
  go_wp2_with fail
  refine bodyPost_ret (v := .agg #[.int .i64 1, .int .i64 1, .int .i64 0, .int .i64 r, .string ⟨#[115]⟩, .string ⟨#[111]⟩, .int .i64 0, .int .i64 d, .bool false]) (by simp [results, Try.results57, go_sem]) rfl ⟨rfl, by (repeat (first | assumption | exact Below.refl _ _ | refine below_step (by assumption) ?_ | refine below_alloc' _ ?_ | refine below_drewN ?_ _ | refine Below.drew ?_))⟩
theorem law10_best (W : World) (b : Nat) (h : W.heap[b]? = some (.cells #[.int .i64 1, .int .i64 1, .int .i64 0, .int .i64 1, .string ⟨#[115]⟩, .string ⟨#[111]⟩, .int .i64 0, .int .i64 9, .bool false, .int .i64 1, .int .i64 1, .int .i64 0, .int .i64 2, .string ⟨#[115]⟩, .string ⟨#[111]⟩, .int .i64 0, .int .i64 3, .bool false, .int .i64 1, .int .i64 1, .int .i64 0, .int .i64 2, .string ⟨#[115]⟩, .string ⟨#[111]⟩, .int .i64 0, .int .i64 4, .bool false, .int .i64 1, .int .i64 1, .int .i64 0, .int .i64 0, .string ⟨#[115]⟩, .string ⟨#[111]⟩, .int .i64 0, .int .i64 9, .bool false] 23 (0, 0))) :
    Calls Try.prog 18 #[.slice (some ⟨b, 0, none⟩) 4 4] W fun e w' => e = .returned (.tuple #[.agg #[.int .i64 1, .int .i64 1, .int .i64 0, .int .i64 2, .string ⟨#[115]⟩, .string ⟨#[111]⟩, .int .i64 0, .int .i64 4, .bool false], .bool true]) ∧ Below W.heap.size W w' := by
  have hd : ∀ n : Int, 0 ≤ n → n ≤ 9 → I64 n := fun n a b => by unfold I64; omega
  have hB := rank_Best ⟨b, 0, none⟩ 4 (ofS 1 9) [ofS 2 3, ofS 2 4, ofS 0 9] (fun x hx => by
    simp only [List.mem_cons, List.not_mem_nil, or_false] at hx
    rcases hx with rfl | rfl | rfl | rfl <;> exact ⟨ofS_Ok _ _ (hd _ (by decide) (by decide)) (hd _ (by decide) (by decide)), ofS_few _ _⟩) (by decide) (by decide) W (RdS_row [ofS 1 9, ofS 2 3, ofS 2 4, ofS 0 9] (T := 23) (fr := (0, 0)) h)
  have n1 : RankP.newer (spP (ofS 2 3)) (spP (ofS 1 9)) = true := by decide +kernel
  have n2 : RankP.newer (spP (ofS 2 4)) (spP (ofS 2 3)) = true := by decide +kernel
  have n3 : RankP.newer (spP (ofS 0 9)) (spP (ofS 2 4)) = false := by decide +kernel
  have hb : bestS (ofS 1 9) [ofS 2 3, ofS 2 4, ofS 0 9] = ofS 2 4 := by
    unfold bestS
    simp only [List.foldl_cons, List.foldl_nil, n1, n2, n3, if_true, if_false, Bool.false_eq_true]
  rw [hb] at hB
  exact hB
set_option maxRecDepth 100000 in
set_option maxHeartbeats 2000000 in
theorem law10_awake (w : World) : Calls Try.prog 17 #[] w fun e w' => e = .returned (.bool true) ∧ Below w.heap.size w w' := by
  have hd : ∀ n : Int, -9 ≤ n → n ≤ 9 → I64 n := fun n a b => by unfold I64; omega
  have k : ∀ r d : Int, -9 ≤ r → r ≤ 9 → -9 ≤ d → d ≤ 9 → (ofS r d).Ok := fun r d a b c e => ofS_Ok _ _ (hd r a b) (hd d c e)
  have N1 := rank_Newer (ofS 2 0) (ofS 1 0) (k _ _ (by decide) (by decide) (by decide) (by decide)) (k _ _ (by decide) (by decide) (by decide) (by decide)) (ofS_few _ _) (ofS_few _ _)
  have N2 := rank_Newer (ofS 1 0) (ofS 1 0) (k _ _ (by decide) (by decide) (by decide) (by decide)) (k _ _ (by decide) (by decide) (by decide) (by decide)) (ofS_few _ _) (ofS_few _ _)
  rw [show RankP.newer (spP (ofS 2 0)) (spP (ofS 1 0)) = true by decide +kernel] at N1
  rw [show RankP.newer (spP (ofS 1 0)) (spP (ofS 1 0)) = false by decide +kernel] at N2
  have S1 := rank_Same (ofS 1 (-5)) (ofS 1 0)
  have S2 := rank_Same (ofS 1 1) (ofS 1 0)
  rw [show spEq (ofS 1 (-5)).kept (ofS 1 0).kept = true by decide +kernel] at S1
  rw [show spEq (ofS 1 1).kept (ofS 1 0).kept = false by decide +kernel] at S2
  simp only [ofS] at N1 N2 S1 S2
  have HN1 := Lib.hid N1
  have HN2 := Lib.hid N2
  have HS1 := Lib.hid S1
  have HS2 := Lib.hid S2
  have HO := Lib.hid law10_of
  have HBE := Lib.hid law10_best
  clear N1 N2 S1 S2 hd k
  go_enter Try.func17, Try.ntmps17
  go_wp2_with (first
    | (go_at_call 57; (with_reducible refine (HO.out 1 9 _).mono ?_); rintro e w1 ⟨rfl, b1⟩)
    | (go_at_call 57; (with_reducible refine (HO.out 2 3 _).mono ?_); rintro e w2 ⟨rfl, b2⟩)
    | (go_at_call 57; (with_reducible refine (HO.out 2 4 _).mono ?_); rintro e w3 ⟨rfl, b3⟩)
    | (go_at_call 57; (with_reducible refine (HO.out 0 9 _).mono ?_); rintro e w4 ⟨rfl, b4⟩)
    | (go_at_call 18; (with_reducible refine (HBE.out _ _ (heap_alloc_new _ _)).mono ?_); rintro e w5 ⟨rfl, b5⟩)
    | (go_at_call 18; (with_reducible refine (rank_Best_nil _ _ _).mono ?_); rintro e w6 ⟨rfl, b6⟩))
  have hz1 := b1.size
  have hz2 := b2.size
  have hz3 := b3.size
  have hz4 := b4.size
  have hz5 := b5.size
  have hz6 := b6.size
  rw [World.size_alloc] at hz5 hz6
  have kB : (w6.alloc (.cells #[.int .i64 0, .int .i64 0, .int .i64 0, .int .i64 0, .string ⟨#[]⟩, .string ⟨#[]⟩, .int .i64 0, .int .i64 0, .bool false] 23)).heap[w5.heap.size]? = some (.cells #[.int .i64 1, .int .i64 1, .int .i64 0, .int .i64 2, .string ⟨#[115]⟩, .string ⟨#[111]⟩, .int .i64 0, .int .i64 4, .bool false] 23 (0, 0)) := kept_alloc (kept (heap_alloc_new w5 _) b6) _
  have hcell := fun u => later_at kB (B := w6.heap.size + 1) (by omega) u
  clear kB
  refine wp_region_later (w6.heap.size + 1) (by kernel_rfl) (by kernel_rfl) ?_
  repeat (go_big_quiet_step ((first
    | (go_at_call 57; exact later_of _ (by simp) (HO.out _ _ _))
    | (go_at_call 20; exact later_of _ (by simp) (HN1.out _))
    | (go_at_call 20; exact later_of _ (by simp) (HN2.out _))
    | (go_at_call 22; exact later_of _ (by simp) (HS1.out _))
    | (go_at_call 22; exact later_of _ (by simp) (HS2.out _)))))
  refine wpQuiet_nil ?_; intro _ hw'; obtain ⟨u, hw''⟩ := hw'; subst hw''
  go_wp2_with fail
  go_ret
  refine ⟨rfl, below_later9 ?_ u⟩
  (repeat (first | assumption | exact Below.refl _ _ | refine below_step (by assumption) ?_ | refine below_alloc' _ ?_ | refine below_drewN ?_ _ | refine Below.drew ?_))
