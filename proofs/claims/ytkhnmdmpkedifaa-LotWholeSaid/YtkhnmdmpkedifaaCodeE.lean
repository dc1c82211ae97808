/- Walks of layer 9 (code): the bytes of a record, as the document has them. -/
import Derived.Test.YtkhnmdmpkedifaaCodeD
namespace Go.Proofs.Ytkhnmdmpkedifaa
open Go.ChangeShapes Go.WideShapes Go.ChangeAt Go.RowKit Go.Deep

theorem ptok_i (k n : Int) (hk : I64 k) (hn : I64 n) : PtOk ⟨k, n, []⟩ := ⟨hk, hn, by simp⟩
theorem spParts_ok (x : Sp) (hx : x.Ok) (hs : x.sv.size ≤ 300 ∧ x.op.size ≤ 300) : ∀ p ∈ spParts x, PtOk p := by
  obtain ⟨h1, h2, h3, h4, h5, h6, _, _⟩ := hx
  have hg : I64 (if x.gn then (1 : Int) else 0) := by unfold I64; split <;> omega
  have hz : ∀ k : Int, 0 ≤ k → k ≤ 9 → I64 k := fun k a b => by unfold I64; omega
  have hsv : x.sv.data.toList.length = x.sv.size := rfl
  have hop : x.op.data.toList.length = x.op.size := rfl
  intro p hp
  simp only [spParts, List.mem_cons, List.not_mem_nil, or_false] at hp
  rcases hp with rfl | rfl | rfl | rfl | rfl | rfl | rfl | rfl | rfl
  · exact ptok_i _ _ (hz _ (by omega) (by omega)) h1
  · exact ptok_i _ _ (hz _ (by omega) (by omega)) h2
  · exact ptok_i _ _ (hz _ (by omega) (by omega)) h3
  · exact ptok_i _ _ (hz _ (by omega) (by omega)) h4
  · exact ⟨hz 3 (by omega) (by omega), hz 0 (by omega) (by omega), by show x.sv.data.toList.length ≤ 300; omega⟩
  · exact ⟨hz 3 (by omega) (by omega), hz 0 (by omega) (by omega), by show x.op.data.toList.length ≤ 300; omega⟩
  · exact ptok_i _ _ (hz _ (by omega) (by omega)) h5
  · exact ptok_i _ _ (hz _ (by omega) (by omega)) h6
  · exact ptok_i _ _ (hz _ (by omega) (by omega)) hg
/-- a row of parts, in a block known whole -/
theorem RdP_row {w : World} {b B : Nat} {T : TypeId} {fr : Nat × Nat} (l : List PackP.Part) (hB : b < B)
    (h : w.heap[b]? = some (.cells (l.flatMap fun p => [.int .i64 p.kind, .int .i64 p.n, .string ⟨p.s.toArray⟩]).toArray T fr)) : RdP w B (some ⟨b, 0, none⟩) l := fun k p hk => by
  have hc : ∀ j, j < 3 → w.cell? ⟨b, k * 3 + j, none⟩ = [Value.int .i64 p.kind, .int .i64 p.n, .string ⟨p.s.toArray⟩][j]? := fun j hj => by
    rw [cell_of_row _ _ _ _ T _ h, List.getElem?_toArray]
    clear h
    induction l generalizing k with
    | nil => simp at hk
    | cons q l ih =>
      rw [List.flatMap_cons]
      cases k with
      | zero =>
        obtain rfl : q = p := by simpa using hk
        rw [List.getElem?_append_left (by simp; omega), Nat.zero_mul, Nat.zero_add]
      | succ k =>
        rw [List.getElem?_append_right (by simp; omega)]
        have := ih k (by simpa using hk)
        rw [← this]
        congr 1
        simp; omega
  have e : (⟨b, 0, none⟩ : Addr).add (k * 3) = ⟨b, k * 3, none⟩ := by unfold Addr.add; split <;> simp_all
  refine ⟨_, rfl, hB, ?_, ?_, ?_⟩
  · rw [e]; exact hc 0 (by omega)
  · rw [e]; exact hc 1 (by omega)
  · rw [e]; exact hc 2 (by omega)

set_option maxRecDepth 100000 in
set_option maxHeartbeats 2000000 in
theorem ref9_Bytes (x : Sp) (hx : x.Ok) (hs : x.sv.size ≤ 300 ∧ x.op.size ≤ 300) (w : World) :
    Calls Try.prog 48 #[.agg #[.int .i64 x.tr, .int .i64 x.id, .int .i64 x.pa, .int .i64 x.rv, .string x.sv, .string x.op, .int .i64 x.st, .int .i64 x.du, .bool x.gn]] w fun e w' => e = .returned (.string ⟨(CodeP.enc (spP x)).toArray⟩) ∧ Below w.heap.size w w' := by
  have HB := Lib.hid (fun (W : World) (b : Nat) (h : RdP W W.heap.size (some ⟨b, 0, none⟩) (spParts x)) => (show Calls Try.prog 83 #[.slice (some ⟨b, 0, none⟩) 9 9] W _ from ref5_Bytes (some ⟨b, 0, none⟩) 9 (spParts x) (by simp [spParts]) (spParts_ok x hx hs) W h))
  rw [spParts_bytes] at HB
  generalize CodeP.enc (spP x) = E at HB ⊢
  unfold spParts at HB
  obtain ⟨tr, id, pa, rv, sv, op, st, du, gn⟩ := x
  simp only at HB ⊢
  clear hx hs
  have HO := ref9_one gn
  generalize (if gn = true then (1 : Int) else 0) = g1 at HO HB
  have HO := Lib.hid HO
  go_enter Try.func48, Try.ntmps48
  go_wp2_with fail
  have hcell := fun (u : Later (w.heap.size + 1) (w.alloc (.cells #[.int .i64 tr, .int .i64 id, .int .i64 pa, .int .i64 rv, .string sv, .string op, .int .i64 st, .int .i64 du, .bool gn] 23))) j => later_row u j
  refine wp_region_later_tail (w.heap.size + 1) 28 (by kernel_rfl) (by kernel_rfl) ?_
  simp only [List.take_succ_cons, List.take_zero, List.drop_succ_cons, List.drop_zero]
  repeat (go_big_quiet_step ((go_at_call 84; exact later_of_same _ (HO.out _))))
  refine wpQuiet_nil ?_; intro _ hw'; obtain ⟨u, hw''⟩ := hw'; subst hw''
  have bu : Below w.heap.size w u.w := (below_alloc' _ (Below.refl _ _)).trans (u.h.mono (by omega))
  have HRW := Lib.hid (fun (W : World) (b : Nat) (h : W.heap[b]? = some (.cells #[.int .i64 1, .int .i64 tr, .string ⟨#[]⟩, .int .i64 1, .int .i64 id, .string ⟨#[]⟩, .int .i64 1, .int .i64 pa, .string ⟨#[]⟩, .int .i64 1, .int .i64 rv, .string ⟨#[]⟩, .int .i64 3, .int .i64 0, .string sv, .int .i64 3, .int .i64 0, .string op, .int .i64 2, .int .i64 st, .string ⟨#[]⟩, .int .i64 2, .int .i64 du, .string ⟨#[]⟩, .int .i64 4, .int .i64 g1, .string ⟨#[]⟩] 48 (0, 0))) => RdP_row [⟨1, tr, []⟩, ⟨1, id, []⟩, ⟨1, pa, []⟩, ⟨1, rv, []⟩, ⟨3, 0, sv.data.toList⟩, ⟨3, 0, op.data.toList⟩, ⟨2, st, []⟩, ⟨2, du, []⟩, ⟨4, g1, []⟩] (Array.getElem?_eq_some_iff.1 h).1 h)
  go_wp2_with (go_at_call 83; (with_reducible refine (HB.out _ _ (HRW.out _ _ (heap_alloc_new _ _))).mono ?_); rintro e w3 ⟨rfl, b3⟩)
  go_ret
  exact ⟨rfl, by (repeat (first | assumption | exact Below.refl _ _ | refine below_step (by assumption) ?_ | refine below_alloc' _ ?_ | refine below_drewN ?_ _ | refine Below.drew ?_))⟩

set_option maxRecDepth 100000 in
theorem ref9_Put (x : Sp) (hx : x.Ok) (hs : x.sv.size ≤ 300 ∧ x.op.size ≤ 300) (w : World) :
    Calls Try.prog 38 #[.agg #[.int .i64 x.tr, .int .i64 x.id, .int .i64 x.pa, .int .i64 x.rv, .string x.sv, .string x.op, .int .i64 x.st, .int .i64 x.du, .bool x.gn]] w fun e w' => e = .returned (.tuple #[.string ⟨(CodeP.putS (spP x)).1.toArray⟩, .int .i64 (CodeP.putS (spP x)).2]) ∧ Below w.heap.size w w' := by
  have HM := Lib.hid (ref9_May x hx)
  have HB := Lib.hid (ref9_Bytes x hx hs)
  unfold CodeP.putS
  unfold CodeP.may at HM
  clear hx hs
  by_cases hm : CodeP.mayB (spP x) = true
  · rw [if_pos hm] at HM ⊢
    clear hm
    generalize CodeP.enc (spP x) = E at HB ⊢
    go_enter Try.func38, Try.ntmps38
    go_wp2_with (first
      | (go_at_call 23; (with_reducible refine (HM.out _).mono ?_); rintro e w1 ⟨rfl, b1⟩; have f1 := later9 b1)
      | (go_at_call 48; with_reducible refine (HB.out _).mono ?_; rintro e w2 ⟨rfl, b2⟩))
    go_ret2
    exact ⟨rfl, by (repeat (first | assumption | exact Below.refl _ _ | refine below_step (by assumption) ?_ | refine below_alloc' _ ?_ | refine below_drewN ?_ _ | refine Below.drew ?_))⟩
  · rw [if_neg hm] at HM ⊢
    clear hm
    go_enter Try.func38, Try.ntmps38
    go_wp2_with (go_at_call 23; with_reducible refine (HM.out _).mono ?_; rintro e w1 ⟨rfl, b1⟩)
    go_ret2
    exact ⟨rfl, by (repeat (first | assumption | exact Below.refl _ _ | refine below_step (by assumption) ?_ | refine below_alloc' _ ?_ | refine below_drewN ?_ _ | refine Below.drew ?_))⟩
