/- The statements of layer 10 (rank): the walk of RankBest. -/
import Derived.Test.YtkhnmdmpkedifaaRankE
import Derived.IntWalk
import Derived.Deep.DeepCutAuto
namespace Go.Proofs.Ytkhnmdmpkedifaa
open Go.ChangeShapes Go.WideShapes Go.ChangeAt Go.RowKit Go.Deep

theorem drew_heap {w : World} {b : Nat} {o : Obj} (h : w.heap[b]? = some o) : w.drew.heap[b]? = some o := h
theorem box_own {w W : World} {A : Nat} {o : Obj} {o2 : Obj} (h : w.heap[A]? = some o) (hg : (w.drew.alloc o2).grownBy W (Value.slice (some ⟨w.heap.size, 0, none⟩) 1 1).ownBlock) : W.heap[A]? = some o :=
  (hg.block A (by have := box_lt h; rw [World.size_alloc]; show A < w.heap.size + 1; omega) (fun e => by have := Option.some.inj e; have := box_lt h; simp at *; omega)).trans (kept_alloc (w := w.drew) h o2)
/-- the newest of what was put together first and of the others, by the code -/
theorem best_rest {l : List Sp} {n : Nat} {r1 r3 k3 : Sp} (T1 : TopL l r1) (T3 : TopL (l.take n) r3) (hk : r3.kept = k3) (hok : ∀ x ∈ l, x.Ok ∧ x.sv.size ≤ 100 ∧ x.op.size ≤ 100) (hmay : ∀ x ∈ l, CodeP.may (spP x) = 0) (g cap m : Nat) (hm : (k3 :: l.drop n).length = m) (hc : m ≤ cap) (hcm : cap ≤ maxLen) (W : World) (h : RdS W W.heap.size (some ⟨g, 0, none⟩) (k3 :: l.drop n)) :
    Calls Try.prog 18 #[.slice (some ⟨g, 0, none⟩) m cap] W fun e W' => e = .returned (.tuple #[.agg #[.int .i64 r1.kept.tr, .int .i64 r1.kept.id, .int .i64 r1.kept.pa, .int .i64 r1.kept.rv, .string r1.kept.sv, .string r1.kept.op, .int .i64 r1.kept.st, .int .i64 r1.kept.du, .bool r1.kept.gn], .bool true]) ∧ Below W.heap.size W W' := by
  have hr3 : r3 ∈ l := List.mem_of_mem_take T3.1
  obtain ⟨r4, T4, C4⟩ := rank_Best_top (some ⟨g, 0, none⟩) cap (k3 :: l.drop n) (by simp) (fun x hx => by
    rcases List.mem_cons.1 hx with e | e
    · rw [e, ← hk]; exact ⟨Sp.kept_Ok _ (hok _ hr3).1, (hok _ hr3).2⟩
    · exact hok x (List.mem_of_mem_drop e)) (by omega) hcm ⟨_, rfl⟩
  have e4 := top_cut T1 T3 hk T4 (fun x hx => (hok x hx).1) hmay
  rw [hm] at C4
  rw [← e4]
  exact C4 W h
theorem RdS.take {w : World} {B : Nat} {A : Option Addr} {l : List Sp} (h : RdS w B A l) (n : Nat) : RdS w B A (l.take n) := fun k x hk => by
  rw [List.getElem?_take] at hk
  split at hk
  · exact h k x hk
  · cases hk
set_option maxRecDepth 100000 in
set_option maxHeartbeats 2000000 in
theorem law10_RankBest_wide (A : Option Addr) (c : Nat) (l : List Sp) (cut : Int) (hok : ∀ x ∈ l, x.Ok) (hm : l.length ≤ maxLen) (h : ¬ (fewS 12 l ∧ l ≠ [])) (w : World) (hr : RdS w w.heap.size A l) :
    Calls Try.prog 5 #[.slice A l.length c, .int .u8 cut] w fun e w' => e = .returned (.bool true) ∧ Below w.heap.size w w' := by
  have HR := Lib.hid (fun W (h : Below w.heap.size w W) => hr.later h)
  have HR0 := Lib.hid hr
  by_cases hf : fewS 12 l
  · obtain rfl : l = [] := Classical.byContradiction fun h1 => h ⟨hf, h1⟩
    have HF := Lib.hid (fun W k => (show Calls Try.prog 16 #[.slice A 0 c, .int .i64 12] W _ from ref9_Few_yes A c [] 12 (by omega) hf W k))
    clear hf h hr hok
    simp only [List.length_nil] at *
    go_enter Try.func5, Try.ntmps5
    go_wp2_with (first
      | (go_at_call 16; (with_reducible refine (HF.out _ HR0.out).mono ?_); rintro e w3 ⟨rfl, b3⟩)
      | (go_at_call 17; (with_reducible refine (law10_awake _).mono ?_); rintro e w9 ⟨rfl, b9⟩))
    go_ret
    exact ⟨rfl, by (repeat (first | assumption | exact Below.refl _ _ | refine below_step (by assumption) ?_ | refine below_alloc' _ ?_ | refine below_drewN ?_ _ | refine Below.drew ?_))⟩
  · have HF := Lib.hid (fun W k => (show Calls Try.prog 16 #[.slice A l.length c, .int .i64 12] W _ from ref9_Few_no A c l hm hok 12 (by omega) hf W k))
    clear hf h hr hok
    go_enter Try.func5, Try.ntmps5
    go_wp2_with (first
      | (go_at_call 16; (with_reducible refine (HF.out _ HR0.out).mono ?_); rintro e w3 ⟨rfl, b3⟩)
      | (go_at_call 17; (with_reducible refine (law10_awake _).mono ?_); rintro e w9 ⟨rfl, b9⟩))
    go_ret
    exact ⟨rfl, by (repeat (first | assumption | exact Below.refl _ _ | refine below_step (by assumption) ?_ | refine below_alloc' _ ?_ | refine below_drewN ?_ _ | refine Below.drew ?_))⟩

set_option maxRecDepth 100000 in
set_option maxHeartbeats 8000000 in
theorem law10_RankBest_few (ad : Addr) (c : Nat) (b : Sp) (l' l : List Sp) (hl : l = b :: l') (cut : Nat) (hcut : cut < 256) (hok : ∀ x ∈ l, x.Ok) (hf : fewS 12 l) (hlc : l.length ≤ c) (hcm : c ≤ maxLen) (w : World) (hr : RdS w w.heap.size (some ad) l) :
    Calls Try.prog 5 #[.slice (some ad) l.length c, .int .u8 (cut : Int)] w fun e w' => e = .returned (.bool true) ∧ Below w.heap.size w w' := by
  obtain ⟨i0, hi, hz0, hz1, hz2⟩ := info_parts' info_span
  have HI := Lib.hid (And.intro hi (And.intro hz0 (And.intro hz1 hz2)))
  clear hi hz0 hz1 hz2
  have HR := Lib.hid (fun W (h : Below w.heap.size w W) => hr.later h)
  have HRA := Lib.hid (fun (W : World) (h : Below w.heap.size w W) (k : Nat) (x : Sp) (hk : l[k]? = some x) => hr.at h hk)
  have HF := Lib.hid (fun W k => (show Calls Try.prog 16 #[.slice (some ad) l.length c, .int .i64 12] W _ from ref9_Few_yes (some ad) c l 12 (by omega) hf W k))
  have HK := Lib.hid (fun x (h : x ∈ l) => And.intro (hok x h) (hf.2 x h))
  have h12 := hf.1
  have hl0 : l[0]? = some b := by rw [hl]; rfl
  have hne : 1 ≤ l.length := by rw [hl]; simp
  have hlz : ((l.length : Int) == 0) = false := by rw [beq_eq_false_iff_ne]; omega
  have HL0 := Lib.hid hl0
  have HHL := Lib.hid hl
  unfold maxLen at hcm
  clear hr hok hf hl0 hl
  have HR0 := Lib.hid (HR.out w (Below.refl _ _))
  go_enter Try.func5, Try.ntmps5
  go_wp2_with (go_at_call 16; (with_reducible refine (HF.out _ HR0.out).mono ?_); rintro e w1 ⟨rfl, b1⟩)
  have B1 := b1
  go_loopw [5, 6] (fun v i wr => ∃ m : Nat, m ≤ l.length ∧ i = .int .i64 ((l.length : Int) - 1 - m) ∧ wr.ownsRow w.heap.size 23 9 v (2 * m) ((bk l b m).flatMap spCells) ∧ Below w.heap.size w wr ∧ ∀ j x, l.length ≤ j + m → l[j]? = some x → CodeP.may (spP x) = 0) (fun _ i _ => (intOf i + 1).toNat)
  case atStart => exact ⟨0, by omega, congrArg (Value.int .i64) (by omega), World.ownsRow_nil _ _ _ _, B1, fun j x hj hx => by have := (List.getElem?_eq_some_iff.1 hx).1; omega⟩
  case round =>
    obtain ⟨m, hm, rfl, hown, hb, hmay⟩ := hrel
    have HO := Lib.hid hown
    have HMAY := Lib.hid hmay
    clear hown hmay
    by_cases hlt : m < l.length
    · obtain ⟨j, hj⟩ : ∃ j : Nat, (l.length : Int) - 1 - m = j := ⟨l.length - 1 - m, by omega⟩
      rw [hj]
      have HJ := Lib.hid hj
      have hjl : j < l.length := by omega
      obtain ⟨x, hx⟩ : ∃ x, l[j]? = some x := ⟨l[j], List.getElem?_eq_getElem hjl⟩
      have HX := Lib.hid hx
      have HBK := Lib.hid (bk_succ l b m j x hx hlt hj)
      obtain ⟨c0, c1, c2, c3, c4, c5, c6, c7, c8⟩ := HRA.out _ hb j x hx
      have hxo := HK.out x (List.mem_of_getElem? hx)
      have M := ref9_May x hxo.1
      have hji : (0 : Int) ≤ (j : Int) := by omega
      have hji2 : (j : Int) < (l.length : Int) := by omega
      have h01 := may_01 (spP x)
      clear hj hx hxo
      obtain ⟨mx, hmx⟩ : ∃ mx, CodeP.may (spP x) = mx := ⟨_, rfl⟩
      rw [hmx] at M h01
      have HMX := Lib.hid hmx
      have HM := Lib.hid M
      clear hmx M
      have HO1 := Lib.hid (fun (W : World) (h : Below wr.heap.size wr W) => own_below HO.out h)
      have hz0 := hb.size
      rcases h01 with rfl | rfl
      · go_wp2_with (first
          | (go_at_call 23; (with_reducible refine (HM.out _).mono ?_); rintro e w2 ⟨rfl, b2⟩; have hz2 := b2.size; have B2 := below_step b2 hb; obtain ⟨d0, d1, d2, d3, d4, d5, d6, d7, d8⟩ := HRA.out _ B2 j x HX.out)
          | (at_builtin; refine wpList_append_one rfl _ _ _ (by rfl) w.heap.size 23 i0 _ 9 88 Try.underlying24 HI.out.1 HI.out.2.1 HI.out.2.2.1 HI.out.2.2.2 rfl (by decide) (by decide) _ _ _ (by rfl) w2 (HO1.out w2 b2) _ (w2.heap.size) rfl (by rfl) (by rfl) (by simp [Value.oneCell']) (by omega) (by omega) ?_; intro g cap w3 hA; have B3 := hA.below _ B2; have hz3 := B3.size; obtain ⟨e0, e1, e2, e3, e4, e5, e6, e7, e8⟩ := HRA.out _ B3 0 b HL0.out; simp only [Nat.zero_mul, addr_add0] at e0 e1 e2 e3 e4 e5 e6 e7 e8)
          | (at_builtin; go_must (refine wpList_append_one rfl _ _ _ (by rfl) w.heap.size 23 i0 _ 9 88 Try.underlying24 HI.out.1 HI.out.2.1 HI.out.2.2.1 HI.out.2.2.2 rfl (by decide) (by decide) _ _ _ (by rfl) w3 hA.own _ (w3.heap.size) rfl (by rfl) (by rfl) (by simp [Value.oneCell']) (by omega) (by omega) ?_; intro g2 cap2 w4 hA2)))
        refine ⟨⟨m + 1, by omega, congrArg (Value.int .i64) (by have := HJ.out; omega), ?_, hA2.below _ B3, fun q y hq hy => ?_⟩, by simp [intOf]⟩
        · have h := hA2.own
          rw [List.append_assoc] at h
          rw [HBK.out, List.flatMap_append, show 2 * (m + 1) = 2 * m + 1 + 1 by omega]
          simpa [spCells] using h
        · rcases Nat.lt_or_ge (q + m) l.length with h1 | h1
          · obtain rfl : q = j := by have := HJ.out; omega
            obtain rfl : x = y := by have := HX.out; rw [hy] at this; exact (Option.some.inj this).symm
            exact HMX.out
          · exact HMAY.out q y h1 hy
      · go_wp2_with (first
          | (go_at_call 23; (with_reducible refine (HM.out _).mono ?_); rintro e w2 ⟨rfl, b2⟩)
          | (go_at_call 17; (with_reducible refine (law10_awake _).mono ?_); rintro e w9 ⟨rfl, b9⟩))
        go_ret
        exact ⟨rfl, by (repeat (first | assumption | exact Below.refl _ _ | refine below_step (by assumption) ?_ | refine below_alloc' _ ?_ | refine below_drewN ?_ _ | refine Below.drew ?_))⟩
    · obtain rfl : m = l.length := by omega
      have hmall : ∀ x ∈ l, CodeP.may (spP x) = 0 := fun x hx => by
        obtain ⟨q, hq, rfl⟩ := List.getElem_of_mem hx
        exact HMAY.out q _ (by omega) (List.getElem?_eq_getElem hq)
      have HALL := Lib.hid hmall
      obtain ⟨g, cap, cur, rfl, hgb, hgh, hgn, hgc, hgs, hgt⟩ : ∃ g cap cur, u5 = .slice (some ⟨g, 0, none⟩) (2 * l.length) cap ∧ w.heap.size ≤ g ∧ wr.heap[g]? = some (.cells cur 23 (0, 0)) ∧ 2 * l.length ≤ cap ∧ cap ≤ maxLen ∧ cur.size = cap * 9 ∧ cur.toList.take (2 * l.length * 9) = (bk l b l.length).flatMap spCells := by
        rcases HO.out.2 with ⟨_, h0⟩ | h1
        · omega
        · exact h1
      have hbl := bk_len l b l.length (Nat.le_refl _)
      have hbm : b ∈ l := List.mem_of_getElem? HL0.out
      have hlne : l ≠ [] := fun e => by rw [e] at hne; simp at hne
      obtain ⟨r1, T1, C1⟩ := rank_Best_top (some ad) c l hlne (fun x hx => HK.out x hx) hlc (by unfold maxLen; omega) ⟨_, rfl⟩
      obtain ⟨r2, T2, C2⟩ := rank_Best_top (some ⟨g, 0, none⟩) cap (bk l b l.length) (fun e => by rw [e] at hbl; simp at hbl; omega) (fun x hx => HK.out x ((bk_mem l b x hbm).1 hx)) (by omega) hgc ⟨_, rfl⟩
      obtain ⟨cc, hcc⟩ : ∃ cc, cut % l.length = cc := ⟨_, rfl⟩
      have hccl : cc < l.length := by rw [← hcc]; exact Nat.mod_lt _ (by omega)
      have hmod : (cut : Int) % (l.length : Int) = (cc : Int) := by rw [← hcc]; rfl
      have htl : (l.take (cc + 1)).length = cc + 1 := by rw [List.length_take]; omega
      obtain ⟨r3, T3, C3⟩ := rank_Best_top (some ad) c (l.take (cc + 1)) (fun e => by rw [e] at htl; simp at htl) (fun x hx => HK.out x (List.mem_of_mem_take hx)) (by omega) (by unfold maxLen; omega) ⟨_, rfl⟩
      rw [hbl] at C2
      rw [htl] at C3
      have e12 : r1.kept = r2.kept := kept_same (HK.out _ T1.1).1 (HK.out _ ((bk_mem l b r2 hbm).1 T2.1)).1 (HALL.out _ T1.1) (HALL.out _ ((bk_mem l b r2 hbm).1 T2.1))
        (top_ord T1 T2 (fun x hx => ⟨x, (bk_mem l b x hbm).2 hx, RankP.ord_self _⟩) (fun x hx => ⟨x, (bk_mem l b x hbm).1 hx, RankP.ord_self _⟩))
      have C2' : ∀ W, RdS W W.heap.size (some ⟨g, 0, none⟩) (bk l b l.length) → Calls Try.prog 18 #[.slice (some ⟨g, 0, none⟩) (2 * l.length) cap] W fun e W' => e = .returned (.tuple #[.agg #[.int .i64 r1.kept.tr, .int .i64 r1.kept.id, .int .i64 r1.kept.pa, .int .i64 r1.kept.rv, .string r1.kept.sv, .string r1.kept.op, .int .i64 r1.kept.st, .int .i64 r1.kept.du, .bool r1.kept.gn], .bool true]) ∧ Below W.heap.size W W' := by
        intro W h
        rw [e12]
        exact C2 W h
      have C1' : ∀ W, RdS W W.heap.size (some ad) l → Calls Try.prog 18 #[.slice (some ad) l.length c] W fun e W' => e = .returned (.tuple #[.agg #[.int .i64 r1.kept.tr, .int .i64 r1.kept.id, .int .i64 r1.kept.pa, .int .i64 r1.kept.rv, .string r1.kept.sv, .string r1.kept.op, .int .i64 r1.kept.st, .int .i64 r1.kept.du, .bool r1.kept.gn], .bool true]) ∧ Below W.heap.size W W' := C1
      have C3' : ∀ W, RdS W W.heap.size (some ad) (l.take (cc + 1)) → Calls Try.prog 18 #[.slice (some ad) (cc + 1) c] W fun e W' => e = .returned (.tuple #[.agg #[.int .i64 r3.kept.tr, .int .i64 r3.kept.id, .int .i64 r3.kept.pa, .int .i64 r3.kept.rv, .string r3.kept.sv, .string r3.kept.op, .int .i64 r3.kept.st, .int .i64 r3.kept.du, .bool r3.kept.gn], .bool true]) ∧ Below W.heap.size W W' := C3
      obtain ⟨k1, hk1⟩ : ∃ k1, r1.kept = k1 := ⟨_, rfl⟩
      obtain ⟨k3, hk3⟩ : ∃ k3, r3.kept = k3 := ⟨_, rfl⟩
      rw [hk1] at C1' C2'
      rw [hk3] at C3'
      have HC4 := Lib.hid (fun (g4 cap4 : Nat) (h4 : 1 + (l.length - (cc + 1)) ≤ cap4) (hm4 : cap4 ≤ maxLen) (W : World) (h : RdS W W.heap.size (some ⟨g4, 0, none⟩) (r3.kept :: l.drop (cc + 1))) =>
        best_rest (l := l) (n := cc + 1) T1 T3 rfl (fun x hx => HK.out x hx) (fun x hx => HALL.out x hx) g4 cap4 (1 + (l.length - (cc + 1))) (by simp; omega) h4 hm4 W h)
      rw [hk1, hk3] at HC4
      have HC1 := Lib.hid C1'
      have HC2 := Lib.hid C2'
      have HC3 := Lib.hid C3'
      have HT1 := Lib.hid T1
      have HT3 := Lib.hid T3
      have HK1 := Lib.hid hk1
      have HK3 := Lib.hid hk3
      have HRT := Lib.hid (fun (W : World) (h : RdS W W.heap.size (some ad) l) => h.take (cc + 1))
      have HRO := Lib.hid (fun (W : World) (h : Below wr.heap.size wr W) => RdS_own (own_below HO.out h))
      have hcc0 : (0 : Int) ≤ (cc : Int) := by omega
      have hcc1 : (cc : Int) + 1 ≤ (c : Int) := by omega
      have hcc2 : (cc : Int) + 1 ≤ (l.length : Int) := by omega
      clear C1 C2 C3 C1' C2' C3' T1 T2 T3 hk1 hk3 e12 hcc htl hbl hgt hgs hgh hmall hbm hlne
      go_wp2_with (first
        | (go_at_call 18; (with_reducible refine (HC1.out _ (HR.out _ hb)).mono ?_); rintro e w2 ⟨rfl, b2⟩; have V2 := b2.alloc b2.size (.cells #[.int .i64 k1.tr, .int .i64 k1.id, .int .i64 k1.pa, .int .i64 k1.rv, .string k1.sv, .string k1.op, .int .i64 k1.st, .int .i64 k1.du, .bool k1.gn] 23))
        | (go_at_call 18; (with_reducible refine (HC2.out _ (HRO.out _ V2)).mono ?_); rintro e w3 ⟨rfl, b3⟩; have V3 := below_step b3 V2; have V3 := V3.alloc V3.size (.cells #[.int .i64 k1.tr, .int .i64 k1.id, .int .i64 k1.pa, .int .i64 k1.rv, .string k1.sv, .string k1.op, .int .i64 k1.st, .int .i64 k1.du, .bool k1.gn] 23))
        | (go_at_call 18; (with_reducible refine (HC3.out _ (HRT.out _ (HR.out _ (hb.trans (V3.mono hb.size))))).mono ?_); rintro e w4 ⟨rfl, b4⟩))
      have hz4 := b4.size
      have hz3 := V3.size
      have V4 := below_step b4 V3
      have k8 := kept_alloc (kept (kept_alloc (kept (heap_alloc_new w2 (.cells #[.int .i64 k1.tr, .int .i64 k1.id, .int .i64 k1.pa, .int .i64 k1.rv, .string k1.sv, .string k1.op, .int .i64 k1.st, .int .i64 k1.du, .bool k1.gn] 23)) b3) (.cells #[.int .i64 k1.tr, .int .i64 k1.id, .int .i64 k1.pa, .int .i64 k1.rv, .string k1.sv, .string k1.op, .int .i64 k1.st, .int .i64 k1.du, .bool k1.gn] 23)) b4) (.cells #[.int .i64 k3.tr, .int .i64 k3.id, .int .i64 k3.pa, .int .i64 k3.rv, .string k3.sv, .string k3.op, .int .i64 k3.st, .int .i64 k3.du, .bool k3.gn] 23)
      have k10 := kept_alloc (kept (heap_alloc_new w3 (.cells #[.int .i64 k1.tr, .int .i64 k1.id, .int .i64 k1.pa, .int .i64 k1.rv, .string k1.sv, .string k1.op, .int .i64 k1.st, .int .i64 k1.du, .bool k1.gn] 23)) b4) (.cells #[.int .i64 k3.tr, .int .i64 k3.id, .int .i64 k3.pa, .int .i64 k3.rv, .string k3.sv, .string k3.op, .int .i64 k3.st, .int .i64 k3.du, .bool k3.gn] 23)
      have k12 := heap_alloc_new w4 (.cells #[.int .i64 k3.tr, .int .i64 k3.id, .int .i64 k3.pa, .int .i64 k3.rv, .string k3.sv, .string k3.op, .int .i64 k3.st, .int .i64 k3.du, .bool k3.gn] 23)
      have V5 := V4.alloc V4.size (.cells #[.int .i64 k3.tr, .int .i64 k3.id, .int .i64 k3.pa, .int .i64 k3.rv, .string k3.sv, .string k3.op, .int .i64 k3.st, .int .i64 k3.du, .bool k3.gn] 23)
      have BW := hb.trans (V5.mono hb.size)
      have HK8 := Lib.hid k8
      have HK10 := Lib.hid k10
      have HK12 := Lib.hid k12
      have HV5 := Lib.hid V5
      have HBW := Lib.hid BW
      have S12 := box_cells k12
      generalize hW5 : w4.alloc (.cells #[.int .i64 k3.tr, .int .i64 k3.id, .int .i64 k3.pa, .int .i64 k3.rv, .string k3.sv, .string k3.op, .int .i64 k3.st, .int .i64 k3.du, .bool k3.gn] 23) = W5 at HK8 HK10 HK12 HV5 HBW S12 ⊢
      have HW5 := Lib.hid hW5
      clear hW5 k8 k10 k12 V5 BW V2 V3 V4 b2 b3 b4
      have hWle : w.heap.size ≤ W5.heap.size := HBW.out.size
      have hSB := fun (X : World) (h : Below W5.heap.size W5 X) => box_cells ((h.block w4.heap.size (box_lt HK12.out)).trans HK12.out)
      have HSB := Lib.hid hSB
      clear hSB S12
      have w1 : IntKind.i64.wrap ((cc : Int) + 1) = (cc : Int) + 1 := IntWalk.i64_in _ (by omega)
      have w2' : (0 : Int) ≤ (cc : Int) + 1 := by omega
      have w3' : ((cc : Int) + 1).toNat = cc + 1 := by omega
      go_cut [14, 15] (fun s14 s15 wx => ∃ g : Nat, s14 = .pointer (some ⟨g, 0, none⟩) ∧ s15 = .bool true ∧ wx.heap[g]? = some (.cells #[.int .i64 k1.tr, .int .i64 k1.id, .int .i64 k1.pa, .int .i64 k1.rv, .string k1.sv, .string k1.op, .int .i64 k1.st, .int .i64 k1.du, .bool k1.gn] 23 (0, 0)) ∧ Below W5.heap.size W5 wx)
      case first =>
       by_cases hcq : c = cc + 1
       · subst hcq
         have hll : l.length = cc + 1 := by omega
         have e1 : 1 + (l.length - (cc + 1)) = 1 := by omega
         have h4 := HC4.out
         rw [e1, List.drop_of_length_le (by omega)] at h4
         have HCA := Lib.hid (fun (g : Nat) (W : World) (h : W.heap[g]? = some (.cells #[.int .i64 k3.tr, .int .i64 k3.id, .int .i64 k3.pa, .int .i64 k3.rv, .string k3.sv, .string k3.op, .int .i64 k3.st, .int .i64 k3.du, .bool k3.gn] 23 (0, 0))) => h4 g 1 (Nat.le_refl _) (by decide) W (RdS_row [k3] h))
         clear h4 e1
         have HLL := Lib.hid hll
         clear hll
         go_region_held3 (fun W => ∀ j, W.cell? ⟨w4.heap.size, j, none⟩ = (#[.int .i64 k3.tr, .int .i64 k3.id, .int .i64 k3.pa, .int .i64 k3.rv, .string k3.sv, .string k3.op, .int .i64 k3.st, .int .i64 k3.du, .bool k3.gn] : Array Value)[j]?) ((first | (with_reducible assumption) | (refine HSB.out _ ?_; (repeat (first | with_reducible assumption | with_reducible exact Below.refl _ _ | with_reducible refine Below.drew ?_ | with_reducible refine below_alloc' _ ?_ | with_reducible refine below_set ?_ (Nat.le_refl _) _ _ | with_reducible refine below_set ?_ (Nat.le_succ _) _ _ | with_reducible refine below_set ?_ (Below.size V6) _ _))))) (first
          | (go_at_call 18; (with_reducible refine (HCA.out W5.heap.size _ (drew_heap (heap_alloc_new W5 _))).mono ?_); rintro e w6 ⟨rfl, b6⟩; have V6 := below_step b6 (Below.drew (below_alloc' _ (Below.refl W5.heap.size W5))))
          | (go_at_call 18; (with_reducible refine (HCA.out (W5.heap.size + 1) _ (drew_heap (alloc2_1 W5 _ _))).mono ?_); rintro e w6 ⟨rfl, b6⟩; have z6 := kept (drew_heap (alloc2_0 W5 _ _)) b6; have V6 := below_step b6 (Below.drew (below_alloc' _ (below_alloc' _ (Below.refl W5.heap.size W5)))); have fz6 := box_cells z6; have gz6 := box_free z6)
          | (go_at_call 18; (with_reducible refine (HCA.out W5.heap.size _ (drew_heap (alloc2_0 W5 _ _))).mono ?_); rintro e w6 ⟨rfl, b6⟩; have z6 := kept (drew_heap (alloc2_1 W5 _ _)) b6; have V6 := below_step b6 (Below.drew (below_alloc' _ (below_alloc' _ (Below.refl W5.heap.size W5)))); have fz6 := box_cells z6; have gz6 := box_free z6))
         all_goals
           go_wp2_with fail
           go_meet
           first
             | ((with_reducible refine ⟨_, rfl, rfl, box_set9 z6 _ _ _ _ _ _ _ _ _, ?_⟩)
                repeat (first | with_reducible refine below_set ?_ (Nat.le_refl _) _ _ | with_reducible refine below_set ?_ (Nat.le_succ _) _ _)
                exact V6)
             | (with_reducible exact ⟨w6.heap.size, rfl, rfl, heap_alloc_new _ _, below_alloc' _ V6⟩)
       · have hcl : cc + 1 < c := by omega
         go_region_held3 (fun W => ∀ j, W.cell? ⟨w4.heap.size, j, none⟩ = (#[.int .i64 k3.tr, .int .i64 k3.id, .int .i64 k3.pa, .int .i64 k3.rv, .string k3.sv, .string k3.op, .int .i64 k3.st, .int .i64 k3.du, .bool k3.gn] : Array Value)[j]?) ((first | (with_reducible assumption) | (refine HSB.out _ ?_; (repeat (first | with_reducible assumption | with_reducible exact Below.refl _ _ | with_reducible refine Below.drew ?_ | with_reducible refine below_alloc' _ ?_ | with_reducible refine below_set ?_ (Nat.le_refl _) _ _ | with_reducible refine below_set ?_ (Nat.le_succ _) _ _ | with_reducible refine below_set ?_ (Below.size V5) _ _ | with_reducible refine below_set ?_ (Below.size V6) _ _))))) (first
          | (refine step_append_any (by rfl) _ _ _ (by rfl) w.heap.size 23 i0 _ 9 88 Try.underlying24 HI.out.1 HI.out.2.1 HI.out.2.2.1 HI.out.2.2.2 rfl (by decide) _ 1 (spCells k3) (by rfl) (own_row1 (H := W5.heap.size) k3 (heap_alloc_new W5 _) hWle) (by decide) (ad.add ((cc + 1) * 9)) (l.length - (cc + 1)) _ ((l.drop (cc + 1)).flatMap spCells) (by rfl) (by rw [spCells_len, List.length_drop]) (news_of_RdS2 (HR.out _ (HBW.out.trans (Below.mono (Below.drew (below_alloc' _ (Below.refl W5.heap.size W5))) hWle))) (cc + 1) (Nat.succ_pos _)) (spCells_one _) (by unfold maxLen; omega) (by omega) (Nat.le_trans hWle (Below.size (Below.drew (below_alloc' _ (Below.refl W5.heap.size W5))))) ?_; intro g4 cap4 w5 hown5 hc5 hm5 hgrow5; have V5 := Below.grown (Below.drew (below_alloc' _ (Below.refl W5.heap.size W5))) hgrow5 (Below.size (Below.drew (below_alloc' _ (Below.refl W5.heap.size W5)))) (fun k e => by have e := Option.some.inj e; have e : W5.heap.size = k := e; omega))
          | (refine step_append_any (by rfl) _ _ _ (by rfl) w.heap.size 23 i0 _ 9 88 Try.underlying24 HI.out.1 HI.out.2.1 HI.out.2.2.1 HI.out.2.2.2 rfl (by decide) _ 1 (spCells k3) (by rfl) (own_row1 (H := W5.heap.size + 1) k3 (alloc2_1 W5 _ _) (Nat.le_succ_of_le hWle)) (by decide) (ad.add ((cc + 1) * 9)) (l.length - (cc + 1)) _ ((l.drop (cc + 1)).flatMap spCells) (by rfl) (by rw [spCells_len, List.length_drop]) (news_of_RdS2 (HR.out _ (HBW.out.trans (Below.mono (Below.drew (below_alloc' _ (below_alloc' _ (Below.refl W5.heap.size W5)))) hWle))) (cc + 1) (Nat.succ_pos _)) (spCells_one _) (by unfold maxLen; omega) (by omega) (Nat.le_trans hWle (Below.size (Below.drew (below_alloc' _ (below_alloc' _ (Below.refl W5.heap.size W5)))))) ?_; intro g4 cap4 w5 hown5 hc5 hm5 hgrow5; have V5 := Below.grown (Below.drew (below_alloc' _ (below_alloc' _ (Below.refl W5.heap.size W5)))) hgrow5 (Below.size (Below.drew (below_alloc' _ (below_alloc' _ (Below.refl W5.heap.size W5))))) (fun k e => by have e := Option.some.inj e; have e : W5.heap.size + 1 = k := e; omega); have z5 := (hgrow5.block W5.heap.size (by simp [World.drew] <;> omega) (fun e => by have e := Option.some.inj e; simp at e)).trans (alloc2_0 W5 _ _))
          | (refine step_append_any (by rfl) _ _ _ (by rfl) w.heap.size 23 i0 _ 9 88 Try.underlying24 HI.out.1 HI.out.2.1 HI.out.2.2.1 HI.out.2.2.2 rfl (by decide) _ 1 (spCells k3) (by rfl) (own_row1 (H := W5.heap.size) k3 (alloc2_0 W5 _ _) hWle) (by decide) (ad.add ((cc + 1) * 9)) (l.length - (cc + 1)) _ ((l.drop (cc + 1)).flatMap spCells) (by rfl) (by rw [spCells_len, List.length_drop]) (news_of_RdS2 (HR.out _ (HBW.out.trans (Below.mono (Below.drew (below_alloc' _ (below_alloc' _ (Below.refl W5.heap.size W5)))) hWle))) (cc + 1) (Nat.succ_pos _)) (spCells_one _) (by unfold maxLen; omega) (by omega) (Nat.le_trans hWle (Below.size (Below.drew (below_alloc' _ (below_alloc' _ (Below.refl W5.heap.size W5)))))) ?_; intro g4 cap4 w5 hown5 hc5 hm5 hgrow5; have V5 := Below.grown (Below.drew (below_alloc' _ (below_alloc' _ (Below.refl W5.heap.size W5)))) hgrow5 (Below.size (Below.drew (below_alloc' _ (below_alloc' _ (Below.refl W5.heap.size W5))))) (fun k e => by have e := Option.some.inj e; have e : W5.heap.size = k := e; omega); have z5 := (hgrow5.block (W5.heap.size + 1) (by simp [World.drew] <;> omega) (fun e => by have e := Option.some.inj e; simp at e)).trans (alloc2_1 W5 _ _))
          | (go_at_call 18; (with_reducible refine (HC4.out _ _ hc5 hm5 _ (RdS_own hown5)).mono ?_); rintro e w6 ⟨rfl, b6⟩; have z6 := kept z5 b6; have V6 := below_step b6 V5; have fz6 := box_cells z6; have gz6 := box_free z6)
          | (go_at_call 18; (with_reducible refine (HC4.out _ _ hc5 hm5 _ (RdS_own hown5)).mono ?_); rintro e w6 ⟨rfl, b6⟩; have V6 := below_step b6 V5)
          | (go_at_call 18; (with_reducible refine (HC4.out _ _ hc5 hm5 _ ((RdS_own hown5).later (below_alloc' _ (Below.refl _ _)))).mono ?_); rintro e w6 ⟨rfl, b6⟩; have z6 := kept (heap_alloc_new w5 _) b6; have V6 := below_step b6 (below_alloc' _ V5); have fz6 := box_cells z6; have gz6 := box_free z6))
         all_goals
           go_wp2_with fail
           go_meet
           first
             | ((with_reducible refine ⟨_, rfl, rfl, box_set9 z6 _ _ _ _ _ _ _ _ _, ?_⟩)
                repeat (first | with_reducible refine below_set ?_ (Nat.le_refl _) _ _ | with_reducible refine below_set ?_ (Nat.le_succ _) _ _ | with_reducible refine below_set ?_ (Below.size V5) _ _)
                exact V6)
             | (with_reducible exact ⟨w6.heap.size, rfl, rfl, heap_alloc_new _ _, below_alloc' _ V6⟩)
      case rest =>
        obtain ⟨g14, rfl, rfl, k14, VX⟩ := hcut
        have kk8 := (VX.block _ (box_lt HK8.out)).trans HK8.out
        have kk10 := (VX.block _ (box_lt HK10.out)).trans HK10.out
        have f8 := box_cells kk8
        have f10 := box_cells kk10
        have f14 := box_cells k14
        have HB8 := Lib.hid (fun (X : World) (h : Below W5.heap.size W5 X) => box_cells ((h.block _ (box_lt HK8.out)).trans HK8.out))
        have hk1ok : k1.Ok ∧ k1.few := by rw [← HK1.out]; exact ⟨Sp.kept_Ok _ (HK.out _ HT1.out.1).1, (HK.out _ HT1.out.1).2⟩
        have HK1OK := Lib.hid hk1ok
        have hk1k : k1.kept = k1 := by rw [← HK1.out]; exact kept_kept _
        have HK1K := Lib.hid hk1k
        have HNW := Lib.hid (fun (x : Sp) (hx : x ∈ l) => (show newS x k1 = false by
          have h0 : ordS k1 r1 = 0 := by rw [← HK1.out]; exact ord_kept r1
          have h1 : ordS r1 k1 = 0 := by rw [show ordS r1 k1 = - ordS k1 r1 from RankP.ord_anti _ _, h0]; rfl
          refine RankP.not_newer_trans _ _ _ (HT1.out.2 x hx) ?_
          unfold RankP.newer; rw [show RankP.ordI (spP r1) (spP k1) = 0 from h1]; rfl))
        have HANY := Lib.hid (show (l.any fun x => spEq x.kept k1.kept) = true by
          rw [List.any_eq_true]
          exact ⟨r1, HT1.out.1, by rw [HK1K.out, HK1.out]; exact spEq_self _⟩)
        clear hk1ok hk1k w1 w2' w3' HC4 HC1 HC2 HC3 HSB HK3 HT3
        go_wp2_with fail
        go_loopw [16, 17] (fun is ii wr => ∃ k : Nat, k ≤ l.length ∧ ii = .int .i64 k ∧ is = .bool ((l.take k).any fun x => spEq x.kept k1.kept) ∧ Below W5.heap.size W5 wr) (fun _ ii _ => l.length - (intOf ii).toNat)
        case atStart => exact ⟨0, by omega, rfl, by simp, VX⟩
        case round =>
          obtain ⟨k, hk, rfl, rfl, hbX⟩ := hrel
          by_cases hlt : k < l.length
          · obtain ⟨x, hx⟩ : ∃ x, l[k]? = some x := ⟨l[k], List.getElem?_eq_getElem hlt⟩
            have hsn : ((l.take (k + 1)).any fun x => spEq x.kept k1.kept) = (((l.take k).any fun x => spEq x.kept k1.kept) || spEq x.kept k1.kept) := by rw [ptake_snoc l k x hx]; simp
            have hxm := List.mem_of_getElem? hx
            have N := rank_Newer x k1 (HK.out x hxm).1 HK1OK.out.1 (HK.out x hxm).2 HK1OK.out.2
            rw [show RankP.newer (spP x) (spP k1) = false from HNW.out x hxm] at N
            have S := rank_Same x k1
            have xX := fun u : Later wr.heap.size wr => HRA.out u.w (HBW.out.trans ((hbX.trans (u.h.mono hbX.size)).mono HBW.out.size)) k x hx
            have yX := fun u : Later wr.heap.size wr => HB8.out u.w (hbX.trans (u.h.mono hbX.size))
            have x0 := fun u => (xX u).1
            have x1 := fun u => (xX u).2.1
            have x2 := fun u => (xX u).2.2.1
            have x3 := fun u => (xX u).2.2.2.1
            have x4 := fun u => (xX u).2.2.2.2.1
            have x5 := fun u => (xX u).2.2.2.2.2.1
            have x6 := fun u => (xX u).2.2.2.2.2.2.1
            have x7 := fun u => (xX u).2.2.2.2.2.2.2.1
            have x8 := fun u => (xX u).2.2.2.2.2.2.2.2
            have hBX := hbX
            have hj0 : (0 : Int) ≤ (k : Int) := by omega
            have hj1 : (k : Int) < (l.length : Int) := by omega
            generalize ((l.take k).any fun x => spEq x.kept k1.kept) = nb at hsn ⊢
            obtain ⟨se, hse⟩ : ∃ se, spEq x.kept k1.kept = se := ⟨_, rfl⟩
            rw [hse] at S hsn
            have HN := Lib.hid N
            have HS := Lib.hid S
            have HSN := Lib.hid hsn
            clear N S hsn hse xX hx hxm
            cases nb with
            | true =>
              go_wp2_with fail
              refine wp_region_later wr.heap.size (by kernel_rfl) (by kernel_rfl) ?_
              repeat (go_big_quiet_step (fail))
              refine wpQuiet_nil ?_; intro _ hw'; obtain ⟨u, hw''⟩ := hw'; subst hw''
              go_wp2_with fail
              refine wp_region_at u (by kernel_rfl) (by kernel_rfl) ?_
              repeat (go_big_quiet_step ((go_at_call 20; exact later_of _ (Nat.le_refl _) (HN.out _))))
              refine wpQuiet_nil ?_
              intro _ hw'
              obtain ⟨u2, hw''⟩ := hw'
              subst hw''
              go_wp2_with fail
              exact ⟨⟨k + 1, by omega, by go_num, by rw [HSN.out]; rfl, hbX.trans (u2.h.mono hbX.size)⟩, by simp [intOf]; omega⟩
            | false =>
              go_wp2_with fail
              refine wp_region_later wr.heap.size (by kernel_rfl) (by kernel_rfl) ?_
              repeat (go_big_quiet_step ((go_at_call 22; exact later_of _ (Nat.le_refl _) (HS.out _))))
              refine wpQuiet_nil ?_; intro _ hw'; obtain ⟨u, hw''⟩ := hw'; subst hw''
              go_wp2_with fail
              refine wp_region_at u (by kernel_rfl) (by kernel_rfl) ?_
              repeat (go_big_quiet_step ((go_at_call 20; exact later_of _ (Nat.le_refl _) (HN.out _))))
              refine wpQuiet_nil ?_
              intro _ hw'
              obtain ⟨u2, hw''⟩ := hw'
              subst hw''
              go_wp2_with fail
              exact ⟨⟨k + 1, by omega, by go_num, by rw [HSN.out]; simp, hbX.trans (u2.h.mono hbX.size)⟩, by simp [intOf]; omega⟩
          · obtain rfl : k = l.length := by omega
            rw [List.take_length, HANY.out]
            go_wp2_with (go_at_call 17; (with_reducible refine (law10_awake _).mono ?_); rintro e w9 ⟨rfl, b9⟩)
            go_ret
            exact ⟨rfl, HBW.out.trans ((hbX.trans (b9.mono hbX.size)).mono HBW.out.size)⟩

theorem law10_RankBest (a : SlSp) (cut : Int) (hcut : (Lit.int .u8 cut).wf = true) (w : World) (ha : a.Ok w) :
    Calls Try.prog 5 #[.slice a.A a.l.length a.c, .int .u8 cut] w fun e w' => e = .returned (.bool true) ∧ Below w.heap.size w w' := by
  have hc' : 0 ≤ cut ∧ cut ≤ 255 := by simpa [Lit.wf, IntKind.min, IntKind.max, IntKind.signed, IntKind.bits] using hcut
  obtain ⟨n, rfl⟩ := Int.eq_ofNat_of_zero_le hc'.1
  by_cases h : fewS 12 a.l ∧ a.l ≠ []
  · obtain ⟨A, c, l⟩ := a
    cases l with
    | nil => exact absurd rfl h.2
    | cons b l =>
      obtain ⟨ad, rfl, _⟩ := ha.2.2.2.2 0 b rfl
      exact law10_RankBest_few ad c b l (b :: l) rfl n (by omega) ha.2.2.2.1 h.1 ha.2.1 ha.2.2.1 w ha.2.2.2.2
  · exact law10_RankBest_wide a.A a.c a.l _ ha.2.2.2.1 ha.1 h w ha.2.2.2.2
