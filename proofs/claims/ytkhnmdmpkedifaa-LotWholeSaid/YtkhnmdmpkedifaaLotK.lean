/- Layer 11 (lot): what is put and read back; awake; the walk of LotIs. -/
import Derived.Test.YtkhnmdmpkedifaaLotD
import Derived.Test.YtkhnmdmpkedifaaLotH
import Derived.Test.YtkhnmdmpkedifaaEqSpan
namespace Go.Proofs.Ytkhnmdmpkedifaa

theorem readN_encs (l : List Sp) (hfit : ∀ x ∈ l, CodeP.Fit (spP x)) (s : List UInt8) (k : Nat) (hk : k ≤ l.length) : readN k (encs l ++ s, 0) = ((l.take k).map spP, (encs (l.drop k) ++ s, 0)) := by
  induction k with
  | zero => simp [readN]
  | succ k ih =>
    have ih := ih (by omega)
    obtain ⟨x, hx⟩ : ∃ x, l[k]? = some x := ⟨l[k], List.getElem?_eq_getElem (by omega)⟩
    have hlt : k < l.length := by omega
    have hxe : l[k] = x := by rw [List.getElem?_eq_getElem hlt] at hx; exact Option.some.inj hx
    have hd : l.drop k = x :: l.drop (k + 1) := by rw [List.drop_eq_getElem_cons hlt, hxe]
    have he : encs (l.drop k) ++ s = CodeP.enc (spP x) ++ (encs (l.drop (k + 1)) ++ s) := by rw [hd]; simp [encs]
    unfold readN
    rw [ih]
    simp only
    rw [he, CodeP.rSp_enc _ (hfit x (List.mem_of_getElem? hx))]
    simp [List.take_add_one, hx]
theorem spB_spP (x : Sp) : spB (spP x) = x := by
  obtain ⟨a, b, c, d, ⟨e⟩, ⟨f⟩, g, h, i⟩ := x
  simp [spB, spP]
theorem recs_encs (l : List Sp) (hfit : ∀ x ∈ l, CodeP.Fit (spP x)) (s : List UInt8) : recs l.length (encs l ++ s, 0) = l ∧ (readN l.length (encs l ++ s, 0)).2 = (s, 0) := by
  unfold recs
  rw [readN_encs l hfit s l.length (Nat.le_refl _)]
  refine ⟨?_, by simp [encs]⟩
  rw [List.take_length, List.map_map]
  conv => rhs; rw [← List.map_id l]
  exact List.map_congr_left fun x _ => spB_spP x
theorem takeL_lotB (l : List Sp) (hl : l.length ≤ 256) (hfit : ∀ x ∈ l, CodeP.Fit (spP x)) (hm : mayAll l = true) : takeL (lotB l) = (l, 0) := by
  obtain ⟨h1, h2⟩ := recs_encs l hfit []
  rw [List.append_nil] at h1 h2
  have hn := PackP.rNum_put (l.length : Int) (encs l) (by omega) (by omega)
  unfold takeL lotB
  simp only [hn, Int.toNat_natCast]
  rw [if_neg (by simp), if_neg (by omega), h1, h2, if_neg (by simp [PackP.rEnd]), if_pos hm]
end Go.Proofs.Ytkhnmdmpkedifaa
namespace Go.Proofs.Ytkhnmdmpkedifaa
open Go.ChangeShapes Go.WideShapes Go.ChangeAt Go.RowKit Go.Deep

def smS (n : Int) : Sp := ⟨1, n, 0, 0, ⟨#[115]⟩, ⟨#[111]⟩, 0, 0, false⟩
theorem small11 (n : Int) (w : World) : Calls Try.prog 85 #[.int .i64 n] w fun e w' => e = .returned (.agg #[.int .i64 1, .int .i64 n, .int .i64 0, .int .i64 0, .string ⟨#[115]⟩, .string ⟨#[111]⟩, .int .i64 0, .int .i64 0, .bool false]) ∧ Below w.heap.size w w' := law11_small n w
theorem RdS_heap {w : World} {H : Nat} {T : TypeId} (l : List Sp) (h : w.heap[H]? = some (.cells (l.flatMap spCells).toArray T (0, 0))) : RdS w w.heap.size (some ⟨H, 0, none⟩) l := by
  refine RdS_cells l (box_lt h) fun j v hj => ?_
  rw [cell_of_row _ _ _ _ _ _ h]
  simpa using hj
theorem smS_Ok (n : Int) (h : I64 n) : (smS n).Ok := ⟨by unfold I64; simp [smS], h, by unfold I64; simp [smS], by unfold I64; simp [smS], by unfold I64; simp [smS], by unfold I64; simp [smS], by unfold maxLen; simp [smS]; decide, by unfold maxLen; simp [smS]; decide⟩
def l12 : List Sp := [smS 1, smS 2]
theorem l12_facts : mayAll l12 = true ∧ mayAll [smS 0] = false ∧ (lotB l12).length = 23 := by decide +kernel
theorem ok_of (l : List Int) (h : ∀ n ∈ l, I64 n) : (∀ x ∈ l.map smS, x.Ok) ∧ short3 (l.map smS) := by
  refine ⟨fun x hx => ?_, fun x hx => ?_⟩
  · obtain ⟨n, hn, rfl⟩ := List.mem_map.1 hx
    exact smS_Ok n (h n hn)
  · obtain ⟨n, hn, rfl⟩ := List.mem_map.1 hx
    exact ⟨(by decide : (1 : Nat) ≤ 300), (by decide : (1 : Nat) ≤ 300)⟩
theorem l12_ok : (∀ x ∈ l12, x.Ok) ∧ short3 l12 := ok_of [1, 2] (by intro n hn; simp at hn; unfold I64; omega)
theorem l0_ok : (∀ x ∈ [smS 0], x.Ok) ∧ short3 [smS 0] := ok_of [0] (by intro n hn; simp at hn; unfold I64; omega)
theorem mayAll_mem {l : List Sp} (h : mayAll l = true) : ∀ x ∈ l, CodeP.mayB (spP x) = true := by
  unfold mayAll at h
  simpa using h
theorem fit_all {l : List Sp} (hok : ∀ x ∈ l, x.Ok) (h : mayAll l = true) : ∀ x ∈ l, CodeP.Fit (spP x) := fun x hx => CodeP.may_fit _ (spP_Ok x (hok x hx)) (mayAll_mem h x hx)
theorem l12_take : takeL (lotB l12) = (l12, 0) := takeL_lotB l12 (by decide) (fit_all l12_ok.1 l12_facts.1) l12_facts.1

set_option maxRecDepth 100000 in
set_option maxHeartbeats 4000000 in
theorem law11_awake (w : World) : Calls Try.prog 49 #[] w fun e w' => e = .returned (.bool true) ∧ Below w.heap.size w w' := by
  have HP1 : RowKit.Hid (∀ (W : World) (H : Nat), W.heap[H]? = some (.cells #[.int .i64 1, .int .i64 1, .int .i64 0, .int .i64 0, .string ⟨#[115]⟩, .string ⟨#[111]⟩, .int .i64 0, .int .i64 0, .bool false, .int .i64 1, .int .i64 2, .int .i64 0, .int .i64 0, .string ⟨#[115]⟩, .string ⟨#[111]⟩, .int .i64 0, .int .i64 0, .bool false] 23 (0, 0)) → Calls Try.prog 50 #[.slice (some ⟨H, 0, none⟩) 2 2] W fun e w' => e = .returned (.tuple #[.string ⟨(lotB l12).toArray⟩, .int .i64 0]) ∧ Below W.heap.size W w') := Lib.hid (fun W H h => lot_Put_ok (some ⟨H, 0, none⟩) 2 l12 (by decide) l12_ok.1 l12_ok.2 l12_facts.1 W (RdS_heap l12 h))
  have HP2 : RowKit.Hid (∀ (W : World) (H : Nat), W.heap[H]? = some (.cells #[.int .i64 1, .int .i64 0, .int .i64 0, .int .i64 0, .string ⟨#[115]⟩, .string ⟨#[111]⟩, .int .i64 0, .int .i64 0, .bool false] 23 (0, 0)) → Calls Try.prog 50 #[.slice (some ⟨H, 0, none⟩) 1 1] W fun e w' => e = .returned (.tuple #[.string ⟨#[]⟩, .int .i64 1]) ∧ Below W.heap.size W w') := Lib.hid (fun W H h => lot_Put_bad (some ⟨H, 0, none⟩) 1 [smS 0] (by decide) l0_ok.1 l12_facts.2.1 W (RdS_heap [smS 0] h))
  have ht := fun (W : World) => lot_Take ⟨(lotB l12).toArray⟩ (by show (lotB l12).length ≤ 90000; rw [l12_facts.2.2]; omega) W
  rw [show (⟨(lotB l12).toArray⟩ : ByteArray).data.toList = lotB l12 from rfl, l12_take] at ht
  have hsz : (⟨(lotB l12).toArray⟩ : ByteArray).size = 23 := l12_facts.2.2
  generalize (⟨(lotB l12).toArray⟩ : ByteArray) = S at HP1 ht hsz
  have HT : RowKit.Hid (∀ W : World, Calls Try.prog 52 #[.string S] W fun e w' => ∃ A cap, e = .returned (.tuple #[.slice A 2 cap, .int .i64 0]) ∧ RdS w' w'.heap.size A l12 ∧ 2 ≤ cap ∧ cap ≤ maxLen ∧ Below W.heap.size W w') := Lib.hid ht
  clear ht
  go_enter Try.func49, Try.ntmps49
  go_wp2_with (first
    | (go_at_call 85; (with_reducible refine (small11 _ _).mono ?_); rintro e w1 ⟨rfl, b1⟩)
    | (go_at_call 50; (with_reducible refine (HP1.out _ _ (heap_alloc_new _ _)).mono ?_); rintro e w2 ⟨rfl, b2⟩)
    | (go_at_call 52; (with_reducible refine (HT.out _).mono ?_); rintro e w3 ⟨A, cap, rfl, hrd, hnc, hcm, b3⟩)
    | (go_at_call 50; (with_reducible refine (HP2.out _ _ (heap_alloc_new _ _)).mono ?_); rintro e w4 ⟨rfl, b4⟩))
  obtain ⟨ad, rfl, _⟩ := hrd 0 _ rfl
  have B34 : Below w3.heap.size w3 w4 := by (repeat (first | assumption | exact Below.refl _ _ | refine below_step (by assumption) ?_ | refine below_alloc' _ ?_ | refine below_drewN ?_ _ | refine Below.drew ?_))
  have hrd4 := (hrd.below B34).more B34.size
  have F := fun u : Later w4.heap.size w4 => hrd4.at u.h (k := 1) (x := smS 2) rfl
  have e9 : ad.add 9 = ⟨ad.block, ad.off + 9, none⟩ := by unfold Addr.add; rw [if_neg (by decide)]
  simp only [Nat.one_mul, smS, e9] at F
  have F0 := fun u => (F u).1
  have F1 := fun u => (F u).2.1
  have F2 := fun u => (F u).2.2.1
  have F3 := fun u => (F u).2.2.2.1
  have F4 := fun u => (F u).2.2.2.2.1
  have F5 := fun u => (F u).2.2.2.2.2.1
  have F6 := fun u => (F u).2.2.2.2.2.2.1
  have F7 := fun u => (F u).2.2.2.2.2.2.2.1
  have F8 := fun u => (F u).2.2.2.2.2.2.2.2
  have HCT : RowKit.Hid (∀ u : Later w4.heap.size w4, Calls Try.prog 54 #[.slice (some ad) 2 cap, .int .i64 1] u.w (CutPost 1 2 l12 u.w)) := Lib.hid (fun u => lot_Cut (some ad) cap l12 hnc hcm (by decide) 1 (by omega) 1 2 (.inr ⟨by omega, rfl⟩) (by decide) u.w ((hrd4.below u.h).more u.h.size))
  have HSM := Lib.hid (fun u : Later w4.heap.size w4 => small11 2 u.w)
  clear F hrd hrd4
  refine wp_region_later_tail w4.heap.size 27 (by kernel_rfl) (by kernel_rfl) ?_
  simp only [List.take_succ_cons, List.take_zero, List.drop_succ_cons, List.drop_zero]
  repeat (go_big_quiet_step ((go_at_call 85; exact later_of _ (Nat.le_refl _) (HSM.out _))))
  refine wpQuiet_nil ?_; intro _ hw'; obtain ⟨u, hw''⟩ := hw'; subst hw''
  go_wp2_with (go_at_call 54; (with_reducible refine (HCT.out _).mono ?_); rintro e w5 ⟨A5, c5, vs5, rfl, _, _, _, b5⟩)
  go_ret
  exact ⟨rfl, by have b9 := u.h; (repeat (first | assumption | exact Below.refl _ _ | refine below_step (by assumption) ?_ | refine below_alloc' _ ?_ | refine below_drewN ?_ _ | refine Below.drew ?_))⟩
end Go.Proofs.Ytkhnmdmpkedifaa
namespace Go.Proofs.Ytkhnmdmpkedifaa
open Go.ChangeShapes Go.WideShapes Go.ChangeAt Go.RowKit Go.Deep

/-- lots, as both Cuts hand them back -/
def CutR (m K : Nat) (l : List Sp) (w : World) (e : Ending) (w' : World) : Prop :=
  ∃ A cap vs, e = .returned (.slice A K cap) ∧ K ≤ cap ∧ w'.ownsRow w.heap.size 24 1 (.slice A K cap) K vs ∧ (∀ j, j < K → ∃ A' c', vs[j]? = some (.slice A' (chunk m l j).length c') ∧ RdS w' w'.heap.size A' (chunk m l j)) ∧ Below w.heap.size w w'
theorem own_le {w : World} {base n cap sz : Nat} {e : TypeId} {A : Option Addr} {xs : List Value} (h : w.ownsRow base e sz (.slice A n cap) n xs) : n ≤ cap := by
  rcases h.2 with ⟨e1, _⟩ | ⟨g, c, cur, e1, _, _, hc, _⟩
  · obtain ⟨_, h1, h2⟩ : A = none ∧ n = 0 ∧ cap = 0 := by simpa using e1
    omega
  · obtain ⟨_, h1⟩ : A = some ⟨g, 0, none⟩ ∧ cap = c := by simpa using e1
    omega
theorem CutPost.r {m K : Nat} {l : List Sp} {w w' : World} {e : Ending} (h : CutPost m K l w e w') : CutR m K l w e w' := by
  obtain ⟨A, cap, vs, rfl, ho, hvl, hL, hb⟩ := h
  refine ⟨A, cap, vs, rfl, own_le ho, ho, fun j hj => ?_, hb⟩
  have h1 := hL j vs[j] j (List.getElem?_eq_getElem (by omega)) (by rw [List.getElem?_range hj])
  rw [show min j (K - 1) = j by omega] at h1
  obtain ⟨A', c', e1, hr, _⟩ := own_RdS h1 rfl
  exact ⟨A', c', by rw [List.getElem?_eq_getElem (by omega), e1], hr⟩
theorem cut_uniq {m N K K' : Nat} (h : K * m < N + m ∧ N ≤ K * m) (h' : K' * m < N + m ∧ N ≤ K' * m) : K = K' := by
  have key : ∀ a b : Nat, a < b → N ≤ a * m → b * m < N + m → False := fun a b hab h1 h2 => by
    have := Nat.mul_le_mul_right m (show a + 1 ≤ b from hab)
    rw [Nat.succ_mul] at this
    omega
  rcases Nat.lt_trichotomy K K' with h1 | h1 | h1
  · exact (key _ _ h1 h.2 h'.1).elim
  · exact h1
  · exact (key _ _ h1 h'.2 h.1).elim
theorem cut_ex (m N : Nat) (hm : 1 ≤ m) : ∃ K, K * m < N + m ∧ N ≤ K * m := by
  refine ⟨(N + m - 1) / m, ?_⟩
  have h1 := Nat.div_add_mod (N + m - 1) m
  have h2 := Nat.mod_lt (N + m - 1) (show m > 0 by omega)
  rw [Nat.mul_comm] at h1
  omega
theorem ref_CutR {ad : Addr} {c : Nat} {l : List Sp} {m K : Nat} {w w' : World} {v : Value} {A : Option Addr} (hA : A = some ad) (hr : RdS w w.heap.size A l) (ho : w'.ownsRow w.heap.size 24 1 v K ((List.range K).map (chunkV ad c m l.length))) (hb : Below w.heap.size w w') : CutR m K l w (.returned v) w' := by
  subst hA
  obtain ⟨A1, c1, rfl⟩ := own_slice ho
  refine ⟨A1, c1, _, rfl, own_le ho, ho, fun j hj => ?_, hb⟩
  refine ⟨some (ad.add (j * m * 9)), c - j * m, ?_, ?_⟩
  · rw [List.getElem?_map, List.getElem?_range hj, chunk_length]; rfl
  · exact RdS_chunk ((hr.below hb).more hb.size) (j * m) m
/-- both Cuts -/
theorem cut_both (A : Option Addr) (c : Nat) (l : List Sp) (hlc : l.length ≤ c) (hc : c ≤ maxLen) (hl : l.length ≤ 20) (sz : Int) (hsz : sz ≤ 9223372036854775807) : ∃ m K : Nat, 1 ≤ m ∧ (K * m < l.length + m ∧ l.length ≤ K * m) ∧ (1 ≤ sz → (m : Int) = sz) ∧ (sz < 1 → m = max 1 l.length) ∧
    (∀ W, RdS W W.heap.size A l → Calls Try.prog 54 #[.slice A l.length c, .int .i64 sz] W (CutR m K l W)) ∧
    (∀ W, RdS W W.heap.size A l → Calls Try.prog 55 #[.slice A l.length c, .int .i64 sz] W (CutR m K l W)) := by
  obtain ⟨m, hm1, hm2⟩ : ∃ m : Nat, 1 ≤ m ∧ ((sz < 1 ∧ m = max 1 l.length) ∨ (1 ≤ sz ∧ (m : Int) = sz)) := by
    by_cases h : sz < 1
    · exact ⟨max 1 l.length, by omega, .inl ⟨h, rfl⟩⟩
    · replace h : 1 ≤ sz := by omega
      exact ⟨sz.toNat, by omega, .inr ⟨h, by omega⟩⟩
  obtain ⟨K, hK⟩ := cut_ex m l.length hm1
  refine ⟨m, K, hm1, hK, by omega, by omega, fun W hr => (lot_Cut A c l hlc hc (by omega) sz hsz m K hm2 hK W hr).mono fun _ _ h => h.r, fun W hr => ?_⟩
  rcases Nat.eq_zero_or_pos l.length with h0 | h0
  · obtain rfl : K = 0 := by
      have := hK.1
      rcases Nat.eq_zero_or_pos K with h | h
      · exact h
      · have := Nat.le_mul_of_pos_left m h
        omega
    rw [h0]
    refine (ref11_Cut_nil A c sz W).mono ?_
    rintro e w' ⟨rfl, rfl⟩
    exact ⟨none, 0, [], rfl, Nat.le_refl _, World.ownsRow_nil _ _ _ _, fun j hj => by omega, Below.refl _ _⟩
  · obtain ⟨ad, hA⟩ : ∃ ad : Addr, A = some ad := by
      obtain ⟨ad, e, _⟩ := hr 0 _ (List.getElem?_eq_getElem h0)
      exact ⟨ad, e⟩
    rcases hm2 with ⟨hs, hm2⟩ | ⟨hs, hm2⟩
    · obtain rfl : m = l.length := by omega
      have := ref11_Cut_whole ad c l hlc hc hl h0 sz hs W
      rw [← hA] at this
      refine this.mono ?_
      rintro e w' ⟨K', v, hK', rfl, ho, hb⟩
      obtain rfl := cut_uniq hK hK'
      exact ref_CutR hA hr ho hb
    · have := ref11_Cut_go ad c l hlc hc hl m hm1 (by omega) W
      rw [← hA, hm2] at this
      refine this.mono ?_
      rintro e w' ⟨K', v, hK', rfl, ho, hb⟩
      obtain rfl := cut_uniq hK hK'
      exact ref_CutR hA hr ho hb
theorem own_pos {w : World} {base n cap sz : Nat} {e : TypeId} {A : Option Addr} {xs : List Value} (h : w.ownsRow base e sz (.slice A n cap) n xs) (hn : 0 < n) : ∃ g, A = some ⟨g, 0, none⟩ ∧ g < w.heap.size := by
  rcases h.2 with ⟨e1, _⟩ | ⟨g, c, cur, e1, _, hg, hc, _⟩
  · obtain ⟨_, h1, h2⟩ : A = none ∧ n = 0 ∧ cap = 0 := by simpa using e1
    omega
  · obtain ⟨h0, h1⟩ : A = some ⟨g, 0, none⟩ ∧ cap = c := by simpa using e1
    exact ⟨g, h0, box_lt hg⟩
theorem add_0 (g j : Nat) : (⟨g, 0, none⟩ : Addr).add j = ⟨g, j, none⟩ := by unfold Addr.add; split <;> simp_all
/-- both Puts -/
theorem put_both (A : Option Addr) (c : Nat) (l : List Sp) (hl : l.length ≤ 256) (hok : ∀ x ∈ l, x.Ok) (h3 : short3 l) : ∃ (PA : ByteArray) (ea : Int), ((mayAll l = true ∧ PA = ⟨(lotB l).toArray⟩ ∧ ea = 0) ∨ (mayAll l = false ∧ PA = ⟨#[]⟩ ∧ ea = 1)) ∧
    (∀ W, RdS W W.heap.size A l → Calls Try.prog 50 #[.slice A l.length c] W fun e w' => e = .returned (.tuple #[.string PA, .int .i64 ea]) ∧ Below W.heap.size W w') ∧
    (∀ W, RdS W W.heap.size A l → Calls Try.prog 51 #[.slice A l.length c] W fun e w' => e = .returned (.tuple #[.string PA, .int .i64 ea]) ∧ Below W.heap.size W w') := by
  rcases hm : mayAll l with _ | _
  · exact ⟨⟨#[]⟩, 1, .inr ⟨rfl, rfl, rfl⟩, fun W hr => lot_Put_bad A c l hl hok hm W hr, fun W hr => ref11_Put_bad A c l hl hok h3 hm W hr⟩
  · exact ⟨⟨(lotB l).toArray⟩, 0, .inl ⟨rfl, rfl, rfl⟩, fun W hr => lot_Put_ok A c l hl hok h3 hm W hr, fun W hr => ref11_Put_ok A c l hl hok h3 hm W hr⟩
theorem few_short3 {n : Nat} {l : List Sp} (h : fewS n l) : short3 l := fun x hx => by
  have := h.2 x hx
  exact ⟨show x.sv.size ≤ 300 by omega, show x.op.size ≤ 300 by omega⟩

set_option maxRecDepth 100000 in
theorem law11_LotIs_out (A : Option Addr) (c : Nat) (l : List Sp) (s : ByteArray) (sz : Int) (hm : l.length ≤ maxLen) (hok : ∀ x ∈ l, x.Ok) (h : ¬ (fewS 20 l ∧ s.size ≤ 1024)) (hss : s.size ≤ maxLen) (w : World) (hr : RdS w w.heap.size A l) :
    Calls Try.prog 12 #[.slice A l.length c, .string s, .int .i64 sz] w fun e w' => e = .returned (.bool true) ∧ Below w.heap.size w w' := by
  by_cases hf : fewS 20 l
  · have hs : ¬ s.size ≤ 1024 := fun h2 => h ⟨hf, h2⟩
    have HF := Lib.hid (show Calls Try.prog 16 #[.slice A l.length c, .int .i64 20] w fun e w' => e = .returned (.bool true) ∧ Below w.heap.size w w' from ref9_Few_yes A c l 20 (by decide) hf w hr)
    clear hf h hr hok
    unfold maxLen at hss
    go_enter Try.func12, Try.ntmps12
    go_wp2_with (first
      | (go_at_call 16; (with_reducible refine (HF.out).mono ?_); rintro e w1 ⟨rfl, b1⟩)
      | (go_at_call 49; (with_reducible refine (law11_awake _).mono ?_); rintro e w2 ⟨rfl, b2⟩))
    go_ret
    exact ⟨rfl, by (repeat (first | assumption | exact Below.refl _ _ | refine below_step (by assumption) ?_ | refine below_alloc' _ ?_ | refine below_drewN ?_ _ | refine Below.drew ?_))⟩
  · have HF := Lib.hid (show Calls Try.prog 16 #[.slice A l.length c, .int .i64 20] w fun e w' => e = .returned (.bool false) ∧ Below w.heap.size w w' from ref9_Few_no A c l hm hok 20 (by decide) hf w hr)
    clear hf h hr hok
    go_enter Try.func12, Try.ntmps12
    go_wp2_with (first
      | (go_at_call 16; (with_reducible refine (HF.out).mono ?_); rintro e w1 ⟨rfl, b1⟩)
      | (go_at_call 49; (with_reducible refine (law11_awake _).mono ?_); rintro e w2 ⟨rfl, b2⟩))
    go_ret
    exact ⟨rfl, by (repeat (first | assumption | exact Below.refl _ _ | refine below_step (by assumption) ?_ | refine below_alloc' _ ?_ | refine below_drewN ?_ _ | refine Below.drew ?_))⟩

set_option maxRecDepth 100000 in
set_option maxHeartbeats 8000000 in
theorem law11_LotIs_in (A : Option Addr) (c : Nat) (l : List Sp) (s : ByteArray) (sz : Int) (hlc : l.length ≤ c) (hc : c ≤ maxLen) (hok : ∀ x ∈ l, x.Ok) (hf : fewS 20 l) (hs : s.size ≤ 1024) (hsz : sz ≤ 9223372036854775807) (w : World) (hr : RdS w w.heap.size A l) :
    Calls Try.prog 12 #[.slice A l.length c, .string s, .int .i64 sz] w fun e w' => e = .returned (.bool true) ∧ Below w.heap.size w w' := by
  have h20 := hf.1
  obtain ⟨PA, ea, _, P1, P2⟩ := put_both A c l (by omega) hok (few_short3 hf)
  obtain ⟨m, K, hm1, hK, _, _, C1, C2⟩ := cut_both A c l hlc hc h20 sz hsz
  have hKN := cut_K hm1 hK.1
  have hT1 := lot_Take s (by omega)
  have hT2 := ref11_Take s (by omega)
  have hTl : (takeL s.data.toList).1.length ≤ 256 := by
    unfold takeL
    simp only
    split
    · simp
    · split
      · simp
      · split
        · simp
        · split
          · rw [recs_length]; omega
          · simp
  generalize takeL s.data.toList = R at hT1 hT2 hTl
  obtain ⟨rl, re⟩ := R
  simp only at hTl
  unfold TakePost at hT1 hT2
  simp only at hT1 hT2
  have HF := Lib.hid (show Calls Try.prog 16 #[.slice A l.length c, .int .i64 20] w fun e w' => e = .returned (.bool true) ∧ Below w.heap.size w w' from ref9_Few_yes A c l 20 (by decide) hf w hr)
  have HP1 := Lib.hid (fun (W : World) (hb : Below w.heap.size w W) => P1 W ((hr.below hb).more hb.size))
  have HP2 := Lib.hid (fun (W : World) (hb : Below w.heap.size w W) => P2 W ((hr.below hb).more hb.size))
  have HC1 := Lib.hid (fun (W : World) (hb : Below w.heap.size w W) => C1 W ((hr.below hb).more hb.size))
  have HC2 := Lib.hid (fun (W : World) (hb : Below w.heap.size w W) => C2 W ((hr.below hb).more hb.size))
  have HT1 := Lib.hid hT1
  have HT2 := Lib.hid hT2
  have HM := Lib.hid hK
  clear hf hr hok hT1 hT2 P1 P2 C1 C2 hK hm1
  go_enter Try.func12, Try.ntmps12
  go_wp2_with (first
    | (go_at_call 16; (with_reducible refine (HF.out).mono ?_); rintro e w1 ⟨rfl, b1⟩)
    | (go_at_call 50; (with_reducible refine (HP1.out _ (by (repeat (first | assumption | exact Below.refl _ _ | refine below_step (by assumption) ?_ | refine below_alloc' _ ?_ | refine below_drewN ?_ _ | refine Below.drew ?_)))).mono ?_); rintro e w2 ⟨rfl, b2⟩)
    | (go_at_call 51; (with_reducible refine (HP2.out _ (by (repeat (first | assumption | exact Below.refl _ _ | refine below_step (by assumption) ?_ | refine below_alloc' _ ?_ | refine below_drewN ?_ _ | refine Below.drew ?_)))).mono ?_); rintro e w3 ⟨rfl, b3⟩)
    | (go_at_call 52; (with_reducible refine (HT1.out _).mono ?_); rintro e w4 ⟨A4, c4, rfl, r4, n4, m4, b4⟩)
    | (go_at_call 53; (with_reducible refine (HT2.out _).mono ?_); rintro e w5 ⟨A5, c5, rfl, r5, n5, m5, b5⟩)
    | (go_at_call 54; (with_reducible refine (HC1.out _ (by (repeat (first | assumption | exact Below.refl _ _ | refine below_step (by assumption) ?_ | refine below_alloc' _ ?_ | refine below_drewN ?_ _ | refine Below.drew ?_)))).mono ?_); rintro e w6 ⟨A6, c6, v6, rfl, k6, o6, h6, b6⟩)
    | (go_at_call 55; (with_reducible refine (HC2.out _ (by (repeat (first | assumption | exact Below.refl _ _ | refine below_step (by assumption) ?_ | refine below_alloc' _ ?_ | refine below_drewN ?_ _ | refine Below.drew ?_)))).mono ?_); rintro e w7 ⟨A7, c7, v7, rfl, k7, o7, h7, b7⟩)
    | (go_at_call 56; (with_reducible refine (ref9_Same A4 A5 c4 c5 rl (by unfold maxLen; omega) _ ((r4.below (by (repeat (first | assumption | exact Below.refl _ _ | refine below_step (by assumption) ?_ | refine below_alloc' _ ?_ | refine below_drewN ?_ _ | refine Below.drew ?_)))).more (Below.size (by (repeat (first | assumption | exact Below.refl _ _ | refine below_step (by assumption) ?_ | refine below_alloc' _ ?_ | refine below_drewN ?_ _ | refine Below.drew ?_))))) ((r5.below (by (repeat (first | assumption | exact Below.refl _ _ | refine below_step (by assumption) ?_ | refine below_alloc' _ ?_ | refine below_drewN ?_ _ | refine Below.drew ?_)))).more (Below.size (by (repeat (first | assumption | exact Below.refl _ _ | refine below_step (by assumption) ?_ | refine below_alloc' _ ?_ | refine below_drewN ?_ _ | refine Below.drew ?_)))))).mono ?_); rintro e w8 ⟨rfl, b8⟩))
  have B6 : Below w6.heap.size w6 w8 := by (repeat (first | assumption | exact Below.refl _ _ | refine below_step (by assumption) ?_ | refine below_alloc' _ ?_ | refine below_drewN ?_ _ | refine Below.drew ?_))
  have B7 : Below w7.heap.size w7 w8 := by (repeat (first | assumption | exact Below.refl _ _ | refine below_step (by assumption) ?_ | refine below_alloc' _ ?_ | refine below_drewN ?_ _ | refine Below.drew ?_))
  have B8 : Below w.heap.size w w8 := by (repeat (first | assumption | exact Below.refl _ _ | refine below_step (by assumption) ?_ | refine below_alloc' _ ?_ | refine below_drewN ?_ _ | refine Below.drew ?_))
  clear HF HP1 HP2 HC1 HC2 HT1 HT2 b1 b2 b3 b4 b5 b6 b7 b8 r4 r5 n4 n5 m4 m5
  go_loopw [17] (fun i wr => ∃ k : Nat, k ≤ K ∧ i = .int .i64 k ∧ Below w8.heap.size w8 wr) (fun i _ => K - (intOf i).toNat)
  case atStart => exact ⟨0, by omega, rfl, Below.refl _ _⟩
  case round =>
    obtain ⟨k, hk, rfl, hb⟩ := hrel
    by_cases hlt : k < K
    · obtain ⟨g6, rfl, l6⟩ := own_pos o6 (by omega)
      obtain ⟨g7, rfl, l7⟩ := own_pos o7 (by omega)
      obtain ⟨A', c', e6, r6⟩ := h6 k hlt
      obtain ⟨A'', c'', e7, r7⟩ := h7 k hlt
      have y6 := o6.cells (g := g6) rfl k _ e6
      have y7 := o7.cells (g := g7) rfl k _ e7
      rw [add_0] at y6 y7
      have D6 : Below w6.heap.size w6 wr := B6.trans (hb.mono B6.size)
      have D7 : Below w7.heap.size w7 wr := B7.trans (hb.mono B7.size)
      have D8 : Below w.heap.size w wr := B8.trans (hb.mono B8.size)
      have z6 := fun u : Later wr.heap.size wr => ((D6.trans (u.h.mono D6.size)).cell (p := ⟨g6, k, none⟩) l6).trans y6
      have z7 := fun u : Later wr.heap.size wr => ((D7.trans (u.h.mono D7.size)).cell (p := ⟨g7, k, none⟩) l7).trans y7
      have hcl : (chunk m l k).length ≤ maxLen := by rw [chunk_length]; unfold maxLen; omega
      have HSM := Lib.hid (fun u : Later wr.heap.size wr => ref9_Same A' A'' c' c'' (chunk m l k) hcl u.w ((r6.below (D6.trans (u.h.mono D6.size))).more (Nat.le_trans D6.size u.h.size)) ((r7.below (D7.trans (u.h.mono D7.size))).more (Nat.le_trans D7.size u.h.size)))
      have hi1 : (k : Int) < (K : Int) := by omega
      have HB := Lib.hid hb
      have HD8 := Lib.hid D8
      clear B6 B7 B8 D6 D7 D8 o6 o7 h6 h7 r6 r7 e6 e7 y6 y7 hb hcl
      go_wp2_with fail
      refine wp_region_later wr.heap.size (by kernel_rfl) (by kernel_rfl) ?_
      repeat (go_big_quiet_step ((go_at_call 56; with_reducible exact later_of _ (Nat.le_refl _) (HSM.out _))))
      refine wpQuiet_nil ?_; intro _ hw'; obtain ⟨u, hw''⟩ := hw'; subst hw''
      go_wp2_with fail
      exact ⟨⟨k + 1, by omega, by go_num, HB.out.trans (u.h.mono HB.out.size)⟩, by simp [intOf]; omega⟩
    · have D8 : Below w.heap.size w wr := B8.trans (hb.mono B8.size)
      clear B6 B7 B8 o6 o7 h6 h7
      go_wp2_with (go_at_call 49; (with_reducible refine (law11_awake _).mono ?_); rintro e w9 ⟨rfl, b9⟩)
      go_ret
      exact ⟨rfl, by (repeat (first | assumption | exact Below.refl _ _ | refine below_step (by assumption) ?_ | refine below_alloc' _ ?_ | refine below_drewN ?_ _ | refine Below.drew ?_))⟩
theorem law11_LotIs (a : SlSp) (s : ByteArray) (sz : Int) (w : World) (ha : a.Ok w) (hs : s.size ≤ maxLen) (hz : (Lit.int .i64 sz).wf = true) :
    Calls Try.prog 12 #[.slice a.A a.l.length a.c, .string s, .int .i64 sz] w fun e w' => e = .returned (.bool true) ∧ Below w.heap.size w w' := by
  have hz2 := I64_of_wf hz
  unfold I64 at hz2
  by_cases h : fewS 20 a.l ∧ s.size ≤ 1024
  · exact law11_LotIs_in a.A a.c a.l s sz ha.2.1 ha.2.2.1 ha.2.2.2.1 h.1 h.2 (by omega) w ha.2.2.2.2
  · exact law11_LotIs_out a.A a.c a.l s sz ha.1 ha.2.2.2.1 h hs w ha.2.2.2.2
end Go.Proofs.Ytkhnmdmpkedifaa
