/- Names (layer 8): the document's Numbers. -/
import Derived.Test.YtmkaijjakcjflaaDoorNameU
namespace Go.Proofs.YtmkaijjakcjflaaDoor
open Go.ChangeShapes Go.WideShapes Go.ChangeAt Go.RowKit Go.Deep NameP

theorem own_cells_from {w : World} {base n cap g : Nat} {e : TypeId} {xs : List Value} (h : w.ownsRow base e 1 (.slice (some ⟨g, 0, none⟩) n cap) n xs) (p : Nat) : ∀ j u, (xs.drop p)[j]? = some u → w.cell? ((⟨g, p, none⟩ : Addr).add j) = some u := fun j u hj => by
  rw [List.getElem?_drop] at hj
  have := h.cells (g := g) rfl (p + j) u hj
  rw [show (⟨g, 0, none⟩ : Addr).add (p + j) = ⟨g, p + j, none⟩ by unfold Addr.add; split <;> simp_all] at this
  rwa [show (⟨g, p, none⟩ : Addr).add j = ⟨g, p + j, none⟩ by unfold Addr.add; split <;> simp_all]
theorem one_int (l : List Int) : ∀ u ∈ l.map (Value.int .i64), u.oneCell' = true := by
  intro u hu
  obtain ⟨x, _, rfl⟩ := List.mem_map.1 hu
  rfl

set_option maxRecDepth 100000 in
set_option maxHeartbeats 4000000 in
theorem ref8_Numbers (kind : Int) (A : Option Addr) (c : Nat) (l : List ByteArray) (hl : l.length ≤ 40) (hs : ∀ s ∈ l, s.size ≤ 100) (w : World) (hr : Rd w w.heap.size A (l.map Value.string)) :
    Calls Tryd.prog 13 #[.int .i64 kind, .slice A l.length c] w fun e w' => ∃ A' c', e = .returned (.slice A' (numsX kind l).length c') ∧ Rd w' w'.heap.size A' ((numsX kind l).map (Value.int .i64)) ∧ Below w.heap.size w w' := by
  have HR := Lib.hid hr
  have HS := Lib.hid hs
  obtain ⟨i0, hi, hz0, hz1, hz2⟩ := info_parts' info_int
  have HI := Lib.hid (And.intro hi (And.intro hz0 (And.intro hz1 hz2)))
  have HK' : ∀ (s : ByteArray), s.size ≤ 100 → ∀ W : World, Calls Tryd.prog 8 #[.string s] W fun e w' => e = .returned (.tuple #[.int .i64 (kB s).1, .int .i64 (kB s).2]) ∧ Below W.heap.size W w' := fun s h W => ref8_KindB s (by omega) W
  have HK := Lib.hid HK'
  clear hr hs hi hz0 hz1 hz2 HK'
  go_enter Tryd.func13, Tryd.ntmps13
  go_wp2_with fail
  go_loopw [5, 6] (fun vo vi wr => ∃ k : Nat, k ≤ l.length ∧ vi = .int .i64 k ∧ wr.ownsRow w.heap.size 3 1 vo (numsX kind (l.take k)).length ((numsX kind (l.take k)).map (Value.int .i64)) ∧ Below w.heap.size w wr) (fun _ vi _ => l.length - (intOf vi).toNat)
  case atStart => exact ⟨0, by omega, rfl, World.ownsRow_nil _ _ _ _, Below.refl _ _⟩
  case round =>
    obtain ⟨k, hk, rfl, hown, hb⟩ := hrel
    have hbz := hb.size
    have hlen : (numsX kind (l.take k)).length ≤ 40 := by
      have := numsA_len kind (l.take k)
      rw [List.length_take, ← numsX_len] at this
      omega
    have HO := Lib.hid hown
    clear hown
    by_cases hlt : k < l.length
    · obtain ⟨f, hk'⟩ : ∃ f, l[k]? = some f := ⟨l[k], List.getElem?_eq_getElem hlt⟩
      have hm : (l.map Value.string)[k]? = some (.string f) := by rw [List.getElem?_map, hk']; rfl
      obtain ⟨a1, rfl, b1, z1⟩ := (HR.out.below hb) k _ hm
      have HF := Lib.hid (HK.out f (HS.out f (List.mem_of_getElem? hk')))
      have HT := Lib.hid (show numsX kind (l.take (k + 1)) = _ by rw [take_snoc l k f hk', numsX_snoc])
      have hi1 : (k : Int) < (l.length : Int) := by omega
      clear hk' hm
      generalize numsX kind (l.take k) = out at *
      by_cases hkk : (kB f).1 = kind
      · have hkb : ((kB f).1 == kind) = true := by simp [hkk]
        rw [if_pos hkk] at HT
        clear hkk
        generalize (kB f).1 = x1 at *
        generalize (kB f).2 = x2 at *
        rcases row_slice HO.out with ⟨rfl, h0⟩ | ⟨g, cap, rfl, hc1, hc2, hgl, hgb⟩
        · obtain rfl : out = [] := List.eq_nil_of_length_eq_zero h0
          clear h0 HO
          go_wp2_with (first
            | (go_at_call 8; (with_reducible refine (HF.out _).mono ?_); rintro e w1 ⟨rfl, q1⟩))
          go_loopw [9] (fun vj wr2 => vj = .int .i64 0 ∧ wr2 = w1) (fun vj _ => (intOf vj).toNat)
          case atStart => exact ⟨rfl, rfl⟩
          case round =>
            obtain ⟨rfl, rfl⟩ := hrel
            have q1z := q1.size
            go_wp2_with (first
              | (at_builtin; refine wpList_append_own_none rfl _ _ _ (by rfl) wr.heap.size 3 i0 1 Tryd.underlying29 HI.out.1 _ 0 _ (by rfl) (World.ownsRow_nil _ _ _ _) (by rfl) ?_)
              | (at_builtin; refine wpList_append_two rfl _ _ _ (by rfl) wr.heap.size 3 i0 _ 1 8 Tryd.underlying29 HI.out.1 HI.out.2.1 HI.out.2.2.1 HI.out.2.2.2 rfl (by decide) (by decide) (.slice none 0 0) 0 [] (by rfl) wr (World.ownsRow_nil _ _ _ _) _ _ rfl (by rfl) (by rfl) (by simp [Value.oneCell']) (by omega) (Nat.le_refl _) ?_; intro g2 cap2 w2 hA; have q2 := app_below (Below.refl _ wr) (World.ownsRow_nil _ _ _ _) (Nat.le_refl _) (Nat.le_refl _) hA)
              | (at_builtin; refine wpList_append_own_none rfl _ _ _ (by rfl) wr.heap.size 3 i0 1 Tryd.underlying29 HI.out.1 _ 1 _ (by rfl) hA.own (by rfl) ?_))
            refine ⟨⟨k + 1, by omega, by go_num, ?_, below_step (q2.mono (Nat.le_refl _)) (below_step q1 hb)⟩, by show l.length - ((k : Int) + 1).toNat < l.length - ((k : Int)).toNat; omega⟩
            rw [HT.out]
            exact own_mono hA.own (by omega)
        · go_wp2_with (first
            | (go_at_call 8; (with_reducible refine (HF.out _).mono ?_); rintro e w1 ⟨rfl, q1⟩; obtain ⟨wo, rfl⟩ : ∃ wo, wo = w1 := ⟨_, rfl⟩; have HW := Lib.hid (own_below HO.out q1)))
          have hbo := below_step q1 hb
          have hboz := hbo.size
          have HF2 := Lib.hid (fun W (hq : Below wo.heap.size wo W) => And.intro (own_below HW.out hq) hq.size)
          have HCP0 := Lib.hid (fun (p : Nat) (W : World) (hq : Below wo.heap.size wo W) (j : Nat) (u : Value) (hj : ((out.take p).map (Value.int .i64))[j]? = some u) => (by
            have h2 := own_cells_from (HF2.out W hq).1 0 j u
            rw [List.drop_zero] at h2
            apply h2
            rw [List.map_take, List.getElem?_take] at hj
            split at hj
            · exact hj
            · exact absurd hj (by simp) : W.cell? ((⟨g, 0, none⟩ : Addr).add j) = some u))
          go_loopw [9] (fun vj wr2 => ∃ p : Nat, p ≤ out.length ∧ vj = .int .i64 p ∧ wr2 = wo ∧ Hid (∀ a ∈ out.take p, a ≤ x2)) (fun vj _ => out.length - (intOf vj).toNat)
          case atStart => exact ⟨0, by omega, rfl, rfl, Lib.hid (by simp)⟩
          case round =>
            obtain ⟨p, hp, rfl, rfl, HPRE⟩ := hrel
            have hq := Below.refl wr.heap.size wr
            have HCP := Lib.hid (HCP0.out p)
            by_cases hpk : p < out.length
            · obtain ⟨a, ha⟩ : ∃ a, out[p]? = some a := ⟨out[p], List.getElem?_eq_getElem (by omega)⟩
              have z := own_cell HW.out p (.int .i64 a) (by rw [List.getElem?_map, ha]; rfl)
              have HS2 := Lib.hid (take_snoc out p a ha)
              have hi2 : (p : Int) < (out.length : Int) := by omega
              by_cases hc : a ≤ x2
              · clear ha
                go_wp2_with fail
                refine ⟨⟨p + 1, by omega, by go_num, trivial, Lib.hid ?_⟩, by show out.length - ((p : Int) + 1).toNat < out.length - ((p : Int)).toNat; omega⟩
                rw [HS2.out]
                intro q hq
                rcases List.mem_append.1 hq with hq | hq
                · exact HPRE.out q hq
                · rw [List.mem_singleton.1 hq]; exact hc
              · have HP := Lib.hid (posI_uniq (out := out) (n := x2) (p := p) (by omega) HPRE.out (fun b hb => by rw [ha] at hb; obtain rfl := Option.some.inj hb; exact hc))
                have hcp : ¬ cap = p := by omega
                have HCD := Lib.hid (fun (W : World) (ho : W.ownsRow w.heap.size 3 1 (.slice (some ⟨g, 0, none⟩) out.length cap) out.length (out.map (Value.int .i64))) => own_cells_from ho p)
                clear ha
                (go_wp2_with (first | (at_builtin; refine wpList_append_own _ rfl _ _ _ (by rfl) wr.heap.size 3 i0 _ 1 8 Tryd.underlying29 HI.out.1 HI.out.2.1 HI.out.2.2.1 HI.out.2.2.2 rfl (by decide) (.slice none 0 0) 0 [] (by rfl) (World.ownsRow_nil _ _ _ _) ⟨g, 0, none⟩ p cap ((out.take p).map (Value.int .i64)) (by rfl) (by rw [List.length_map, List.length_take]; omega) (HCP.out _ hq) (one_int _) (by unfold maxLen; omega) (by omega) (HF2.out _ hq).2 ?_; intro v1 w1 o1 g1 _; rw [Nat.zero_add, List.nil_append] at o1; have q4 := hq.grown g1 (HF2.out _ hq).2 (by intro k e; cases e); obtain ⟨s2, s3⟩ := HF2.out _ q4; clear s2) | (at_builtin; refine wpList_append_two rfl _ _ _ (by rfl) wr.heap.size 3 i0 _ 1 8 Tryd.underlying29 HI.out.1 HI.out.2.1 HI.out.2.2.1 HI.out.2.2.2 rfl (by decide) (by decide) v1 p _ (by rfl) w1 o1 _ _ rfl (by rfl) (by rfl) (by simp [Value.oneCell']) (by omega) s3 ?_; intro g2 cap2 w2 hA; have q2 := app_below q4 o1 (Nat.le_refl _) s3 hA; obtain ⟨r2, r3⟩ := HF2.out _ q2; have HR2 := Lib.hid r2; clear r2) | (at_builtin; refine wpList_append_own _ rfl _ _ _ (by rfl) wr.heap.size 3 i0 _ 1 8 Tryd.underlying29 HI.out.1 HI.out.2.1 HI.out.2.2.1 HI.out.2.2.2 rfl (by decide) (.slice (some ⟨g2, 0, none⟩) (p + 1) cap2) (p + 1) _ (by rfl) hA.own _ (out.length - p) (cap - p) ((out.drop p).map (Value.int .i64)) (by rfl) (by rw [List.length_map, List.length_drop]; omega) (by rw [List.map_drop]; exact HCD.out _ HR2.out) (one_int _) (by unfold maxLen; omega) (by omega) r3 ?_; intro v3 w3 o3 g3 _; have q3 := q2.grown g3 r3 (fun k e => by have := (hA.own.lt k e).1; omega))))
                refine ⟨⟨k + 1, by omega, by go_num, ?_, hbo.trans (q3.mono hboz)⟩, by show l.length - ((k : Int) + 1).toNat < l.length - ((k : Int)).toNat; omega⟩
                rw [HT.out, insI_len]
                unfold insI
                rw [HP.out]
                rw [show p + 1 + (out.length - p) = out.length + 1 by omega] at o3
                simpa using own_mono o3 hboz
            · have HP := Lib.hid (posI_uniq (out := out) (n := x2) (p := p) (by omega) HPRE.out (fun b hb => by rw [List.getElem?_eq_none (by omega)] at hb; cases hb))
              have hi2 : ¬ (p : Int) < (out.length : Int) := by omega
              obtain rfl : p = out.length := by omega
              by_cases hcp : cap = out.length
              · subst hcp
                have HCD := Lib.hid (fun (W : World) (_ : W.ownsRow w.heap.size 3 1 (.slice (some ⟨g, 0, none⟩) out.length out.length) out.length (out.map (Value.int .i64))) (j : Nat) (u : Value) (hj : ((out.map (Value.int .i64)).drop out.length)[j]? = some u) => (by rw [List.drop_of_length_le (by rw [List.length_map]; omega)] at hj; exact absurd hj (by simp) : W.cell? ((⟨g, 0, none⟩ : Addr).add j) = some u))
                (go_wp2_with (first | (at_builtin; refine wpList_append_own _ rfl _ _ _ (by rfl) wr.heap.size 3 i0 _ 1 8 Tryd.underlying29 HI.out.1 HI.out.2.1 HI.out.2.2.1 HI.out.2.2.2 rfl (by decide) (.slice none 0 0) 0 [] (by rfl) (World.ownsRow_nil _ _ _ _) ⟨g, 0, none⟩ out.length out.length ((out.take out.length).map (Value.int .i64)) (by rfl) (by rw [List.length_map, List.length_take]; omega) (HCP.out _ hq) (one_int _) (by unfold maxLen; omega) (by omega) (HF2.out _ hq).2 ?_; intro v1 w1 o1 g1 _; rw [Nat.zero_add, List.nil_append] at o1; have q4 := hq.grown g1 (HF2.out _ hq).2 (by intro k e; cases e); obtain ⟨s2, s3⟩ := HF2.out _ q4; clear s2) | (at_builtin; refine wpList_append_two rfl _ _ _ (by rfl) wr.heap.size 3 i0 _ 1 8 Tryd.underlying29 HI.out.1 HI.out.2.1 HI.out.2.2.1 HI.out.2.2.2 rfl (by decide) (by decide) v1 out.length _ (by rfl) w1 o1 _ _ rfl (by rfl) (by rfl) (by simp [Value.oneCell']) (by omega) s3 ?_; intro g2 cap2 w2 hA; have q2 := app_below q4 o1 (Nat.le_refl _) s3 hA; obtain ⟨r2, r3⟩ := HF2.out _ q2; have HR2 := Lib.hid r2; clear r2) | (at_builtin; refine wpList_append_own _ rfl _ _ _ (by rfl) wr.heap.size 3 i0 _ 1 8 Tryd.underlying29 HI.out.1 HI.out.2.1 HI.out.2.2.1 HI.out.2.2.2 rfl (by decide) (.slice (some ⟨g2, 0, none⟩) (out.length + 1) cap2) (out.length + 1) _ (by rfl) hA.own _ (0) (0) ((out.drop out.length).map (Value.int .i64)) (by rfl) (by rw [List.length_map, List.length_drop]; omega) (by rw [List.map_drop]; exact HCD.out _ HR2.out) (one_int _) (by unfold maxLen; omega) (by omega) r3 ?_; intro v3 w3 o3 g3 _; have q3 := q2.grown g3 r3 (fun k e => by have := (hA.own.lt k e).1; omega))))
                refine ⟨⟨k + 1, by omega, by go_num, ?_, hbo.trans (q3.mono hboz)⟩, by show l.length - ((k : Int) + 1).toNat < l.length - ((k : Int)).toNat; omega⟩
                rw [HT.out, insI_len]
                unfold insI
                rw [HP.out]
                simpa using own_mono o3 hboz
              · have HCD := Lib.hid (fun (W : World) (ho : W.ownsRow w.heap.size 3 1 (.slice (some ⟨g, 0, none⟩) out.length cap) out.length (out.map (Value.int .i64))) => own_cells_from ho out.length)
                (go_wp2_with (first | (at_builtin; refine wpList_append_own _ rfl _ _ _ (by rfl) wr.heap.size 3 i0 _ 1 8 Tryd.underlying29 HI.out.1 HI.out.2.1 HI.out.2.2.1 HI.out.2.2.2 rfl (by decide) (.slice none 0 0) 0 [] (by rfl) (World.ownsRow_nil _ _ _ _) ⟨g, 0, none⟩ out.length cap ((out.take out.length).map (Value.int .i64)) (by rfl) (by rw [List.length_map, List.length_take]; omega) (HCP.out _ hq) (one_int _) (by unfold maxLen; omega) (by omega) (HF2.out _ hq).2 ?_; intro v1 w1 o1 g1 _; rw [Nat.zero_add, List.nil_append] at o1; have q4 := hq.grown g1 (HF2.out _ hq).2 (by intro k e; cases e); obtain ⟨s2, s3⟩ := HF2.out _ q4; clear s2) | (at_builtin; refine wpList_append_two rfl _ _ _ (by rfl) wr.heap.size 3 i0 _ 1 8 Tryd.underlying29 HI.out.1 HI.out.2.1 HI.out.2.2.1 HI.out.2.2.2 rfl (by decide) (by decide) v1 out.length _ (by rfl) w1 o1 _ _ rfl (by rfl) (by rfl) (by simp [Value.oneCell']) (by omega) s3 ?_; intro g2 cap2 w2 hA; have q2 := app_below q4 o1 (Nat.le_refl _) s3 hA; obtain ⟨r2, r3⟩ := HF2.out _ q2; have HR2 := Lib.hid r2; clear r2) | (at_builtin; refine wpList_append_own _ rfl _ _ _ (by rfl) wr.heap.size 3 i0 _ 1 8 Tryd.underlying29 HI.out.1 HI.out.2.1 HI.out.2.2.1 HI.out.2.2.2 rfl (by decide) (.slice (some ⟨g2, 0, none⟩) (out.length + 1) cap2) (out.length + 1) _ (by rfl) hA.own _ (0) (cap - out.length) ((out.drop out.length).map (Value.int .i64)) (by rfl) (by rw [List.length_map, List.length_drop]; omega) (by rw [List.map_drop]; exact HCD.out _ HR2.out) (one_int _) (by unfold maxLen; omega) (by omega) r3 ?_; intro v3 w3 o3 g3 _; have q3 := q2.grown g3 r3 (fun k e => by have := (hA.own.lt k e).1; omega))))
                refine ⟨⟨k + 1, by omega, by go_num, ?_, hbo.trans (q3.mono hboz)⟩, by show l.length - ((k : Int) + 1).toNat < l.length - ((k : Int)).toNat; omega⟩
                rw [HT.out, insI_len]
                unfold insI
                rw [HP.out]
                simpa using own_mono o3 hboz
      · have hkb : ((kB f).1 == kind) = false := by simp [hkk]
        rw [if_neg hkk] at HT
        clear hkk
        generalize (kB f).1 = x1 at *
        generalize (kB f).2 = x2 at *
        go_wp2_with (first
          | (go_at_call 8; (with_reducible refine (HF.out _).mono ?_); rintro e w1 ⟨rfl, q1⟩; have HO1 := Lib.hid (own_below HO.out q1)))
        refine ⟨⟨k + 1, by omega, by go_num, ?_, below_step q1 hb⟩, by show l.length - ((k : Int) + 1).toNat < l.length - ((k : Int)).toNat; omega⟩
        rw [HT.out]
        exact HO1.out
    · have hi1 : ¬ (k : Int) < (l.length : Int) := by omega
      rw [List.take_of_length_le (by omega)] at HO hlen
      obtain ⟨A', c', rfl⟩ := own_slice HO.out
      go_wp2_with fail
      go_ret
      exact ⟨A', ⟨c', rfl⟩, Rd.own HO.out, hb⟩
end Go.Proofs.YtmkaijjakcjflaaDoor
