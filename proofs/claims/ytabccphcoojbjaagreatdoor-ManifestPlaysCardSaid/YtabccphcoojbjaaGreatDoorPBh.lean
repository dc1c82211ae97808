/- The document's disk (layer 7): name, Names; gossamerref01.SameTexts · The document's disk (layer 7): Append, without · The document's disk (layer 7): without. -/
import Derived.Test.YtabccphcoojbjaaGreatDoorPBc
import Derived.Test.YtabccphcoojbjaaGreatDoorPBg
import Derived.Laws.AppendOwn
import Derived.Laws.AppendOwnNone
namespace Go.Proofs.YtabccphcoojbjaaGreatDoor
open Go.ChangeShapes Go.WideShapes Go.ChangeAt Go.RowKit Go.Deep DiskP


theorem less_cmp : ∀ a b : List UInt8, Op.bytesLess a b = decide (Lib.compareBytes a b < 0)
  | [], [] => by simp [Op.bytesLess, Lib.compareBytes]
  | [], _ :: _ => by simp [Op.bytesLess, Lib.compareBytes]
  | _ :: _, [] => by simp [Op.bytesLess, Lib.compareBytes]
  | x :: a, y :: b => by
    have ih := less_cmp a b
    unfold Op.bytesLess Lib.compareBytes
    by_cases h1 : x < y
    · simp [h1]
    · by_cases h2 : y < x
      · have : (x == y) = false := by rw [beq_eq_false_iff_ne]; rintro rfl; exact h1 h2
        simp [h1, h2, this]
      · have : x = y := UInt8.le_antisymm (UInt8.not_lt.1 h2) (UInt8.not_lt.1 h1)
        subst this
        simp [h1, ih]
theorem less_N (a b : ByteArray) : Op.bytesLess a.toList b.toList = decide (cmpN a b < 0) := by
  rw [Lib.toList_data, Lib.toList_data, less_cmp]; rfl
/-- where a name belongs among sorted ones -/
def posN (out : List ByteArray) (nm : ByteArray) : Nat := (out.takeWhile fun a => decide (cmpN a nm < 0)).length
def insN (out : List ByteArray) (nm : ByteArray) : List ByteArray := out.take (posN out nm) ++ nm :: out.drop (posN out nm)
def namesX (L : List Fl) : List ByteArray := L.foldl (fun out f => insN out f.nm) []
theorem posN_le (out : List ByteArray) (nm : ByteArray) : posN out nm ≤ out.length := (List.takeWhile_sublist _).length_le
theorem insN_len (out : List ByteArray) (nm : ByteArray) : (insN out nm).length = out.length + 1 := by
  have := posN_le out nm
  unfold insN
  rw [List.length_append, List.length_cons, List.length_take, List.length_drop]
  omega
theorem namesX_snoc (L : List Fl) (f : Fl) : namesX (L ++ [f]) = insN (namesX L) f.nm := by unfold namesX; rw [List.foldl_append]; rfl
theorem namesX_len (L : List Fl) : (namesX L).length = L.length := by
  induction L using RankP.snoc_ind with
  | h0 => rfl
  | h1 l x ih => rw [namesX_snoc, insN_len, ih, List.length_append]; rfl
theorem posN_uniq {out : List ByteArray} {nm : ByteArray} {p : Nat} (hp : p ≤ out.length) (h1 : ∀ a ∈ out.take p, cmpN a nm < 0) (h2 : ∀ a, out[p]? = some a → ¬ cmpN a nm < 0) : posN out nm = p := by
  unfold posN
  induction out generalizing p with
  | nil => simp at hp ⊢; omega
  | cons y out ih =>
    cases p with
    | zero =>
      have := h2 y rfl
      rw [List.takeWhile_cons_of_neg (by simpa using this)]
      rfl
    | succ p =>
      have h0 := h1 y (by simp)
      rw [List.takeWhile_cons_of_pos (by simpa using h0), List.length_cons]
      rw [ih (p := p) (by simpa using hp) (fun a ha => h1 a (by rw [List.take_succ_cons]; exact List.mem_cons_of_mem _ ha)) (fun a ha => h2 a (by simpa using ha))]
theorem btaken (l : List ByteArray) (k : Nat) (f : ByteArray) (h : l[k]? = some f) : l.take (k + 1) = l.take k ++ [f] := by
  obtain ⟨h1, rfl⟩ := List.getElem?_eq_some_iff.1 h
  exact List.take_succ_eq_append_getElem h1
theorem row_slice {w : World} {base n sz : Nat} {e : TypeId} {v : Value} {xs : List Value} (h : w.ownsRow base e sz v n xs) : v = .slice none n 0 ∧ n = 0 ∨ ∃ g cap, v = .slice (some ⟨g, 0, none⟩) n cap ∧ n ≤ cap ∧ cap ≤ maxLen ∧ g < w.heap.size := by
  rcases h.2 with ⟨e1, e2⟩ | ⟨g, cap, cur, e1, hb, hg, h3, h4, _⟩
  · subst e2; exact .inl ⟨e1, rfl⟩
  · exact .inr ⟨g, cap, e1, h3, h4, bx_lt hg⟩
theorem own_cells_from {w : World} {base n cap g : Nat} {e : TypeId} {xs : List Value} (h : w.ownsRow base e 1 (.slice (some ⟨g, 0, none⟩) n cap) n xs) (p : Nat) : ∀ j u, (xs.drop p)[j]? = some u → w.cell? ((⟨g, p, none⟩ : Addr).add j) = some u := fun j u hj => by
  rw [List.getElem?_drop] at hj
  have := h.cells (g := g) rfl (p + j) u hj
  rw [fl_add_0] at this
  rwa [show (⟨g, p, none⟩ : Addr).add j = ⟨g, p + j, none⟩ by unfold Addr.add; split <;> simp_all]
theorem one_str (l : List ByteArray) : ∀ u ∈ l.map Value.string, u.oneCell' = true := by
  intro u hu
  obtain ⟨x, _, rfl⟩ := List.mem_map.1 hu
  rfl

set_option maxRecDepth 100000 in
theorem ref7_name (s : ByteArray) (hs : s.size ≤ maxLen) (w : World) : Calls Tryz.prog 45 #[.string s] w fun e w' => e = .returned (.bool (namedD s)) ∧ w = w' := by
  unfold maxLen at hs
  have HNO := Lib.hid (fun j (h : j < s.size) => named_no (s := s) (j := j) (h := h))
  have HYES := Lib.hid (named_yes (s := s))
  go_enter Tryz.func45, Tryz.ntmps45
  go_wp2_with fail
  go_loopw [3] (fun vi wr => ∃ pos : Nat, pos ≤ s.size ∧ vi = .int .i64 pos ∧ wr = w ∧ (∀ j (h : j < s.size), j < pos → letterI ((s[j]'h).toNat : Int) = true)) (fun vi _ => s.size - (intOf vi).toNat)
  case atStart => exact ⟨0, by omega, rfl, rfl, fun j h hj => by omega⟩
  case round =>
    obtain ⟨pos, hpos, rfl, rfl, hpre⟩ := hrel
    have HPRE := Lib.hid hpre
    clear hpre
    by_cases hp : pos < s.size
    · have HB := Lib.hid (HNO.out pos hp)
      have HPK := Lib.hid (fun (hl : letterI ((s[pos]'hp).toNat : Int) = true) (j : Nat) (h : j < s.size) (hj : j < pos + 1) => (by
          rcases Nat.lt_or_ge j pos with h1 | h1
          · exact HPRE.out j h h1
          · obtain rfl : j = pos := by omega
            exact hl : letterI ((s[j]'h).toNat : Int) = true))
      have hi1 : (pos : Int) < (s.size : Int) := by omega
      by_cases h1 : 97 ≤ ((s[pos]'hp).toNat : Int) ∧ ((s[pos]'hp).toNat : Int) ≤ 122
      · have HL := HPK.out (by unfold letterI; rw [decide_eq_true_eq]; exact .inl h1)
        obtain ⟨a1, a2⟩ := h1
        (go_wp2_with fail; exact ⟨⟨pos + 1, by omega, by go_num, trivial, HL⟩, by show s.size - ((pos : Int) + 1).toNat < s.size - ((pos : Int)).toNat; omega⟩)
      · by_cases h2 : 48 ≤ ((s[pos]'hp).toNat : Int) ∧ ((s[pos]'hp).toNat : Int) ≤ 57
        · have HL := HPK.out (by unfold letterI; rw [decide_eq_true_eq]; exact .inr (.inl h2))
          obtain ⟨a1, a2⟩ := h2
          have a3 : ¬ 97 ≤ ((s[pos]'hp).toNat : Int) := by omega
          clear h1
          (go_wp2_with fail; exact ⟨⟨pos + 1, by omega, by go_num, trivial, HL⟩, by show s.size - ((pos : Int) + 1).toNat < s.size - ((pos : Int)).toNat; omega⟩)
        · by_cases h3 : ((s[pos]'hp).toNat : Int) = 46
          · have HL := HPK.out (by unfold letterI; rw [decide_eq_true_eq]; exact .inr (.inr (.inl h3)))
            have c1 : ¬ 97 ≤ ((s[pos]'hp).toNat : Int) := by omega
            have c2 : ¬ 48 ≤ ((s[pos]'hp).toNat : Int) := by omega
            clear h1 h2
            (go_wp2_with fail; exact ⟨⟨pos + 1, by omega, by go_num, trivial, HL⟩, by show s.size - ((pos : Int) + 1).toNat < s.size - ((pos : Int)).toNat; omega⟩)
          · by_cases h4 : ((s[pos]'hp).toNat : Int) = 45
            · have HL := HPK.out (by unfold letterI; rw [decide_eq_true_eq]; exact .inr (.inr (.inr h4)))
              have c1 : ¬ 97 ≤ ((s[pos]'hp).toNat : Int) := by omega
              have c2 : ¬ 48 ≤ ((s[pos]'hp).toNat : Int) := by omega
              clear h1 h2 h3
              (go_wp2_with fail; exact ⟨⟨pos + 1, by omega, by go_num, trivial, HL⟩, by show s.size - ((pos : Int) + 1).toNat < s.size - ((pos : Int)).toNat; omega⟩)
            · have HL := HB.out (by unfold letterI; rw [decide_eq_false_iff_not]; omega)
              have b3 : (((s[pos]'hp).toNat : Int) == 46) = false := by rw [beq_eq_false_iff_ne]; exact h3
              have b4 : (((s[pos]'hp).toNat : Int) == 45) = false := by rw [beq_eq_false_iff_ne]; exact h4
              clear h3 h4
              by_cases c1 : 97 ≤ ((s[pos]'hp).toNat : Int)
              · have c2 : ¬ ((s[pos]'hp).toNat : Int) ≤ 122 := fun h => h1 ⟨c1, h⟩
                have c3 : ¬ ((s[pos]'hp).toNat : Int) ≤ 57 := by omega
                have c4 : 48 ≤ ((s[pos]'hp).toNat : Int) := by omega
                clear h1 h2
                (go_wp2_with fail; go_ret; exact ⟨rfl, rfl⟩)
              · by_cases c4 : 48 ≤ ((s[pos]'hp).toNat : Int)
                · have c3 : ¬ ((s[pos]'hp).toNat : Int) ≤ 57 := fun h => h2 ⟨c4, h⟩
                  clear h1 h2
                  (go_wp2_with fail; go_ret; exact ⟨rfl, rfl⟩)
                · clear h1 h2
                  (go_wp2_with fail; go_ret; exact ⟨rfl, rfl⟩)
    · have HN := Lib.hid (HYES.out (fun j h => HPRE.out j h (by omega)))
      have hi1 : ¬ (pos : Int) < (s.size : Int) := by omega
      by_cases e1 : 1 ≤ s.size
      · by_cases e2 : s.size ≤ 24
        · go_wp2_with fail
          go_ret
          exact ⟨by rw [HN.out]; simp [e1, e2]; omega, rfl⟩
        · go_wp2_with fail
          go_ret
          exact ⟨by rw [HN.out]; simp [e1, e2]; omega, rfl⟩
      · go_wp2_with fail
        go_ret
        exact ⟨by rw [HN.out]; simp [e1], rfl⟩
set_option maxRecDepth 100000 in
set_option maxHeartbeats 4000000 in
theorem ref7_Names (x : Nat) (A : Option Addr) (c : Nat) (S : DS) (hl : S.fs.length ≤ 1000) (w : World) (h : Rk x A c S w) :
    Calls Tryz.prog 20 #[.pointer (some ⟨x, 0, none⟩)] w fun e w' => ∃ A' c', e = .returned (.slice A' S.fs.length c') ∧ w'.ownsRow w.heap.size 9 1 (.slice A' S.fs.length c') S.fs.length ((namesX S.fs).map Value.string) ∧ Below w.heap.size w w' := by
  have x0 := bx_cells h.box 0
  have hxw := h.lt
  have HX := Lib.hid h.box
  have HR := Lib.hid (RdFl_own h.row)
  obtain ⟨i0, hi, hz0, hz1, hz2⟩ := info_parts' info_str
  have HI := Lib.hid (And.intro hi (And.intro hz0 (And.intro hz1 hz2)))
  have HX0 := Lib.hid (fun W (hb : Below w.heap.size w W) => bx_cells (bx_kept HX.out hb) 0)
  clear h hi hz0 hz1 hz2
  go_enter Tryz.func20, Tryz.ntmps20
  go_wp2_with fail
  go_loopw [3, 4] (fun vo vi wr => ∃ k : Nat, k ≤ S.fs.length ∧ vi = .int .i64 k ∧ wr.ownsRow w.heap.size 9 1 vo k ((namesX (S.fs.take k)).map Value.string) ∧ Below w.heap.size w wr) (fun _ vi _ => S.fs.length - (intOf vi).toNat)
  case atStart => exact ⟨0, by omega, rfl, World.ownsRow_nil _ _ _ _, Below.refl _ _⟩
  case round =>
    obtain ⟨k, hk, rfl, hown, hb⟩ := hrel
    have HO := Lib.hid hown
    have hbz := hb.size
    have y0 := HX0.out _ hb
    by_cases hlt : k < S.fs.length
    · obtain ⟨f, hk'⟩ : ∃ f, S.fs[k]? = some f := ⟨S.fs[k], List.getElem?_eq_getElem hlt⟩
      obtain ⟨ad, rfl, hadl, c0, c1, c2⟩ := HR.out.below hb k f hk'
      have HT := Lib.hid (show namesX (S.fs.take (k + 1)) = insN (namesX (S.fs.take k)) f.nm by rw [fl_take hk', namesX_snoc])
      have hon : (namesX (S.fs.take k)).length = k := by rw [namesX_len, List.length_take]; omega
      have hi1 : (k : Int) < (S.fs.length : Int) := by omega
      have HC := Lib.hid (fun W (hb2 : Below w.heap.size w W) => (HR.out.below hb2 k f hk'))
      clear hk' hown
      obtain ⟨out, ho⟩ : ∃ out, namesX (S.fs.take k) = out := ⟨_, rfl⟩
      rw [ho] at HO HT hon
      clear ho
      rcases row_slice HO.out with ⟨rfl, rfl⟩ | ⟨g, cap, rfl, hc1, hc2, hgl⟩
      · obtain rfl : out = [] := List.eq_nil_of_length_eq_zero hon
        have c0' : wr.cell? ad = some (.string f.nm) := c0
        go_wp2_with fail
        go_loopw [5] (fun vj wr2 => vj = .int .i64 0 ∧ wr2 = wr) (fun vj _ => (intOf vj).toNat)
        case atStart => exact ⟨rfl, rfl⟩
        case round =>
          obtain ⟨rfl, rfl⟩ := hrel
          go_wp2_with fail
          go_quiet (fail)
          go_wp2_with (first
            | (at_builtin; refine wpList_append_own_none rfl _ _ _ (by rfl) wr.heap.size 9 i0 1 Tryz.underlying46 HI.out.1 _ 1 _ (by rfl) hA.own (by rfl) ?_)
            | (at_builtin; refine wpList_append_two rfl _ _ _ (by rfl) wr.heap.size 9 i0 _ 1 16 Tryz.underlying46 HI.out.1 HI.out.2.1 HI.out.2.2.1 HI.out.2.2.2 rfl (by decide) (by decide) (.slice none 0 0) 0 [] (by rfl) (wr.drewN nq) (World.ownsRow_nil _ _ _ _) _ _ rfl (by rfl) (by rfl) (by simp [Value.oneCell']) (by omega) (Nat.le_refl _) ?_; intro g2 cap2 w2 hA; have q2 := app_below (below_drewN (Below.refl _ wr) nq) (World.ownsRow_nil _ _ _ _) (Nat.le_refl _) (Nat.le_refl _) hA))
          refine ⟨⟨1, by omega, rfl, ?_, hb.trans (q2.mono hbz)⟩, by simp [intOf]; omega⟩
          rw [HT.out]
          exact own_mono hA.own hbz
      · obtain ⟨wo, rfl⟩ : ∃ wo, wo = wr := ⟨_, rfl⟩
        have HF := Lib.hid (fun W (hq : Below wo.heap.size wo W) => And.intro (HX0.out W (hb.trans (hq.mono hbz))) (And.intro ((by
            obtain ⟨ad', e', _, h0, _⟩ := HC.out _ (hb.trans (hq.mono hbz))
            obtain rfl : ad = ad' := Option.some.inj e'
            exact h0 : W.cell? (ad.add (k * 3)) = some (.string f.nm))) (And.intro (own_below HO.out hq) hq.size)))
        have HCP0 := Lib.hid (fun (p : Nat) (W : World) (hq : Below wo.heap.size wo W) (j : Nat) (u : Value) (hj : ((out.take p).map Value.string)[j]? = some u) => (by
            have h2 := own_cells_from (HF.out W hq).2.2.1 0 j u
            rw [List.drop_zero] at h2
            apply h2
            rw [List.map_take, List.getElem?_take] at hj
            split at hj
            · exact hj
            · exact absurd hj (by simp) : W.cell? ((⟨g, 0, none⟩ : Addr).add j) = some u))
        go_wp2_with fail
        go_loopw [5] (fun vj wr2 => ∃ p : Nat, p ≤ k ∧ vj = .int .i64 p ∧ Below wo.heap.size wo wr2 ∧ ∀ a ∈ out.take p, cmpN a f.nm < 0) (fun vj _ => k - (intOf vj).toNat)
        case atStart => exact ⟨0, by omega, rfl, Below.refl _ _, by simp⟩
        case round =>
          obtain ⟨p, hp, rfl, hb2, hpre⟩ := hrel
          have HPRE := Lib.hid hpre
          obtain ⟨y0', c0', ho', hz'⟩ := HF.out _ hb2
          have HO2 := Lib.hid ho'
          have HCP := Lib.hid (HCP0.out p)
          clear hpre ho' y0 c0 c1 c2
          by_cases hpk : p < k
          · obtain ⟨a, ha⟩ : ∃ a, out[p]? = some a := ⟨out[p], List.getElem?_eq_getElem (by omega)⟩
            have z := own_cell HO2.out p (.string a) (by rw [List.getElem?_map, ha]; rfl)
            have HS := Lib.hid (btaken out p a ha)
            have HA := Lib.hid ha
            have hi2 : (p : Int) < (k : Int) := by omega
            clear ha
            by_cases hc : cmpN a f.nm < 0
            · have hls : Op.bytesLess a.toList f.nm.toList = true := by rw [less_N]; simpa using hc
              have HC2 := Lib.hid hc
              clear hc
              go_wp2_with fail
              go_quiet (fail)
              go_wp2_with fail
              refine ⟨⟨p + 1, by omega, by go_num, below_drewN hb2 _, ?_⟩, by show k - ((p : Int) + 1).toNat < k - ((p : Int)).toNat; omega⟩
              rw [HS.out]
              intro q hq
              rcases List.mem_append.1 hq with hq | hq
              · exact HPRE.out q hq
              · rw [List.mem_singleton.1 hq]; exact HC2.out
            · have hls : Op.bytesLess a.toList f.nm.toList = false := by rw [less_N]; simpa using hc
              have HP := Lib.hid (posN_uniq (out := out) (nm := f.nm) (p := p) (by omega) HPRE.out (fun b hb => by rw [HA.out] at hb; obtain rfl := Option.some.inj hb; exact hc))
              have hcp : ¬ cap = p := by omega
              have HCD := Lib.hid (fun (W : World) (ho : W.ownsRow w.heap.size 9 1 (.slice (some ⟨g, 0, none⟩) k cap) k (out.map Value.string)) => own_cells_from ho p)
              clear hc
              go_wp2_with fail
              go_quiet (fail)
              have hq := below_drewN hb2 nq
              (go_wp2_with (first | (at_builtin; refine wpList_append_own _ rfl _ _ _ (by rfl) wo.heap.size 9 i0 _ 1 16 Tryz.underlying46 HI.out.1 HI.out.2.1 HI.out.2.2.1 HI.out.2.2.2 rfl (by decide) (.slice none 0 0) 0 [] (by rfl) (World.ownsRow_nil _ _ _ _) ⟨g, 0, none⟩ p cap ((out.take p).map Value.string) (by rfl) (by rw [List.length_map, List.length_take]; omega) (HCP.out _ hq) (one_str _) (by unfold maxLen; omega) (by omega) (HF.out _ hq).2.2.2 ?_; intro v1 w1 o1 g1 _; rw [Nat.zero_add, List.nil_append] at o1; have q1 := hq.grown g1 (HF.out _ hq).2.2.2 (by intro k e; cases e); obtain ⟨s0, s1, s2, s3⟩ := HF.out _ q1; clear s2) | (at_builtin; refine wpList_append_two rfl _ _ _ (by rfl) wo.heap.size 9 i0 _ 1 16 Tryz.underlying46 HI.out.1 HI.out.2.1 HI.out.2.2.1 HI.out.2.2.2 rfl (by decide) (by decide) v1 p _ (by rfl) w1 o1 _ _ rfl (by rfl) (by rfl) (by simp [Value.oneCell']) (by omega) s3 ?_; intro g2 cap2 w2 hA; have q2 := app_below q1 o1 (Nat.le_refl _) s3 hA; obtain ⟨r0, r1, r2, r3⟩ := HF.out _ q2; have HR2 := Lib.hid r2; clear r2) | (at_builtin; refine wpList_append_own _ rfl _ _ _ (by rfl) wo.heap.size 9 i0 _ 1 16 Tryz.underlying46 HI.out.1 HI.out.2.1 HI.out.2.2.1 HI.out.2.2.2 rfl (by decide) (.slice (some ⟨g2, 0, none⟩) (p + 1) cap2) (p + 1) _ (by rfl) hA.own _ (k - p) (cap - p) ((out.drop p).map Value.string) (by rfl) (by rw [List.length_map, List.length_drop]; omega) (by rw [List.map_drop]; exact HCD.out _ HR2.out) (one_str _) (by unfold maxLen; omega) (by omega) r3 ?_; intro v3 w3 o3 g3 _; have q3 := q2.grown g3 r3 (fun k e => by have := (hA.own.lt k e).1; omega))))
              refine ⟨⟨k + 1, by omega, by go_num, ?_, hb.trans (q3.mono hbz)⟩, by show S.fs.length - ((k : Int) + 1).toNat < S.fs.length - ((k : Int)).toNat; omega⟩
              rw [HT.out]
              unfold insN
              rw [HP.out]
              rw [show p + 1 + (k - p) = k + 1 by omega] at o3
              simpa using own_mono o3 hbz
          · have HP := Lib.hid (posN_uniq (out := out) (nm := f.nm) (p := p) (by omega) HPRE.out (fun b hb => by rw [List.getElem?_eq_none (by omega)] at hb; cases hb))
            have hi2 : ¬ (p : Int) < (k : Int) := by omega
            obtain rfl : p = k := by omega
            by_cases hcp : cap = p
            · obtain rfl : p = cap := hcp.symm
              have HCD := Lib.hid (fun (W : World) (_ : W.ownsRow w.heap.size 9 1 (.slice (some ⟨g, 0, none⟩) p p) p (out.map Value.string)) (j : Nat) (u : Value) (hj : ((out.map Value.string).drop p)[j]? = some u) => (by rw [List.drop_of_length_le (by rw [List.length_map]; omega)] at hj; exact absurd hj (by simp) : W.cell? ((⟨g, 0, none⟩ : Addr).add j) = some u))
              go_wp2_with fail
              go_quiet (fail)
              have hq := below_drewN hb2 nq
              (go_wp2_with (first | (at_builtin; refine wpList_append_own _ rfl _ _ _ (by rfl) wo.heap.size 9 i0 _ 1 16 Tryz.underlying46 HI.out.1 HI.out.2.1 HI.out.2.2.1 HI.out.2.2.2 rfl (by decide) (.slice none 0 0) 0 [] (by rfl) (World.ownsRow_nil _ _ _ _) ⟨g, 0, none⟩ p p ((out.take p).map Value.string) (by rfl) (by rw [List.length_map, List.length_take]; omega) (HCP.out _ hq) (one_str _) (by unfold maxLen; omega) (by omega) (HF.out _ hq).2.2.2 ?_; intro v1 w1 o1 g1 _; rw [Nat.zero_add, List.nil_append] at o1; have q1 := hq.grown g1 (HF.out _ hq).2.2.2 (by intro k e; cases e); obtain ⟨s0, s1, s2, s3⟩ := HF.out _ q1; clear s2) | (at_builtin; refine wpList_append_two rfl _ _ _ (by rfl) wo.heap.size 9 i0 _ 1 16 Tryz.underlying46 HI.out.1 HI.out.2.1 HI.out.2.2.1 HI.out.2.2.2 rfl (by decide) (by decide) v1 p _ (by rfl) w1 o1 _ _ rfl (by rfl) (by rfl) (by simp [Value.oneCell']) (by omega) s3 ?_; intro g2 cap2 w2 hA; have q2 := app_below q1 o1 (Nat.le_refl _) s3 hA; obtain ⟨r0, r1, r2, r3⟩ := HF.out _ q2; have HR2 := Lib.hid r2; clear r2) | (at_builtin; refine wpList_append_own _ rfl _ _ _ (by rfl) wo.heap.size 9 i0 _ 1 16 Tryz.underlying46 HI.out.1 HI.out.2.1 HI.out.2.2.1 HI.out.2.2.2 rfl (by decide) (.slice (some ⟨g2, 0, none⟩) (p + 1) cap2) (p + 1) _ (by rfl) hA.own _ (0) (0) ((out.drop p).map Value.string) (by rfl) (by rw [List.length_map, List.length_drop]; omega) (by rw [List.map_drop]; exact HCD.out _ HR2.out) (one_str _) (by unfold maxLen; omega) (by omega) r3 ?_; intro v3 w3 o3 g3 _; have q3 := q2.grown g3 r3 (fun k e => by have := (hA.own.lt k e).1; omega))))
              refine ⟨⟨p + 1, by omega, by go_num, ?_, hb.trans (q3.mono hbz)⟩, by show S.fs.length - ((p : Int) + 1).toNat < S.fs.length - ((p : Int)).toNat; omega⟩
              rw [HT.out]
              unfold insN
              rw [HP.out]
              simpa using own_mono o3 hbz
            · have HCD := Lib.hid (fun (W : World) (ho : W.ownsRow w.heap.size 9 1 (.slice (some ⟨g, 0, none⟩) p cap) p (out.map Value.string)) => own_cells_from ho p)
              go_wp2_with fail
              go_quiet (fail)
              have hq := below_drewN hb2 nq
              (go_wp2_with (first | (at_builtin; refine wpList_append_own _ rfl _ _ _ (by rfl) wo.heap.size 9 i0 _ 1 16 Tryz.underlying46 HI.out.1 HI.out.2.1 HI.out.2.2.1 HI.out.2.2.2 rfl (by decide) (.slice none 0 0) 0 [] (by rfl) (World.ownsRow_nil _ _ _ _) ⟨g, 0, none⟩ p cap ((out.take p).map Value.string) (by rfl) (by rw [List.length_map, List.length_take]; omega) (HCP.out _ hq) (one_str _) (by unfold maxLen; omega) (by omega) (HF.out _ hq).2.2.2 ?_; intro v1 w1 o1 g1 _; rw [Nat.zero_add, List.nil_append] at o1; have q1 := hq.grown g1 (HF.out _ hq).2.2.2 (by intro k e; cases e); obtain ⟨s0, s1, s2, s3⟩ := HF.out _ q1; clear s2) | (at_builtin; refine wpList_append_two rfl _ _ _ (by rfl) wo.heap.size 9 i0 _ 1 16 Tryz.underlying46 HI.out.1 HI.out.2.1 HI.out.2.2.1 HI.out.2.2.2 rfl (by decide) (by decide) v1 p _ (by rfl) w1 o1 _ _ rfl (by rfl) (by rfl) (by simp [Value.oneCell']) (by omega) s3 ?_; intro g2 cap2 w2 hA; have q2 := app_below q1 o1 (Nat.le_refl _) s3 hA; obtain ⟨r0, r1, r2, r3⟩ := HF.out _ q2; have HR2 := Lib.hid r2; clear r2) | (at_builtin; refine wpList_append_own _ rfl _ _ _ (by rfl) wo.heap.size 9 i0 _ 1 16 Tryz.underlying46 HI.out.1 HI.out.2.1 HI.out.2.2.1 HI.out.2.2.2 rfl (by decide) (.slice (some ⟨g2, 0, none⟩) (p + 1) cap2) (p + 1) _ (by rfl) hA.own _ (0) (cap - p) ((out.drop p).map Value.string) (by rfl) (by rw [List.length_map, List.length_drop]; omega) (by rw [List.map_drop]; exact HCD.out _ HR2.out) (one_str _) (by unfold maxLen; omega) (by omega) r3 ?_; intro v3 w3 o3 g3 _; have q3 := q2.grown g3 r3 (fun k e => by have := (hA.own.lt k e).1; omega))))
              refine ⟨⟨p + 1, by omega, by go_num, ?_, hb.trans (q3.mono hbz)⟩, by show S.fs.length - ((p : Int) + 1).toNat < S.fs.length - ((p : Int)).toNat; omega⟩
              rw [HT.out]
              unfold insN
              rw [HP.out]
              simpa using own_mono o3 hbz
    · obtain rfl : k = S.fs.length := by omega
      have ho := HO.out
      rw [List.take_length] at ho
      obtain ⟨A', c', rfl⟩ := bx_shape ho
      go_wp2_with fail
      go_ret
      exact ⟨A', c', rfl, ho, hb⟩
set_option maxRecDepth 100000 in
theorem ref1_SameTexts (A1 A2 : Option Addr) (c1 c2 : Nat) (l1 l2 : List ByteArray) (h1 : l1.length ≤ 1000) (h2 : l2.length ≤ 1000) (heq : l1 = l2) (w : World) (r1 : Rd w w.heap.size A1 (l1.map Value.string)) (r2 : Rd w w.heap.size A2 (l2.map Value.string)) :
    Calls Tryz.prog 18 #[.slice A1 l1.length c1, .slice A2 l2.length c2] w fun e w' => e = .returned (.bool true) ∧ Below w.heap.size w w' := by
  subst heq
  have R1 := Lib.hid r1
  have R2 := Lib.hid r2
  clear r1 r2
  go_enter Tryz.func18, Tryz.ntmps18
  go_wp2_with fail
  go_loopw [5] (fun vi wr => ∃ k : Nat, k ≤ l1.length ∧ vi = .int .i64 k ∧ Below w.heap.size w wr) (fun vi _ => l1.length - (intOf vi).toNat)
  case atStart => exact ⟨0, by omega, rfl, Below.refl _ _⟩
  case round =>
    obtain ⟨k, hk, rfl, hb⟩ := hrel
    by_cases hlt : k < l1.length
    · obtain ⟨f, hk'⟩ : ∃ f, l1[k]? = some f := ⟨l1[k], List.getElem?_eq_getElem hlt⟩
      have hm : (l1.map Value.string)[k]? = some (.string f) := by rw [List.getElem?_map, hk']; rfl
      obtain ⟨a1, rfl, b1, z1⟩ := (R1.out.below hb) k _ hm
      obtain ⟨a2, rfl, b2, z2⟩ := (R2.out.below hb) k _ hm
      have hi1 : (k : Int) < (l1.length : Int) := by omega
      clear hk' hm
      go_wp2_with fail
      go_quiet (fail)
      go_wp2_with fail
      refine ⟨⟨k + 1, by omega, by go_num, ?_⟩, by show l1.length - ((k : Int) + 1).toNat < l1.length - ((k : Int)).toNat; omega⟩
      (repeat (first | assumption | exact Below.refl _ _ | refine below_step (by assumption) ?_ | refine below_alloc' _ ?_ | refine below_drewN ?_ _ | refine Below.drew ?_))
    · have hi1 : ¬ (k : Int) < (l1.length : Int) := by omega
      go_wp2_with fail
      go_ret
      exact ⟨rfl, hb⟩
end Go.Proofs.YtabccphcoojbjaaGreatDoor

namespace Go.Proofs.YtabccphcoojbjaaGreatDoor
open Go.ChangeShapes Go.WideShapes Go.ChangeAt Go.RowKit Go.Deep DiskP


structure OkX (S : DS) : Prop where
  many : S.fs.length ≤ 64
  sure : ∀ f ∈ S.fs, f.su ≤ f.all.size
  full : (used S.fs : Int) ≤ S.room
  room : 0 ≤ S.room ∧ S.room ≤ 9223372036854775807
  size : used S.fs ≤ 100000000
  fuse : -1 ≤ S.fuse ∧ S.fuse ≤ 9223372036854775807
  ops : 0 ≤ S.ops ∧ S.ops ≤ 1000000000
theorem row_some' {w : World} {base sz n c : Nat} {e : TypeId} {A : Option Addr} {xs : List Value} (h : w.ownsRow base e sz (.slice A n c) n xs) (hn : 0 < n) : ∃ g, A = some ⟨g, 0, none⟩ ∧ base ≤ g ∧ g < w.heap.size := by
  rcases h.2 with ⟨e1, e2⟩ | ⟨g, cap, cur, e1, hb, hg, _⟩
  · omega
  · exact ⟨g, (by simpa using e1 : A = some ⟨g, 0, none⟩ ∧ c = cap).1, hb, bx_lt hg⟩
theorem Rk.set_file {x g c : Nat} {S : DS} {w : World} (h : Rk x (some ⟨g, 0, none⟩) c S w) {k : Nat} {f f' : Fl} {r : Nat} {u : Value} (hk : S.fs[k]? = some f) (hr : r < 3) (hf : fC f' = (fC f).set r u) :
    Rk x (some ⟨g, 0, none⟩) c { S with fs := S.fs.set k f' } (w.setCell ⟨g, k * 3 + r, none⟩ u) ∧ TKeep 84 x w (w.setCell ⟨g, k * 3 + r, none⟩ u) := by
  obtain ⟨h1, h2⟩ := h.row.stored (k * 3 + r) u
  have hgd := (h.row.lt g rfl).1
  refine ⟨⟨?_, ?_⟩, TKeep.grown h.row h2 (Nat.le_of_lt h.lt)⟩
  · have := (h2.block x h.lt (by simp; omega)).trans h.box
    simpa using this
  · rw [fC_set _ k f f' r u hk hr hf] at h1
    simpa using h1
def putX (L : List Fl) (nm s : ByteArray) : List Fl := match L[fnd L nm]? with
  | some f => L.set (fnd L nm) { f with all := f.all ++ s }
  | none => L ++ [⟨nm, ⟨#[]⟩ ++ s, 0⟩]
def appendX (S : DS) (nm s : ByteArray) : DS × Int :=
  if S.on = false then (S, 9) else if namedD nm = false then (S, 1)
  else if S.room - (used S.fs : Int) < (s.size : Int) ∨ (¬ fnd S.fs nm < S.fs.length ∧ 64 ≤ S.fs.length) then (S, 5)
  else begun { S with fs := putX S.fs nm s }
/-- a file is put behind the others -/
theorem app_facts {x c : Nat} {A : Option Addr} {S : DS} {u w4 : World} {f : Fl} {g4 c4 : Nat} (hd : Rk x A c S u)
    (hA : Appended2 (x + 1) 84 3 u (.slice A S.fs.length c) S.fs.length (S.fs.flatMap fC) #[.string f.nm, .string f.all, .int .i64 (f.su : Int)] g4 c4 w4) :
    w4.cell? ⟨x, 0, none⟩ = some (.slice A S.fs.length c) ∧ w4.frozen? ⟨x, 0, none⟩ = false ∧ Rk x (some ⟨g4, 0, none⟩) c4 { S with fs := S.fs ++ [f] } (w4.setCell ⟨x, 0, none⟩ (.slice (some ⟨g4, 0, none⟩) (S.fs.length + 1) c4)) ∧ TKeep 84 x u (w4.setCell ⟨x, 0, none⟩ (.slice (some ⟨g4, 0, none⟩) (S.fs.length + 1) c4)) := by
  have hne : some x ≠ Value.ownBlock (.slice A S.fs.length c) := fun e => by have := (hd.row.lt x e.symm).1; omega
  have hb : w4.heap[x]? = some (.cells #[.slice A S.fs.length c, .int .i64 S.room, .bool S.on, .int .i64 S.fuse, .int .i64 S.ops] 42 (0, 0)) := (hA.gb.block x hd.lt hne).trans hd.box
  have hl : (S.fs ++ [f]).length = S.fs.length + 1 := by simp
  refine ⟨bx_cells hb 0, bx_free hb 0, ⟨?_, ?_⟩, (TKeep.grown hd.row hA.gb (Nat.le_of_lt hd.lt)).trans (TKeep.set _)⟩
  · rw [hl]; simpa using bx_set hb 0 (.slice (some ⟨g4, 0, none⟩) (S.fs.length + 1) c4)
  · have := dk_row_other (j := 0) hA.own (.slice (some ⟨g4, 0, none⟩) (S.fs.length + 1) c4)
    simp only [hl]
    simpa [fC] using this
theorem info_rfile : (Tryz.prog.info? 84).map (fun i => (i.zero, i.size, i.bytes)) = some (some (.agg #[.string ⟨#[]⟩, .string ⟨#[]⟩, .int .i64 0]), 3, 40) := by kernel_rfl
set_option maxRecDepth 100000 in
set_option maxHeartbeats 4000000 in
theorem ref7_Append (x : Nat) (A : Option Addr) (c : Nat) (S : DS) (hS : OkX S) (nm s : ByteArray) (hnm : nm.size ≤ 1000) (hs : s.size ≤ 1000000) (w : World) (h : Rk x A c S w) :
    Calls Tryz.prog 13 #[.pointer (some ⟨x, 0, none⟩), .string nm, .string s] w (RPost x (appendX S nm s).1 (.int .i64 (appendX S nm s).2) w) := by
  have hl : S.fs.length ≤ 1000 := by have := hS.many; omega
  have hmany := hS.many
  have HF := Lib.hid (ref7_Find x A c S nm hl w h)
  have HN := Lib.hid (ref7_name nm (by unfold maxLen; omega) w)
  have x2 := bx_cells h.box 2
  have x1 := bx_cells h.box 1
  have x0 := bx_cells h.box 0
  have hlt := h.lt
  cases hon : S.on with
  | false =>
    have he : appendX S nm s = (S, 9) := by unfold appendX; rw [if_pos hon]
    rw [he]
    rw [hon] at x2
    go_enter Tryz.func13, Tryz.ntmps13
    go_wp2_with (go_at_call 44; (with_reducible refine (HF.out).mono ?_); rintro e w1 ⟨rfl, rfl⟩)
    go_ret
    exact ⟨rfl, A, c, h, TKeep.refl _ _ _⟩
  | true =>
    rw [hon] at x2
    cases hn : namedD nm with
    | false =>
      have he : appendX S nm s = (S, 1) := by unfold appendX; rw [if_neg (by simp [hon]), if_pos hn]
      rw [he]
      rw [hn] at HN
      go_enter Tryz.func13, Tryz.ntmps13
      go_wp2_with (first
        | (go_at_call 44; (with_reducible refine (HF.out).mono ?_); rintro e w1 ⟨rfl, rfl⟩)
        | (go_at_call 45; (with_reducible refine (HN.out).mono ?_); rintro e w1 ⟨rfl, rfl⟩))
      go_ret
      exact ⟨rfl, A, c, h, TKeep.refl _ _ _⟩
    | true =>
      rw [hn] at HN
      have hU := hS.size
      have hroom := hS.room
      have hfull := hS.full
      have HFO := Lib.hid (And.intro hS.fuse hS.ops)
      have HUS := Lib.hid (fun (n : Nat) => ref7_Used x A c S hl (by omega) (w.drewN n) ⟨h.box, h.row⟩)
      have HD := Lib.hid h
      have HON := Lib.hid hon
      by_cases hc : S.room - (used S.fs : Int) < (s.size : Int)
      · have he : appendX S nm s = (S, 5) := by unfold appendX; rw [if_neg (by simp [hon]), if_neg (by simp [hn]), if_pos (.inl hc)]
        rw [he]
        clear he hS h hon hn
        generalize hUU : used S.fs = U at HUS hc hfull hU
        have hdec : decide (S.room - (U : Int) < (s.size : Int)) = true := decide_eq_true hc
        go_enter Tryz.func13, Tryz.ntmps13
        go_wp2_with (first
          | (go_at_call 44; (with_reducible refine (HF.out).mono ?_); rintro e w1 ⟨rfl, rfl⟩)
          | (go_at_call 45; (with_reducible refine (HN.out).mono ?_); rintro e w1 ⟨rfl, rfl⟩))
        go_quiet ((go_at_call 46; exact quiet_left (HUS.out _)))
        go_wp2_with fail
        go_ret
        exact ⟨rfl, A, c, ⟨HD.out.box, HD.out.row⟩, TKeep.of_below (below_drewN (Below.refl _ w) nq) (Nat.le_of_lt hlt)⟩
      · have hdec : decide (S.room - (used S.fs : Int) < (s.size : Int)) = false := decide_eq_false hc
        by_cases hp : fnd S.fs nm < S.fs.length
        · obtain ⟨f, hf⟩ : ∃ f, S.fs[fnd S.fs nm]? = some f := ⟨S.fs[fnd S.fs nm], List.getElem?_eq_getElem hp⟩
          have he : appendX S nm s = begun { S with fs := S.fs.set (fnd S.fs nm) { f with all := f.all ++ s } } := by
            unfold appendX; rw [if_neg (by simp [hon]), if_neg (by simp [hn]), if_neg (by rintro (h1 | ⟨h1, _⟩); exact hc h1; exact h1 hp)]; unfold putX; rw [hf]
          rw [he]
          have hfi : fndI S.fs nm = ((fnd S.fs nm : Nat) : Int) := by unfold fndI; rw [if_pos hp]
          rw [hfi] at HF
          obtain ⟨p, hpp⟩ : ∃ p, fnd S.fs nm = p := ⟨_, rfl⟩
          rw [hpp] at HF hf hp ⊢
          have hfsz := used_mem hf
          obtain ⟨g, rfl, hxg, hgl⟩ := row_some' h.row (by omega)
          have HD2 := Lib.hid (fun n => (⟨HD.out.box, HD.out.row⟩ : Rk x (some ⟨g, 0, none⟩) c S (w.drewN n)))
          have HP := Lib.hid (fun (W : World) (hd : Rk x (some ⟨g, 0, none⟩) c S W) => hd.row.cells (g := g) rfl (p * 3 + 1) (.string f.all) (by rw [fC_at _ p f hf 1 (by omega)]; rfl))
          have HST := Lib.hid (fun (W : World) (hd : Rk x (some ⟨g, 0, none⟩) c S W) => hd.set_file (k := p) (f' := { f with all := f.all ++ s }) (r := 1) (u := .string (f.all ++ s)) hf (by omega) rfl)
          have HOP := Lib.hid (fun (W : World) (hd : Rk x (some ⟨g, 0, none⟩) c { S with fs := S.fs.set p { f with all := f.all ++ s } } W) => ref7_crashes x _ c { S with fs := S.fs.set p { f with all := f.all ++ s } } HON.out HFO.out.1 HFO.out.2 W hd)
          unfold begun
          obtain ⟨B1, B2, hB⟩ : ∃ B1 B2, blow { S with fs := S.fs.set p { f with all := f.all ++ s } } = (B1, B2) := ⟨_, _, rfl⟩
          rw [hB] at HOP ⊢
          simp only at HOP ⊢
          obtain ⟨v, hv⟩ : ∃ v : Int, (if B2 = true then 9 else 0) = v := ⟨_, rfl⟩
          rw [hv]
          have HV := Lib.hid hv
          clear hv he hS h hon hn hfi hpp hf hc hB
          generalize hUU : used S.fs = U at HUS hdec hfull hU hfsz
          have hi1 : (p : Int) < (S.fs.length : Int) := by omega
          have hwr : IntKind.i64.wrap (S.room - (U : Int)) = S.room - (U : Int) := by rw [IntKind.wrap_i64]; omega
          go_enter Tryz.func13, Tryz.ntmps13
          go_wp2_with (first
            | (go_at_call 44; (with_reducible refine (HF.out).mono ?_); rintro e w1 ⟨rfl, rfl⟩)
            | (go_at_call 45; (with_reducible refine (HN.out).mono ?_); rintro e w1 ⟨rfl, rfl⟩))
          go_quiet ((go_at_call 46; exact quiet_left (HUS.out _)))
          have hdu := HD2.out nq
          have hk0 := TKeep.of_below (T := 84) (d := x) (below_drewN (Below.refl _ w) nq) (Nat.le_of_lt hlt)
          generalize w.drewN nq = W at hdu hk0 ⊢
          have z0 := bx_cells hdu.box 0
          have z1 := HP.out _ hdu
          rw [fl_add_0] at z1
          have z2 := hdu.row.frozenAt (p * 3 + 1)
          go_wp2_with fail
          refine wp_region_quiet_tail 17 (by kernel_rfl) (by kernel_rfl) ?_
          simp only [List.take_succ_cons, List.take_zero, List.drop_succ_cons, List.drop_zero]
          repeat (go_big_quiet_step (fail))
          refine wpQuiet_nil ?_
          rintro _ ⟨n2, rfl⟩
          have hdu2 : Rk x (some ⟨g, 0, none⟩) c S (W.drewN n2) := ⟨hdu.box, hdu.row⟩
          have hk1 := hk0.trans (TKeep.of_below (T := 84) (d := x) (below_drewN (Below.refl _ W) n2) (Nat.le_of_lt hdu.lt))
          obtain ⟨hd5, hk5⟩ := HST.out _ hdu2
          have HOP5 := Lib.hid (HOP.out _ hd5)
          have hk6 := hk1.trans hk5
          cases B2 with
          | true =>
            go_wp2_with (go_at_call 47; refine (HOP5.out).mono ?_; rintro e w6 ⟨rfl, hd6, hk7⟩)
            go_ret
            exact ⟨by rw [← HV.out]; rfl, _, _, hd6, hk6.trans hk7⟩
          | false =>
            go_wp2_with (go_at_call 47; refine (HOP5.out).mono ?_; rintro e w6 ⟨rfl, hd6, hk7⟩)
            go_ret
            exact ⟨by rw [← HV.out]; rfl, _, _, hd6, hk6.trans hk7⟩
        · have hfi : fndI S.fs nm = -1 := by unfold fndI; rw [if_neg hp]
          rw [hfi] at HF
          by_cases h64 : 64 ≤ S.fs.length
          · have he : appendX S nm s = (S, 5) := by unfold appendX; rw [if_neg (by simp [hon]), if_neg (by simp [hn]), if_pos (.inr ⟨hp, h64⟩)]
            rw [he]
            have hdec2 : decide ((64 : Int) ≤ (S.fs.length : Int)) = true := by rw [decide_eq_true_eq]; omega
            clear he hS h hon hn hfi hp hc
            generalize hUU : used S.fs = U at HUS hdec hfull hU
            go_enter Tryz.func13, Tryz.ntmps13
            go_wp2_with (first
              | (go_at_call 44; (with_reducible refine (HF.out).mono ?_); rintro e w1 ⟨rfl, rfl⟩)
              | (go_at_call 45; (with_reducible refine (HN.out).mono ?_); rintro e w1 ⟨rfl, rfl⟩))
            go_quiet ((go_at_call 46; exact quiet_left (HUS.out _)))
            go_wp2_with fail
            go_ret
            exact ⟨rfl, A, c, ⟨HD.out.box, HD.out.row⟩, TKeep.of_below (below_drewN (Below.refl _ w) nq) (Nat.le_of_lt hlt)⟩
          · have he : appendX S nm s = begun { S with fs := S.fs ++ [⟨nm, ⟨#[]⟩ ++ s, 0⟩] } := by
              unfold appendX; rw [if_neg (by simp [hon]), if_neg (by simp [hn]), if_neg (by rintro (h1 | ⟨_, h1⟩); exact hc h1; exact h64 h1)]; unfold putX; rw [List.getElem?_eq_none (by omega)]
            rw [he]
            have hdec2 : decide ((64 : Int) ≤ (S.fs.length : Int)) = false := by rw [decide_eq_false_iff_not]; omega
            obtain ⟨i0, hi, hz0, hz1, hz2⟩ := info_parts' info_rfile
            have HI := Lib.hid (And.intro hi (And.intro hz0 (And.intro hz1 hz2)))
            obtain ⟨q, hq⟩ : ∃ q, S.fs.length = q := ⟨_, rfl⟩
            obtain ⟨I, hI⟩ : ∃ I, S.fs ++ [⟨nm, ⟨#[]⟩, 0⟩] = I := ⟨_, rfl⟩
            have hIl : I.length = q + 1 := by rw [← hI]; simp [hq]
            have hIa : I[q]? = some ⟨nm, ⟨#[]⟩, 0⟩ := by rw [← hI, ← hq]; simp
            have hIs : S.fs ++ [⟨nm, ⟨#[]⟩ ++ s, 0⟩] = I.set q ⟨nm, ⟨#[]⟩ ++ s, 0⟩ := by rw [← hI, ← hq]; simp
            rw [hIs]
            have HFACT := Lib.hid (fun (W w4 : World) (g4 c4 : Nat) (hd : Rk x A c S W) hA => app_facts (f := ⟨nm, ⟨#[]⟩, 0⟩) (w4 := w4) (g4 := g4) (c4 := c4) hd hA)
            rw [hI] at HFACT
            have HP := Lib.hid (fun (W : World) (g c4 : Nat) (hd : Rk x (some ⟨g, 0, none⟩) c4 { S with fs := I } W) => hd.row.cells (g := g) rfl (q * 3 + 1) (.string ⟨#[]⟩) (by rw [fC_at _ q _ hIa 1 (by omega)]; rfl))
            have HST := Lib.hid (fun (W : World) (g c4 : Nat) (hd : Rk x (some ⟨g, 0, none⟩) c4 { S with fs := I } W) => hd.set_file (k := q) (f' := ⟨nm, ⟨#[]⟩ ++ s, 0⟩) (r := 1) (u := .string (⟨#[]⟩ ++ s)) hIa (by omega) rfl)
            have HOP := Lib.hid (fun (W : World) (g c4 : Nat) (hd : Rk x (some ⟨g, 0, none⟩) c4 { S with fs := I.set q ⟨nm, ⟨#[]⟩ ++ s, 0⟩ } W) => ref7_crashes x _ c4 { S with fs := I.set q ⟨nm, ⟨#[]⟩ ++ s, 0⟩ } HON.out HFO.out.1 HFO.out.2 W hd)
            have HD2 := Lib.hid (fun n => (⟨HD.out.box, HD.out.row⟩ : Rk x A c S (w.drewN n)))
            unfold begun
            obtain ⟨B1, B2, hB⟩ : ∃ B1 B2, blow { S with fs := I.set q ⟨nm, ⟨#[]⟩ ++ s, 0⟩ } = (B1, B2) := ⟨_, _, rfl⟩
            rw [hB] at HOP ⊢
            simp only at HOP ⊢
            obtain ⟨v, hv⟩ : ∃ v : Int, (if B2 = true then 9 else 0) = v := ⟨_, rfl⟩
            rw [hv]
            have HV := Lib.hid hv
            clear hv
            rw [hq] at x0 hdec2 HFACT
            have HIL := Lib.hid hIl
            have hql : q ≤ 64 := by omega
            have HQ := Lib.hid hq
            clear he hS h hon hn hfi hp hc hB hI hIa hIs hIl hi hz0 hz1 hz2
            generalize hUU : used S.fs = U at HUS hdec hfull hU
            go_enter Tryz.func13, Tryz.ntmps13
            go_wp2_with (first
              | (go_at_call 44; (with_reducible refine (HF.out).mono ?_); rintro e w1 ⟨rfl, rfl⟩)
              | (go_at_call 45; (with_reducible refine (HN.out).mono ?_); rintro e w1 ⟨rfl, rfl⟩))
            go_quiet ((go_at_call 46; exact quiet_left (HUS.out _)))
            have hdu := HD2.out nq
            have hk0 := TKeep.of_below (T := 84) (d := x) (below_drewN (Below.refl _ w) nq) (Nat.le_of_lt hlt)
            generalize w.drewN nq = W at hdu hk0 ⊢
            have z0 := bx_cells hdu.box 0
            have hWl := hdu.lt
            have HROW := Lib.hid hdu.row
            have HFA := Lib.hid (fun w4 g4 c4 => HFACT.out W w4 g4 c4 hdu)
            rw [HQ.out] at z0 HROW
            clear hq
            go_wp2_with (at_builtin; refine wpList_append_two rfl _ _ _ (by rfl) (x + 1) 84 i0 _ 3 40 Tryz.underlying40 HI.out.1 HI.out.2.1 HI.out.2.2.1 HI.out.2.2.2 rfl (by decide) (by decide) (.slice A q c) q _ (by rfl) W HROW.out _ _ rfl (by rfl) (by rfl) (by simp [Value.oneCell']) (by omega) (by omega) ?_; intro g4 c4 w4 hA; obtain ⟨y0, y1, hd5, hk5⟩ := HFA.out w4 g4 c4 hA; have hk6 := hk0.trans hk5; have v0 := bx_cells hd5.box 0; have v1 := HP.out _ _ _ hd5; rw [fl_add_0] at v1; have v2 := hd5.row.frozenAt (q * 3 + 1); have HD5 := Lib.hid hd5; simp only [HIL.out] at v0; clear hd5)
            have hi1 : (q : Int) < (q : Int) + 1 := by omega
            generalize w4.setCell ⟨x, 0, none⟩ (.slice (some ⟨g4, 0, none⟩) (q + 1) c4) = W5 at hk6 v0 v1 v2 HD5 ⊢
            refine wp_region_quiet_tail 17 (by kernel_rfl) (by kernel_rfl) ?_
            simp only [List.take_succ_cons, List.take_zero, List.drop_succ_cons, List.drop_zero]
            repeat (go_big_quiet_step (fail))
            refine wpQuiet_nil ?_
            rintro _ ⟨n2, rfl⟩
            have hdu2 : Rk x (some ⟨g4, 0, none⟩) c4 { S with fs := I } (W5.drewN n2) := ⟨HD5.out.box, HD5.out.row⟩
            have hk7 := hk6.trans (TKeep.of_below (T := 84) (d := x) (below_drewN (Below.refl _ W5) n2) (Nat.le_of_lt HD5.out.lt))
            obtain ⟨hd8, hk8⟩ := HST.out _ _ _ hdu2
            have HOP8 := Lib.hid (HOP.out _ _ _ hd8)
            have hk9 := hk7.trans hk8
            cases B2 with
            | true =>
              go_wp2_with (go_at_call 47; refine (HOP8.out).mono ?_; rintro e w6 ⟨rfl, hd6, hkA⟩)
              go_ret
              exact ⟨by rw [← HV.out]; rfl, _, _, hd6, hk9.trans hkA⟩
            | false =>
              go_wp2_with (go_at_call 47; refine (HOP8.out).mono ?_; rintro e w6 ⟨rfl, hd6, hkA⟩)
              go_ret
              exact ⟨by rw [← HV.out]; rfl, _, _, hd6, hk9.trans hkA⟩
end Go.Proofs.YtabccphcoojbjaaGreatDoor

namespace Go.Proofs.YtabccphcoojbjaaGreatDoor
open Go.ChangeShapes Go.WideShapes Go.ChangeAt Go.RowKit Go.Deep DiskP


def outX (L : List Fl) (nm : ByteArray) : List Fl := L.filter fun f => decide (f.nm ≠ nm)
theorem outX_len (L : List Fl) (nm : ByteArray) : (outX L nm).length ≤ L.length := List.length_filter_le _ _
theorem outX_snoc (L : List Fl) (nm : ByteArray) (f : Fl) : outX (L ++ [f]) nm = if f.nm = nm then outX L nm else outX L nm ++ [f] := by
  unfold outX
  rw [List.filter_append]
  split
  · rename_i h; simp [h]
  · rename_i h; simp [h]

set_option maxRecDepth 100000 in
set_option maxHeartbeats 4000000 in
theorem ref7_without' (x : Nat) (A : Option Addr) (c : Nat) (S : DS) (hl : S.fs.length ≤ 1000) (nm : ByteArray) (w : World) (h : Rk x A c S w) :
    Calls Tryz.prog 86 #[.pointer (some ⟨x, 0, none⟩), .string nm] w fun e w' => e = .returned (.tuple #[]) ∧ ∃ A' c', Rk x A' c' { S with fs := outX S.fs nm } w' ∧ RKeep x none w w' ∧ ∀ g, Value.ownBlock (.slice A' (outX S.fs nm).length c') = some g → w.heap.size ≤ g := by
  have hsz := h.lt
  have x0 := bx_cells h.box 0
  have HR := Lib.hid (RdFl_own h.row)
  have HX := Lib.hid h.box
  have HT0 := Lib.hid h
  clear h
  obtain ⟨i0, hi, hz0, hz1, hz2⟩ := info_parts' info_rfile
  have HI := Lib.hid (And.intro hi (And.intro hz0 (And.intro hz1 hz2)))
  clear hi hz0 hz1 hz2
  have HCELL := Lib.hid (fun (W : World) (hb : Below w.heap.size w W) => bx_kept HX.out hb)
  go_enter Tryz.func86, Tryz.ntmps86
  go_wp2_with fail
  go_loopw [4, 5] (fun vn i wr => ∃ k : Nat, k ≤ S.fs.length ∧ i = .int .i64 k ∧ wr.ownsRow w.heap.size 84 3 vn (outX (S.fs.take k) nm).length ((outX (S.fs.take k) nm).flatMap fC) ∧ Below w.heap.size w wr) (fun _ i _ => S.fs.length - (intOf i).toNat)
  case atStart => exact ⟨0, by omega, rfl, World.ownsRow_nil _ _ _ _, Below.refl _ _⟩
  case round =>
    obtain ⟨k, hk, rfl, hown, hb⟩ := hrel
    have HO := Lib.hid hown
    have bx := HCELL.out _ hb
    have y0 := bx_cells bx 0
    have hbz := hb.size
    by_cases hlt : k < S.fs.length
    · obtain ⟨f, hk'⟩ : ∃ f, S.fs[k]? = some f := ⟨S.fs[k], List.getElem?_eq_getElem hlt⟩
      obtain ⟨ad, rfl, hadl, c0, c1, c2⟩ := HR.out.below hb k f hk'
      have HS := Lib.hid (fl_take hk')
      have hml : (outX (S.fs.take k) nm).length ≤ k := Nat.le_trans (outX_len (S.fs.take k) nm) (by rw [List.length_take]; omega)
      have hi1 : (k : Int) < (S.fs.length : Int) := by omega
      clear hk' hown bx
      obtain ⟨f1, f2, f3⟩ := f
      simp only at c0 c1 c2
      by_cases he : f1 = nm
      · subst he
        go_wp2_with fail
        refine ⟨⟨k + 1, by omega, by go_num, ?_, hb⟩, by show S.fs.length - ((k : Int) + 1).toNat < S.fs.length - ((k : Int)).toNat; omega⟩
        rw [HS.out, outX_snoc, if_pos rfl]
        exact HO.out
      · have he2 := str_ne he
        have HE := Lib.hid he
        clear he
        obtain ⟨M, hM⟩ : ∃ M, outX (S.fs.take k) nm = M := ⟨_, rfl⟩
        rw [hM] at HO hml
        have HM := Lib.hid hM
        clear hM
        go_wp2_with (at_builtin; refine wpList_append_two rfl _ _ _ (by rfl) w.heap.size 84 i0 _ 3 40 Tryz.underlying40 HI.out.1 HI.out.2.1 HI.out.2.2.1 HI.out.2.2.2 rfl (by decide) (by decide) _ _ _ (by rfl) wr HO.out _ _ rfl (by rfl) (by rfl) (by simp [Value.oneCell']) (by omega) hbz ?_; intro g1 cap1 w1 hA1; have b1 := hb.grown hA1.gb hbz (fun k e => (HO.out.lt k e).1))
        refine ⟨⟨k + 1, by omega, by go_num, ?_, b1⟩, by show S.fs.length - ((k : Int) + 1).toNat < S.fs.length - ((k : Int)).toNat; omega⟩
        rw [HS.out, outX_snoc, if_neg HE.out, HM.out]
        have := hA1.own
        have el : (M ++ [(⟨f1, f2, f3⟩ : Fl)]).length = M.length + 1 := by simp
        rw [el, List.flatMap_append]
        simpa [fC] using this
    · obtain rfl : k = S.fs.length := by omega
      rw [List.take_length] at hown HO
      obtain ⟨B1, d1, rfl⟩ := bx_shape hown
      have f0 := bx_free bx 0
      have HBX := Lib.hid (bx_set bx 0 (.slice B1 (outX S.fs nm).length d1))
      clear bx hown
      go_wp2_with fail
      go_end0
      refine ⟨rfl, B1, d1, ⟨by simpa using HBX.out, ?_⟩, (RKeep.of_below hb (by omega)).trans (rkeep_set _), fun g hg => (HO.out.lt g hg).1⟩
      exact own_mono (own_at HO.out fun g hg => by
          have := (HO.out.lt g hg).1
          rw [heap_setCell_other _ ⟨x, 0, none⟩ g _ (by show g ≠ x; omega)]) (by omega)
theorem TKeep.of_rkeep {T : TypeId} {d : Nat} {w w' : World} (h : RKeep d none w w') : TKeep T d w w' := ⟨h.below, fun b hb hs _ => h.others b hb hs (by simp)⟩
end Go.Proofs.YtabccphcoojbjaaGreatDoor
