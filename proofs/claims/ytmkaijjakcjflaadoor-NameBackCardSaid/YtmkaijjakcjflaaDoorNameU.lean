/- Names (layer 8): the program's Numbers. -/
import Derived.Test.YtmkaijjakcjflaaDoorNameT
namespace Go.Proofs.YtmkaijjakcjflaaDoor
open Go.ChangeShapes Go.WideShapes Go.ChangeAt Go.RowKit Go.Deep NameP

/-- what an append onto a row of the call's own leaves -/
structure Appended2 (base : Nat) (e : TypeId) (size : Nat) (W : World) (v : Value) (n : Nat) (xs : List Value) (cs : Array Value) (g cap : Nat) (w' : World) : Prop where
  own : w'.ownsRow base e size (.slice (some ⟨g, 0, none⟩) (n + 1) cap) (n + 1) (xs ++ cs.toList)
  gb : W.grownBy w' v.ownBlock
  fresh : v.ownBlock = some g ∨ W.heap.size ≤ g
  lt : g < w'.heap.size
theorem wpList_append_two {P : Program} {ops : Array Oper} {rest : List Oper} {o : Oper} {a : Act} {Q : Exit → Act → World → Prop} (hgd : o.guard = none) (s x : Operand) (t : TypeId)
    (ho : o.op = .call { callee := .builtin .append, args := #[s, x], argTypes := #[t, t] })
    (base : Nat) (e : TypeId) (i : TypeInfo) (z : Value) (size bytes : Nat) (ht : P.underlying t = some (.slice e)) (hi : P.info? e = some i) (hz : i.zero = some z)
    (hsize : i.size = size) (hby : i.bytes = bytes) (hzs : z.cells.size = size) (hsz : 0 < size) (hb200 : bytes ≤ 200)
    (v : Value) (n : Nat) (xs : List Value) (hs : a.eval s = v) (W : World) (hown : W.ownsRow base e size v n xs) (cs : Array Value) (H : Nat) (hH : W.heap.size = H) (hx : a.eval x = .slice (some ⟨H, 0, none⟩) 1 1)
    (hcs : cs.size = size) (h1 : ∀ u ∈ cs.toList, u.oneCell' = true) (hn : n < 100000000) (hbase : base ≤ W.heap.size)
    (h : ∀ g cap w', Appended2 base e size W v n xs cs g cap w' → wpList P ops Q rest (a.put o.dst (.slice (some ⟨g, 0, none⟩) (n + 1) cap)) w') :
    wpList P ops Q (o :: rest) a (W.alloc (.cells cs e)) := by
  subst hH
  refine wpList_append_lies (W.alloc (.cells cs e)) hgd s x t ho base e i z size bytes ht hi hz hsize hby hzs hsz v n xs hs (hown.alloc _) ⟨W.heap.size, 0, none⟩ 1 1 cs.toList hx
    (by simp [hcs]) (World.news_of_block (heap_alloc_new W _)) h1 (by omega) (by simp only [maxLen]; omega) ?_ (by simp; omega) (W.heap.size + 1) (by simp) ?_
  · have : (n + 1) * bytes ≤ 100000000 * 200 := Nat.mul_le_mul (by omega) hb200
    omega
  · intro g cap w' hown' hgrow hf hlt
    refine h g cap w' ⟨hown', ⟨hgrow.os, hgrow.tape, hgrow.output, by have := hgrow.size; rw [World.size_alloc] at this; omega, fun k hk hne => ?_⟩, ?_, hlt⟩
    · exact (hgrow.block k (by rw [World.size_alloc]; omega) hne).trans (heap_alloc_old W _ hk)
    · rcases hf with hf | hf
      · exact .inl hf
      · exact .inr (by omega)
theorem own_mono {w : World} {base base' n sz : Nat} {e : TypeId} {v : Value} {xs : List Value} (h : w.ownsRow base e sz v n xs) (hb : base' ≤ base) : w.ownsRow base' e sz v n xs := by
  refine ⟨h.1, ?_⟩
  rcases h.2 with hn | ⟨g, cap, cur, h1, h2, h3⟩
  · exact .inl hn
  · exact .inr ⟨g, cap, cur, h1, by omega, h3⟩
theorem app_below {B g cap n b0 : Nat} {v : Value} {xs : List Value} {e : TypeId} {w w1 W : World} {cs : Array Value} (hb : Below b0 W w) (h0 : w.ownsRow B e 1 v n xs) (hB : b0 ≤ B) (hs : b0 ≤ w.heap.size) (hA : Appended2 B e 1 w v n xs cs g cap w1) : Below b0 W w1 :=
  hb.grown hA.gb hs (fun k e => by have := (h0.lt k e).1; omega)
theorem row_slice {w : World} {base n sz : Nat} {e : TypeId} {v : Value} {xs : List Value} (h : w.ownsRow base e sz v n xs) : v = .slice none n 0 ∧ n = 0 ∨ ∃ g cap, v = .slice (some ⟨g, 0, none⟩) n cap ∧ n ≤ cap ∧ cap ≤ maxLen ∧ g < w.heap.size ∧ base ≤ g := by
  rcases h.2 with ⟨e1, e2⟩ | ⟨g, cap, cur, e1, hb, hg, h3, h4, _⟩
  · subst e2; exact .inl ⟨e1, rfl⟩
  · exact .inr ⟨g, cap, e1, h3, h4, (Array.getElem?_eq_some_iff.1 hg).1, hb⟩
/-- behind a sort -/
theorem sort_below {W w w1 : World} {B g q : Nat} {d : Array Int} {os : Array Obj} (h : Below B W w) (hg : B ≤ g) (hgl : g < w.heap.size) (hw : w1 = Sort.grow (Sort.putRow (Value.int .i64) (Sort.ahead w q) g 0 d) os) : Below B W w1 := by
  subst hw
  have h1 := Go.Lib.below_putRow (enc := Value.int .i64) (q := q) (d := d) h hg
  refine ⟨h1.os, h1.tape, h1.output, ?_, fun k hk => ?_⟩
  · rw [Sort.size_grow]; have := h1.size; omega
  · rw [← h1.block k hk]
    have h5 : k < (Sort.putRow (Value.int .i64) (Sort.ahead w q) g 0 d).heap.size := by
      have h4 : (Sort.putRow (Value.int .i64) (Sort.ahead w q) g 0 d).heap.size = w.heap.size := by simp [Sort.putRow, Sort.mapBlock, Sort.ahead]
      omega
    exact Sort.heap_grow_old _ _ h5
theorem grow_below2 (w : World) (os : Array Obj) : Below w.heap.size w (Sort.grow w os) := ⟨rfl, rfl, rfl, by rw [Sort.size_grow]; omega, fun j hj => Sort.heap_grow_old _ _ hj⟩

theorem info_int : (Tryd.prog.info? 3).map (fun i => (i.zero, i.size, i.bytes)) = some (some (.int .i64 0), 1, 8) := by kernel_rfl

set_option maxRecDepth 100000 in
set_option maxHeartbeats 4000000 in
theorem name_Numbers (kind : Int) (A : Option Addr) (c : Nat) (l : List ByteArray) (hl : l.length ≤ 40) (hs : ∀ s ∈ l, s.size ≤ 100) (w : World) (hr : Rd w w.heap.size A (l.map Value.string)) :
    Calls Tryd.prog 12 #[.int .i64 kind, .slice A l.length c] w fun e w' => ∃ A' c', e = .returned (.slice A' (numsX kind l).length c') ∧ Rd w' w'.heap.size A' ((numsX kind l).map (Value.int .i64)) ∧ Below w.heap.size w w' := by
  have HR := Lib.hid hr
  have HS := Lib.hid hs
  obtain ⟨i0, hi, hz0, hz1, hz2⟩ := info_parts' info_int
  have HI := Lib.hid (And.intro hi (And.intro hz0 (And.intro hz1 hz2)))
  have HK' : ∀ (s : ByteArray), s.size ≤ 100 → ∀ W : World, Calls Tryd.prog 7 #[.string s] W fun e w' => e = .returned (.tuple #[.int .i64 (kB s).1, .int .i64 (kB s).2]) ∧ Below W.heap.size W w' := fun s h W => name_KindB s (by omega) W
  have HK := Lib.hid HK'
  clear hr hs hi hz0 hz1 hz2 HK'
  go_enter Tryd.func12, Tryd.ntmps12
  go_wp2_with fail
  go_loopw [5, 12] (fun vo vi wr => ∃ k : Nat, k ≤ l.length ∧ vi = .int .i64 k ∧ wr.ownsRow w.heap.size 3 1 vo (numsA kind (l.take k)).length ((numsA kind (l.take k)).map (Value.int .i64)) ∧ Below w.heap.size w wr) (fun _ vi _ => l.length - (intOf vi).toNat)
  case atStart => exact ⟨0, by omega, rfl, World.ownsRow_nil _ _ _ _, Below.refl _ _⟩
  case round =>
    obtain ⟨k, hk, rfl, hown, hb⟩ := hrel
    have hbz := hb.size
    have hlen : (numsA kind (l.take k)).length ≤ 40 := by
      have := numsA_len kind (l.take k)
      rw [List.length_take] at this
      omega
    have HO := Lib.hid hown
    clear hown
    by_cases hlt : k < l.length
    · obtain ⟨f, hk'⟩ : ∃ f, l[k]? = some f := ⟨l[k], List.getElem?_eq_getElem hlt⟩
      have hm : (l.map Value.string)[k]? = some (.string f) := by rw [List.getElem?_map, hk']; rfl
      obtain ⟨a1, rfl, b1, z1⟩ := (HR.out.below hb) k _ hm
      have HF := Lib.hid (HK.out f (HS.out f (List.mem_of_getElem? hk')))
      have HT := Lib.hid (show numsA kind (l.take (k + 1)) = _ by rw [take_snoc l k f hk', numsA_snoc])
      have hi1 : (k : Int) < (l.length : Int) := by omega
      clear hk' hm
      generalize numsA kind (l.take k) = out at *
      by_cases hkk : (kB f).1 = kind
      · have hkb : ((kB f).1 == kind) = true := by simp [hkk]
        rw [if_pos hkk] at HT
        clear hkk
        generalize (kB f).1 = x1 at *
        generalize (kB f).2 = x2 at *
        go_wp2_with (first
          | (go_at_call 7; (with_reducible refine (HF.out _).mono ?_); rintro e w1 ⟨rfl, q1⟩; have HO1 := Lib.hid (own_below HO.out q1))
          | (at_builtin; refine wpList_append_two rfl _ _ _ (by rfl) w.heap.size 3 i0 _ 1 8 Tryd.underlying29 HI.out.1 HI.out.2.1 HI.out.2.2.1 HI.out.2.2.2 rfl (by decide) (by decide) _ _ _ (by rfl) w1 HO1.out _ _ rfl (by rfl) (by rfl) (by simp [Value.oneCell']) (by omega) (by have := q1.size; omega) ?_; intro g2 cap2 w2 hA; have q2 := app_below (below_step q1 hb) HO1.out (Nat.le_refl _) (by have := q1.size; omega) hA))
        refine ⟨⟨k + 1, by omega, by go_num, ?_, q2⟩, by show l.length - ((k : Int) + 1).toNat < l.length - ((k : Int)).toNat; omega⟩
        rw [HT.out, List.length_append, List.map_append]
        exact hA.own
      · have hkb : ((kB f).1 == kind) = false := by simp [hkk]
        rw [if_neg hkk] at HT
        clear hkk
        generalize (kB f).1 = x1 at *
        generalize (kB f).2 = x2 at *
        go_wp2_with (first
          | (go_at_call 7; (with_reducible refine (HF.out _).mono ?_); rintro e w1 ⟨rfl, q1⟩; have HO1 := Lib.hid (own_below HO.out q1)))
        refine ⟨⟨k + 1, by omega, by go_num, ?_, below_step q1 hb⟩, by show l.length - ((k : Int) + 1).toNat < l.length - ((k : Int)).toNat; omega⟩
        rw [HT.out]
        exact HO1.out
    · have hi1 : ¬ (k : Int) < (l.length : Int) := by omega
      have HL := Lib.hid (numsX_len kind l)
      have HM := Lib.hid (nums_same kind l)
      rw [List.take_of_length_le (by omega)] at HO hlen
      rcases row_slice HO.out with ⟨rfl, h0⟩ | ⟨g, cap, rfl, hc1, hc2, hgl, hgb⟩
      · have hnil : numsA kind l = [] := List.eq_nil_of_length_eq_zero h0
        rw [hnil] at HL HM
        have hx : numsX kind l = [] := by rw [← HM.out]; simp
        rw [h0]
        have HNX := Lib.hid hx
        clear hnil HL HM hx h0 HO
        have HSN' : ∀ W : World, Calls Tryd.prog 18 #[.slice none 0 0] W fun e w' => e = .returned (.tuple #[]) ∧ w' = W := fun W => Tryd.slices_Sort_int_none none 0 W
        have HSN := Lib.hid HSN'
        clear HSN'
        go_wp2_with (go_at_call 18; (with_reducible refine (HSN.out _).mono ?_); rintro e w1 ⟨rfl, rfl⟩)
        go_ret
        exact ⟨none, 0, by rw [HNX.out]; rfl, by rw [HNX.out]; exact Rd.nil, hb⟩
      · have HSORT : Calls Tryd.prog 18 #[.slice (some ⟨g, 0, none⟩) (numsA kind l).length cap] wr fun e w' => e = .returned (.tuple #[]) ∧ Rd w' w'.heap.size (some ⟨g, 0, none⟩) ((numsX kind l).map (Value.int .i64)) ∧ Below w.heap.size w w' := by
          obtain ⟨g', cap', e1, _, _, _, _, hz, hH⟩ := Go.Lib.holds_of_ownsRow HO.out (by simp)
          obtain rfl : g = g' := by injection e1 with e2; injection e2 with e2; injection e2
          refine (Tryd.slices_Sort_int g 0 cap (numsA kind l) wr hH hgl (by omega)).mono ?_
          rintro e w' ⟨rfl, n, os, hw⟩
          refine ⟨rfl, ?_, sort_below hb hgb hgl hw⟩
          subst hw
          have own := Go.Lib.ownsRow_putRow (q := n) (k := (numsA kind l).length) HO.out (ys := (numsA kind l).mergeSort fun x y => decide (x ≤ y)) (List.length_mergeSort _) (Nat.le_refl _)
          rw [List.take_of_length_le (by rw [List.length_mergeSort]; omega)] at own
          rw [HM.out] at own
          have hR := (Rd.own own).below (grow_below2 _ os)
          rw [HM.out]
          exact hR.more (by rw [Sort.size_grow]; omega)
        have HSO := Lib.hid HSORT
        have HLL := HL.out
        clear HSORT HL HM HO
        go_wp2_with (go_at_call 18; (with_reducible refine (HSO.out).mono ?_); rintro e w1 ⟨rfl, q1, q2⟩)
        go_ret
        exact ⟨_, cap, by rw [HLL]; rfl, q1, q2⟩
end Go.Proofs.YtmkaijjakcjflaaDoor
