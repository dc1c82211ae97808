/- Names (layer 8): Few, SameInts, Numbers by sorting · Names (layer 8): the program's Numbers · Names (layer 8): the document's Numbers. -/
import Derived.Test.YtcpmicinibfepaaGreatDoorWBc
import Derived.Test.YtcpmicinibfepaaGreatDoorWAj
import Derived.Laws.AppendOwn
import Derived.Laws.AppendOwnNone
import Derived.Lib.OwnBridge
namespace Go.Proofs.YtcpmicinibfepaaGreatDoor
open Go.ChangeShapes Go.WideShapes Go.ChangeAt Go.RowKit Go.Deep NameP Go.Sort


def posI (out : List Int) (n : Int) : Nat := (out.takeWhile fun a => decide (a ≤ n)).length
def insI (out : List Int) (n : Int) : List Int := out.take (posI out n) ++ n :: out.drop (posI out n)
def kB (s : ByteArray) : Int × Int := kindS s.data.toList
def numsX (kind : Int) (l : List ByteArray) : List Int := l.foldl (fun out s => if (kB s).1 = kind then insI out (kB s).2 else out) []
def numsA (kind : Int) (l : List ByteArray) : List Int := l.foldl (fun out s => if (kB s).1 = kind then out ++ [(kB s).2] else out) []
theorem posI_le (out : List Int) (n : Int) : posI out n ≤ out.length := (List.takeWhile_sublist _).length_le
theorem insI_len (out : List Int) (n : Int) : (insI out n).length = out.length + 1 := by
  have := posI_le out n
  unfold insI
  rw [List.length_append, List.length_cons, List.length_take, List.length_drop]
  omega
theorem numsX_snoc (kind : Int) (l : List ByteArray) (s : ByteArray) : numsX kind (l ++ [s]) = if (kB s).1 = kind then insI (numsX kind l) (kB s).2 else numsX kind l := by unfold numsX; rw [List.foldl_append]; rfl
theorem numsA_snoc (kind : Int) (l : List ByteArray) (s : ByteArray) : numsA kind (l ++ [s]) = if (kB s).1 = kind then numsA kind l ++ [(kB s).2] else numsA kind l := by unfold numsA; rw [List.foldl_append]; rfl
theorem posI_uniq {out : List Int} {n : Int} {p : Nat} (hp : p ≤ out.length) (h1 : ∀ a ∈ out.take p, a ≤ n) (h2 : ∀ a, out[p]? = some a → ¬ a ≤ n) : posI out n = p := by
  unfold posI
  induction out generalizing p with
  | nil => simp at hp ⊢; omega
  | cons y out ih =>
    cases p with
    | zero =>
      have := h2 y rfl
      rw [List.takeWhile_cons_of_neg (by simpa using this)]
      rfl
    | succ p =>
      have h0 := h1 y (by simp)
      rw [List.takeWhile_cons_of_pos (by simpa using h0), List.length_cons]
      rw [ih (p := p) (by simpa using hp) (fun a ha => h1 a (by rw [List.take_succ_cons]; exact List.mem_cons_of_mem _ ha)) (fun a ha => h2 a (by simpa using ha))]
theorem insI_cons (y : Int) (out : List Int) (n : Int) : insI (y :: out) n = if y ≤ n then y :: insI out n else n :: y :: out := by
  unfold insI posI
  split
  · rename_i h
    rw [List.takeWhile_cons_of_pos (by simpa using h)]
    rfl
  · rename_i h
    rw [List.takeWhile_cons_of_neg (by simpa using h)]
    rfl
theorem insI_mem (out : List Int) (n : Int) : ∀ x ∈ insI out n, x = n ∨ x ∈ out := by
  intro x hx
  unfold insI at hx
  rcases List.mem_append.1 hx with h | h
  · exact .inr (List.mem_of_mem_take h)
  · rcases List.mem_cons.1 h with h | h
    · exact .inl h
    · exact .inr (List.mem_of_mem_drop h)
theorem insI_sorted {out : List Int} (h : out.Pairwise (· ≤ ·)) (n : Int) : (insI out n).Pairwise (· ≤ ·) := by
  induction out with
  | nil => simp [insI]
  | cons y out ih =>
    rw [insI_cons]
    rw [List.pairwise_cons] at h
    split
    · rename_i hy
      rw [List.pairwise_cons]
      refine ⟨fun x hx => ?_, ih h.2⟩
      rcases insI_mem _ _ x hx with rfl | hx
      · exact hy
      · exact h.1 x hx
    · rename_i hy
      rw [List.pairwise_cons, List.pairwise_cons]
      refine ⟨fun x hx => ?_, h⟩
      rcases List.mem_cons.1 hx with rfl | hx
      · omega
      · have := h.1 x hx
        omega
theorem insI_perm (out : List Int) (n : Int) : (insI out n).Perm (out ++ [n]) := by
  unfold insI
  refine (List.perm_middle).trans ?_
  rw [List.take_append_drop]
  exact (List.perm_append_singleton n out).symm
theorem nums_both (kind : Int) (l : List ByteArray) : (numsX kind l).Pairwise (· ≤ ·) ∧ (numsX kind l).Perm (numsA kind l) := by
  induction l using snoc_ind with
  | h0 => exact ⟨List.Pairwise.nil, List.Perm.refl _⟩
  | h1 l s ih =>
    rw [numsX_snoc, numsA_snoc]
    split
    · exact ⟨insI_sorted ih.1 _, (insI_perm _ _).trans (ih.2.append_right _)⟩
    · exact ih
theorem nums_same (kind : Int) (l : List ByteArray) : (numsA kind l).mergeSort (fun x y => decide (x ≤ y)) = numsX kind l := by
  have h1 := nums_both kind l
  have h2 : ((numsA kind l).mergeSort (fun x y => decide (x ≤ y))).Pairwise (fun a b => decide (a ≤ b) = true) := List.pairwise_mergeSort (by simp; omega) (by simp; omega) _
  have h3 := List.mergeSort_perm (numsA kind l) (fun x y => decide (x ≤ y))
  refine List.Perm.eq_of_pairwise (le := fun a b => decide (a ≤ b) = true) ?_ h2 (h1.1.imp (by simp)) (h3.trans h1.2.symm)
  intro a b _ _ h h'
  simp at h h'
  omega
theorem numsA_len (kind : Int) (l : List ByteArray) : (numsA kind l).length ≤ l.length := by
  induction l using snoc_ind with
  | h0 => simp [numsA]
  | h1 l s ih =>
    rw [numsA_snoc, List.length_append]
    split
    · rw [List.length_append]; simp; omega
    · simp; omega
theorem numsX_len (kind : Int) (l : List ByteArray) : (numsX kind l).length = (numsA kind l).length := (nums_both kind l).2.length_eq
def few8 (l : List ByteArray) : Bool := decide (l.length ≤ 40) && l.all fun s => decide (s.size ≤ 100)
theorem few8_iff {l : List ByteArray} : few8 l = true ↔ l.length ≤ 40 ∧ ∀ s ∈ l, s.size ≤ 100 := by unfold few8; simp
theorem takeN_snoc {α : Type} (l : List α) (k : Nat) (f : α) (h : l[k]? = some f) : l.take (k + 1) = l.take k ++ [f] := by
  obtain ⟨h1, rfl⟩ := List.getElem?_eq_some_iff.1 h
  exact List.take_succ_eq_append_getElem h1

theorem name_KindB (s : ByteArray) (h : s.size ≤ 1000000) (w : World) : Calls Tryz.prog 67 #[.string s] w fun e w' => e = .returned (.tuple #[.int .i64 (kB s).1, .int .i64 (kB s).2]) ∧ Below w.heap.size w w' := by
  have := name_Kind s.data.toList (by simpa using h) w
  rw [S8_back] at this
  exact this

theorem ref8_KindB (s : ByteArray) (h : s.size ≤ 1000000) (w : World) : Calls Tryz.prog 40 #[.string s] w fun e w' => e = .returned (.tuple #[.int .i64 (kB s).1, .int .i64 (kB s).2]) ∧ Below w.heap.size w w' := by
  have := ref8_Kind s.data.toList (by simpa using h) w
  rw [S8_back] at this
  exact this

end Go.Proofs.YtcpmicinibfepaaGreatDoor

namespace Go.Proofs.YtcpmicinibfepaaGreatDoor
open Go.ChangeShapes Go.WideShapes Go.ChangeAt Go.RowKit Go.Deep NameP


/-- what an append onto a row of the call's own leaves -/
structure AppendedN (base : Nat) (e : TypeId) (size : Nat) (W : World) (v : Value) (n : Nat) (xs : List Value) (cs : Array Value) (g cap : Nat) (w' : World) : Prop where
  own : w'.ownsRow base e size (.slice (some ⟨g, 0, none⟩) (n + 1) cap) (n + 1) (xs ++ cs.toList)
  gb : W.grownBy w' v.ownBlock
  fresh : v.ownBlock = some g ∨ W.heap.size ≤ g
  lt : g < w'.heap.size
theorem wpList_append_twoN {P : Program} {ops : Array Oper} {rest : List Oper} {o : Oper} {a : Act} {Q : Exit → Act → World → Prop} (hgd : o.guard = none) (s x : Operand) (t : TypeId)
    (ho : o.op = .call { callee := .builtin .append, args := #[s, x], argTypes := #[t, t] })
    (base : Nat) (e : TypeId) (i : TypeInfo) (z : Value) (size bytes : Nat) (ht : P.underlying t = some (.slice e)) (hi : P.info? e = some i) (hz : i.zero = some z)
    (hsize : i.size = size) (hby : i.bytes = bytes) (hzs : z.cells.size = size) (hsz : 0 < size) (hb200 : bytes ≤ 200)
    (v : Value) (n : Nat) (xs : List Value) (hs : a.eval s = v) (W : World) (hown : W.ownsRow base e size v n xs) (cs : Array Value) (H : Nat) (hH : W.heap.size = H) (hx : a.eval x = .slice (some ⟨H, 0, none⟩) 1 1)
    (hcs : cs.size = size) (h1 : ∀ u ∈ cs.toList, u.oneCell' = true) (hn : n < 100000000) (hbase : base ≤ W.heap.size)
    (h : ∀ g cap w', AppendedN base e size W v n xs cs g cap w' → wpList P ops Q rest (a.put o.dst (.slice (some ⟨g, 0, none⟩) (n + 1) cap)) w') :
    wpList P ops Q (o :: rest) a (W.alloc (.cells cs e)) := by
  subst hH
  refine wpList_append_lies (W.alloc (.cells cs e)) hgd s x t ho base e i z size bytes ht hi hz hsize hby hzs hsz v n xs hs (hown.alloc _) ⟨W.heap.size, 0, none⟩ 1 1 cs.toList hx
    (by simp [hcs]) (World.news_of_block (heap_alloc_new W _)) h1 (by omega) (by simp only [maxLen]; omega) ?_ (by simp; omega) (W.heap.size + 1) (by simp) ?_
  · have : (n + 1) * bytes ≤ 100000000 * 200 := Nat.mul_le_mul (by omega) hb200
    omega
  · intro g cap w' hown' hgrow hf hlt
    refine h g cap w' ⟨hown', ⟨hgrow.os, hgrow.tape, hgrow.output, by have := hgrow.size; rw [World.size_alloc] at this; omega, fun k hk hne => ?_⟩, ?_, hlt⟩
    · exact (hgrow.block k (by rw [World.size_alloc]; omega) hne).trans (heap_alloc_old W _ hk)
    · rcases hf with hf | hf
      · exact .inl hf
      · exact .inr (by omega)
theorem own_monoN {w : World} {base base' n sz : Nat} {e : TypeId} {v : Value} {xs : List Value} (h : w.ownsRow base e sz v n xs) (hb : base' ≤ base) : w.ownsRow base' e sz v n xs := by
  refine ⟨h.1, ?_⟩
  rcases h.2 with hn | ⟨g, cap, cur, h1, h2, h3⟩
  · exact .inl hn
  · exact .inr ⟨g, cap, cur, h1, by omega, h3⟩
theorem app_belowN {B g cap n b0 : Nat} {v : Value} {xs : List Value} {e : TypeId} {w w1 W : World} {cs : Array Value} (hb : Below b0 W w) (h0 : w.ownsRow B e 1 v n xs) (hB : b0 ≤ B) (hs : b0 ≤ w.heap.size) (hA : AppendedN B e 1 w v n xs cs g cap w1) : Below b0 W w1 :=
  hb.grown hA.gb hs (fun k e => by have := (h0.lt k e).1; omega)
theorem row_sliceN {w : World} {base n sz : Nat} {e : TypeId} {v : Value} {xs : List Value} (h : w.ownsRow base e sz v n xs) : v = .slice none n 0 ∧ n = 0 ∨ ∃ g cap, v = .slice (some ⟨g, 0, none⟩) n cap ∧ n ≤ cap ∧ cap ≤ maxLen ∧ g < w.heap.size ∧ base ≤ g := by
  rcases h.2 with ⟨e1, e2⟩ | ⟨g, cap, cur, e1, hb, hg, h3, h4, _⟩
  · subst e2; exact .inl ⟨e1, rfl⟩
  · exact .inr ⟨g, cap, e1, h3, h4, (Array.getElem?_eq_some_iff.1 hg).1, hb⟩
/-- behind a sort -/
theorem sort_below {W w w1 : World} {B g q : Nat} {d : Array Int} {os : Array Obj} (h : Below B W w) (hg : B ≤ g) (hgl : g < w.heap.size) (hw : w1 = Sort.grow (Sort.putRow (Value.int .i64) (Sort.ahead w q) g 0 d) os) : Below B W w1 := by
  subst hw
  have h1 := Go.Lib.below_putRow (enc := Value.int .i64) (q := q) (d := d) h hg
  refine ⟨h1.os, h1.tape, h1.output, ?_, fun k hk => ?_⟩
  · rw [Sort.size_grow]; have := h1.size; omega
  · rw [← h1.block k hk]
    have h5 : k < (Sort.putRow (Value.int .i64) (Sort.ahead w q) g 0 d).heap.size := by
      have h4 : (Sort.putRow (Value.int .i64) (Sort.ahead w q) g 0 d).heap.size = w.heap.size := by simp [Sort.putRow, Sort.mapBlock, Sort.ahead]
      omega
    exact Sort.heap_grow_old _ _ h5
theorem grow_below2 (w : World) (os : Array Obj) : Below w.heap.size w (Sort.grow w os) := ⟨rfl, rfl, rfl, by rw [Sort.size_grow]; omega, fun j hj => Sort.heap_grow_old _ _ hj⟩

theorem info_int : (Tryz.prog.info? 3).map (fun i => (i.zero, i.size, i.bytes)) = some (some (.int .i64 0), 1, 8) := by kernel_rfl

set_option maxRecDepth 100000 in
set_option maxHeartbeats 4000000 in
theorem name_NumbersO (kind : Int) (A : Option Addr) (c : Nat) (l : List ByteArray) (hl : l.length ≤ 100) (hs : ∀ s ∈ l, s.size ≤ 100) (w : World) (hr : Rd w w.heap.size A (l.map Value.string)) :
    Calls Tryz.prog 43 #[.int .i64 kind, .slice A l.length c] w fun e w' => ∃ A' c', e = .returned (.slice A' (numsX kind l).length c') ∧ w'.ownsRow w.heap.size 3 1 (.slice A' (numsX kind l).length c') (numsX kind l).length ((numsX kind l).map (Value.int .i64)) ∧ Below w.heap.size w w' := by
  have HR := Lib.hid hr
  have HS := Lib.hid hs
  obtain ⟨i0, hi, hz0, hz1, hz2⟩ := info_parts' info_int
  have HI := Lib.hid (And.intro hi (And.intro hz0 (And.intro hz1 hz2)))
  have HK' : ∀ (s : ByteArray), s.size ≤ 100 → ∀ W : World, Calls Tryz.prog 67 #[.string s] W fun e w' => e = .returned (.tuple #[.int .i64 (kB s).1, .int .i64 (kB s).2]) ∧ Below W.heap.size W w' := fun s h W => name_KindB s (by omega) W
  have HK := Lib.hid HK'
  clear hr hs hi hz0 hz1 hz2 HK'
  go_enter Tryz.func43, Tryz.ntmps43
  go_wp2_with fail
  go_loopw [5, 12] (fun vo vi wr => ∃ k : Nat, k ≤ l.length ∧ vi = .int .i64 k ∧ wr.ownsRow w.heap.size 3 1 vo (numsA kind (l.take k)).length ((numsA kind (l.take k)).map (Value.int .i64)) ∧ Below w.heap.size w wr) (fun _ vi _ => l.length - (intOf vi).toNat)
  case atStart => exact ⟨0, by omega, rfl, World.ownsRow_nil _ _ _ _, Below.refl _ _⟩
  case round =>
    obtain ⟨k, hk, rfl, hown, hb⟩ := hrel
    have hbz := hb.size
    have hlen : (numsA kind (l.take k)).length ≤ 100 := by
      have := numsA_len kind (l.take k)
      rw [List.length_take] at this
      omega
    have HO := Lib.hid hown
    clear hown
    by_cases hlt : k < l.length
    · obtain ⟨f, hk'⟩ : ∃ f, l[k]? = some f := ⟨l[k], List.getElem?_eq_getElem hlt⟩
      have hm : (l.map Value.string)[k]? = some (.string f) := by rw [List.getElem?_map, hk']; rfl
      obtain ⟨a1, rfl, b1, z1⟩ := (HR.out.below hb) k _ hm
      have HF := Lib.hid (HK.out f (HS.out f (List.mem_of_getElem? hk')))
      have HT := Lib.hid (show numsA kind (l.take (k + 1)) = _ by rw [takeN_snoc l k f hk', numsA_snoc])
      have hi1 : (k : Int) < (l.length : Int) := by omega
      clear hk' hm
      generalize numsA kind (l.take k) = out at *
      by_cases hkk : (kB f).1 = kind
      · have hkb : ((kB f).1 == kind) = true := by simp [hkk]
        rw [if_pos hkk] at HT
        clear hkk
        generalize (kB f).1 = x1 at *
        generalize (kB f).2 = x2 at *
        go_wp2_with (first
          | (go_at_call 67; (with_reducible refine (HF.out _).mono ?_); rintro e w1 ⟨rfl, q1⟩; have HO1 := Lib.hid (own_below HO.out q1))
          | (at_builtin; refine wpList_append_twoN rfl _ _ _ (by rfl) w.heap.size 3 i0 _ 1 8 Tryz.underlying34 HI.out.1 HI.out.2.1 HI.out.2.2.1 HI.out.2.2.2 rfl (by decide) (by decide) _ _ _ (by rfl) w1 HO1.out _ _ rfl (by rfl) (by rfl) (by simp [Value.oneCell']) (by omega) (by have := q1.size; omega) ?_; intro g2 cap2 w2 hA; have q2 := app_belowN (below_step q1 hb) HO1.out (Nat.le_refl _) (by have := q1.size; omega) hA))
        refine ⟨⟨k + 1, by omega, by go_num, ?_, q2⟩, by show l.length - ((k : Int) + 1).toNat < l.length - ((k : Int)).toNat; omega⟩
        rw [HT.out, List.length_append, List.map_append]
        exact hA.own
      · have hkb : ((kB f).1 == kind) = false := by simp [hkk]
        rw [if_neg hkk] at HT
        clear hkk
        generalize (kB f).1 = x1 at *
        generalize (kB f).2 = x2 at *
        go_wp2_with (first
          | (go_at_call 67; (with_reducible refine (HF.out _).mono ?_); rintro e w1 ⟨rfl, q1⟩; have HO1 := Lib.hid (own_below HO.out q1)))
        refine ⟨⟨k + 1, by omega, by go_num, ?_, below_step q1 hb⟩, by show l.length - ((k : Int) + 1).toNat < l.length - ((k : Int)).toNat; omega⟩
        rw [HT.out]
        exact HO1.out
    · have hi1 : ¬ (k : Int) < (l.length : Int) := by omega
      have HL := Lib.hid (numsX_len kind l)
      have HM := Lib.hid (nums_same kind l)
      rw [List.take_of_length_le (by omega)] at HO hlen
      rcases row_sliceN HO.out with ⟨rfl, h0⟩ | ⟨g, cap, rfl, hc1, hc2, hgl, hgb⟩
      · have hnil : numsA kind l = [] := List.eq_nil_of_length_eq_zero h0
        rw [hnil] at HL HM
        have hx : numsX kind l = [] := by rw [← HM.out]; simp
        rw [h0]
        have HNX := Lib.hid hx
        clear hnil HL HM hx h0 HO
        have HSN' : ∀ W : World, Calls Tryz.prog 68 #[.slice none 0 0] W fun e w' => e = .returned (.tuple #[]) ∧ w' = W := fun W => Tryz.slices_Sort_int_none none 0 W
        have HSN := Lib.hid HSN'
        clear HSN'
        go_wp2_with (go_at_call 68; (with_reducible refine (HSN.out _).mono ?_); rintro e w1 ⟨rfl, rfl⟩)
        go_ret
        exact ⟨none, 0, by rw [HNX.out]; rfl, by rw [HNX.out]; exact World.ownsRow_nil _ _ _ _, hb⟩
      · have HSORT : Calls Tryz.prog 68 #[.slice (some ⟨g, 0, none⟩) (numsA kind l).length cap] wr fun e w' => e = .returned (.tuple #[]) ∧ w'.ownsRow w.heap.size 3 1 (.slice (some ⟨g, 0, none⟩) (numsA kind l).length cap) (numsA kind l).length ((numsX kind l).map (Value.int .i64)) ∧ Below w.heap.size w w' := by
          obtain ⟨g', cap', e1, _, _, _, _, hz, hH⟩ := Go.Lib.holds_of_ownsRow HO.out (by simp)
          obtain rfl : g = g' := by injection e1 with e2; injection e2 with e2; injection e2
          refine (Tryz.slices_Sort_int g 0 cap (numsA kind l) wr hH hgl (by omega)).mono ?_
          rintro e w' ⟨rfl, n, os, hw⟩
          refine ⟨rfl, ?_, sort_below hb hgb hgl hw⟩
          subst hw
          have own := Go.Lib.ownsRow_putRow (q := n) (k := (numsA kind l).length) HO.out (ys := (numsA kind l).mergeSort fun x y => decide (x ≤ y)) (List.length_mergeSort _) (Nat.le_refl _)
          rw [List.take_of_length_le (by rw [List.length_mergeSort]; omega)] at own
          rw [HM.out] at own
          rw [HM.out]
          exact own_below own (grow_below2 _ os)
        have HSO := Lib.hid HSORT
        have HLL := HL.out
        clear HSORT HL HM HO
        go_wp2_with (go_at_call 68; (with_reducible refine (HSO.out).mono ?_); rintro e w1 ⟨rfl, q1, q2⟩)
        go_ret
        exact ⟨_, cap, by rw [HLL]; rfl, by rw [HLL]; exact q1, q2⟩
theorem name_Numbers (kind : Int) (A : Option Addr) (c : Nat) (l : List ByteArray) (hl : l.length ≤ 100) (hs : ∀ s ∈ l, s.size ≤ 100) (w : World) (hr : Rd w w.heap.size A (l.map Value.string)) :
    Calls Tryz.prog 43 #[.int .i64 kind, .slice A l.length c] w fun e w' => ∃ A' c', e = .returned (.slice A' (numsX kind l).length c') ∧ Rd w' w'.heap.size A' ((numsX kind l).map (Value.int .i64)) ∧ Below w.heap.size w w' := by
  refine (name_NumbersO kind A c l hl hs w hr).mono ?_
  rintro e w' ⟨A', c', rfl, ho, hb⟩
  exact ⟨A', c', rfl, Rd.own ho, hb⟩
end Go.Proofs.YtcpmicinibfepaaGreatDoor

namespace Go.Proofs.YtcpmicinibfepaaGreatDoor
open Go.ChangeShapes Go.WideShapes Go.ChangeAt Go.RowKit Go.Deep NameP


theorem own_cells_fromN {w : World} {base n cap g : Nat} {e : TypeId} {xs : List Value} (h : w.ownsRow base e 1 (.slice (some ⟨g, 0, none⟩) n cap) n xs) (p : Nat) : ∀ j u, (xs.drop p)[j]? = some u → w.cell? ((⟨g, p, none⟩ : Addr).add j) = some u := fun j u hj => by
  rw [List.getElem?_drop] at hj
  have := h.cells (g := g) rfl (p + j) u hj
  rw [show (⟨g, 0, none⟩ : Addr).add (p + j) = ⟨g, p + j, none⟩ by unfold Addr.add; split <;> simp_all] at this
  rwa [show (⟨g, p, none⟩ : Addr).add j = ⟨g, p + j, none⟩ by unfold Addr.add; split <;> simp_all]
theorem one_int (l : List Int) : ∀ u ∈ l.map (Value.int .i64), u.oneCell' = true := by
  intro u hu
  obtain ⟨x, _, rfl⟩ := List.mem_map.1 hu
  rfl

set_option maxRecDepth 100000 in
set_option maxHeartbeats 4000000 in
theorem ref8_NumbersO (kind : Int) (A : Option Addr) (c : Nat) (l : List ByteArray) (hl : l.length ≤ 100) (hs : ∀ s ∈ l, s.size ≤ 100) (w : World) (hr : Rd w w.heap.size A (l.map Value.string)) :
    Calls Tryz.prog 12 #[.int .i64 kind, .slice A l.length c] w fun e w' => ∃ A' c', e = .returned (.slice A' (numsX kind l).length c') ∧ w'.ownsRow w.heap.size 3 1 (.slice A' (numsX kind l).length c') (numsX kind l).length ((numsX kind l).map (Value.int .i64)) ∧ Below w.heap.size w w' := by
  have HR := Lib.hid hr
  have HS := Lib.hid hs
  obtain ⟨i0, hi, hz0, hz1, hz2⟩ := info_parts' info_int
  have HI := Lib.hid (And.intro hi (And.intro hz0 (And.intro hz1 hz2)))
  have HK' : ∀ (s : ByteArray), s.size ≤ 100 → ∀ W : World, Calls Tryz.prog 40 #[.string s] W fun e w' => e = .returned (.tuple #[.int .i64 (kB s).1, .int .i64 (kB s).2]) ∧ Below W.heap.size W w' := fun s h W => ref8_KindB s (by omega) W
  have HK := Lib.hid HK'
  clear hr hs hi hz0 hz1 hz2 HK'
  go_enter Tryz.func12, Tryz.ntmps12
  go_wp2_with fail
  go_loopw [5, 6] (fun vo vi wr => ∃ k : Nat, k ≤ l.length ∧ vi = .int .i64 k ∧ wr.ownsRow w.heap.size 3 1 vo (numsX kind (l.take k)).length ((numsX kind (l.take k)).map (Value.int .i64)) ∧ Below w.heap.size w wr) (fun _ vi _ => l.length - (intOf vi).toNat)
  case atStart => exact ⟨0, by omega, rfl, World.ownsRow_nil _ _ _ _, Below.refl _ _⟩
  case round =>
    obtain ⟨k, hk, rfl, hown, hb⟩ := hrel
    have hbz := hb.size
    have hlen : (numsX kind (l.take k)).length ≤ 100 := by
      have := numsA_len kind (l.take k)
      rw [List.length_take, ← numsX_len] at this
      omega
    have HO := Lib.hid hown
    clear hown
    by_cases hlt : k < l.length
    · obtain ⟨f, hk'⟩ : ∃ f, l[k]? = some f := ⟨l[k], List.getElem?_eq_getElem hlt⟩
      have hm : (l.map Value.string)[k]? = some (.string f) := by rw [List.getElem?_map, hk']; rfl
      obtain ⟨a1, rfl, b1, z1⟩ := (HR.out.below hb) k _ hm
      have HF := Lib.hid (HK.out f (HS.out f (List.mem_of_getElem? hk')))
      have HT := Lib.hid (show numsX kind (l.take (k + 1)) = _ by rw [takeN_snoc l k f hk', numsX_snoc])
      have hi1 : (k : Int) < (l.length : Int) := by omega
      clear hk' hm
      generalize numsX kind (l.take k) = out at *
      by_cases hkk : (kB f).1 = kind
      · have hkb : ((kB f).1 == kind) = true := by simp [hkk]
        rw [if_pos hkk] at HT
        clear hkk
        generalize (kB f).1 = x1 at *
        generalize (kB f).2 = x2 at *
        rcases row_sliceN HO.out with ⟨rfl, h0⟩ | ⟨g, cap, rfl, hc1, hc2, hgl, hgb⟩
        · obtain rfl : out = [] := List.eq_nil_of_length_eq_zero h0
          clear h0 HO
          go_wp2_with (first
            | (go_at_call 40; (with_reducible refine (HF.out _).mono ?_); rintro e w1 ⟨rfl, q1⟩))
          go_loopw [9] (fun vj wr2 => vj = .int .i64 0 ∧ wr2 = w1) (fun vj _ => (intOf vj).toNat)
          case atStart => exact ⟨rfl, rfl⟩
          case round =>
            obtain ⟨rfl, rfl⟩ := hrel
            have q1z := q1.size
            go_wp2_with (first
              | (at_builtin; refine wpList_append_own_none rfl _ _ _ (by rfl) wr.heap.size 3 i0 1 Tryz.underlying34 HI.out.1 _ 0 _ (by rfl) (World.ownsRow_nil _ _ _ _) (by rfl) ?_)
              | (at_builtin; refine wpList_append_twoN rfl _ _ _ (by rfl) wr.heap.size 3 i0 _ 1 8 Tryz.underlying34 HI.out.1 HI.out.2.1 HI.out.2.2.1 HI.out.2.2.2 rfl (by decide) (by decide) (.slice none 0 0) 0 [] (by rfl) wr (World.ownsRow_nil _ _ _ _) _ _ rfl (by rfl) (by rfl) (by simp [Value.oneCell']) (by omega) (Nat.le_refl _) ?_; intro g2 cap2 w2 hA; have q2 := app_belowN (Below.refl _ wr) (World.ownsRow_nil _ _ _ _) (Nat.le_refl _) (Nat.le_refl _) hA)
              | (at_builtin; refine wpList_append_own_none rfl _ _ _ (by rfl) wr.heap.size 3 i0 1 Tryz.underlying34 HI.out.1 _ 1 _ (by rfl) hA.own (by rfl) ?_))
            refine ⟨⟨k + 1, by omega, by go_num, ?_, below_step (q2.mono (Nat.le_refl _)) (below_step q1 hb)⟩, by show l.length - ((k : Int) + 1).toNat < l.length - ((k : Int)).toNat; omega⟩
            rw [HT.out]
            exact own_monoN hA.own (by omega)
        · go_wp2_with (first
            | (go_at_call 40; (with_reducible refine (HF.out _).mono ?_); rintro e w1 ⟨rfl, q1⟩; obtain ⟨wo, rfl⟩ : ∃ wo, wo = w1 := ⟨_, rfl⟩; have HW := Lib.hid (own_below HO.out q1)))
          have hbo := below_step q1 hb
          have hboz := hbo.size
          have HF2 := Lib.hid (fun W (hq : Below wo.heap.size wo W) => And.intro (own_below HW.out hq) hq.size)
          have HCP0 := Lib.hid (fun (p : Nat) (W : World) (hq : Below wo.heap.size wo W) (j : Nat) (u : Value) (hj : ((out.take p).map (Value.int .i64))[j]? = some u) => (by
            have h2 := own_cells_fromN (HF2.out W hq).1 0 j u
            rw [List.drop_zero] at h2
            apply h2
            rw [List.map_take, List.getElem?_take] at hj
            split at hj
            · exact hj
            · exact absurd hj (by simp) : W.cell? ((⟨g, 0, none⟩ : Addr).add j) = some u))
          go_loopw [9] (fun vj wr2 => ∃ p : Nat, p ≤ out.length ∧ vj = .int .i64 p ∧ wr2 = wo ∧ Hid (∀ a ∈ out.take p, a ≤ x2)) (fun vj _ => out.length - (intOf vj).toNat)
          case atStart => exact ⟨0, by omega, rfl, rfl, Lib.hid (by simp)⟩
          case round =>
            obtain ⟨p, hp, rfl, rfl, HPRE⟩ := hrel
            have hq := Below.refl wr.heap.size wr
            have HCP := Lib.hid (HCP0.out p)
            by_cases hpk : p < out.length
            · obtain ⟨a, ha⟩ : ∃ a, out[p]? = some a := ⟨out[p], List.getElem?_eq_getElem (by omega)⟩
              have z := own_cell HW.out p (.int .i64 a) (by rw [List.getElem?_map, ha]; rfl)
              have HS2 := Lib.hid (takeN_snoc out p a ha)
              have hi2 : (p : Int) < (out.length : Int) := by omega
              by_cases hc : a ≤ x2
              · clear ha
                go_wp2_with fail
                refine ⟨⟨p + 1, by omega, by go_num, trivial, Lib.hid ?_⟩, by show out.length - ((p : Int) + 1).toNat < out.length - ((p : Int)).toNat; omega⟩
                rw [HS2.out]
                intro q hq
                rcases List.mem_append.1 hq with hq | hq
                · exact HPRE.out q hq
                · rw [List.mem_singleton.1 hq]; exact hc
              · have HP := Lib.hid (posI_uniq (out := out) (n := x2) (p := p) (by omega) HPRE.out (fun b hb => by rw [ha] at hb; obtain rfl := Option.some.inj hb; exact hc))
                have hcp : ¬ cap = p := by omega
                have HCD := Lib.hid (fun (W : World) (ho : W.ownsRow w.heap.size 3 1 (.slice (some ⟨g, 0, none⟩) out.length cap) out.length (out.map (Value.int .i64))) => own_cells_fromN ho p)
                clear ha
                (go_wp2_with (first | (at_builtin; refine wpList_append_own _ rfl _ _ _ (by rfl) wr.heap.size 3 i0 _ 1 8 Tryz.underlying34 HI.out.1 HI.out.2.1 HI.out.2.2.1 HI.out.2.2.2 rfl (by decide) (.slice none 0 0) 0 [] (by rfl) (World.ownsRow_nil _ _ _ _) ⟨g, 0, none⟩ p cap ((out.take p).map (Value.int .i64)) (by rfl) (by rw [List.length_map, List.length_take]; omega) (HCP.out _ hq) (one_int _) (by unfold maxLen; omega) (by omega) (HF2.out _ hq).2 ?_; intro v1 w1 o1 g1 _; rw [Nat.zero_add, List.nil_append] at o1; have q4 := hq.grown g1 (HF2.out _ hq).2 (by intro k e; cases e); obtain ⟨s2, s3⟩ := HF2.out _ q4; clear s2) | (at_builtin; refine wpList_append_twoN rfl _ _ _ (by rfl) wr.heap.size 3 i0 _ 1 8 Tryz.underlying34 HI.out.1 HI.out.2.1 HI.out.2.2.1 HI.out.2.2.2 rfl (by decide) (by decide) v1 p _ (by rfl) w1 o1 _ _ rfl (by rfl) (by rfl) (by simp [Value.oneCell']) (by omega) s3 ?_; intro g2 cap2 w2 hA; have q2 := app_belowN q4 o1 (Nat.le_refl _) s3 hA; obtain ⟨r2, r3⟩ := HF2.out _ q2; have HR2 := Lib.hid r2; clear r2) | (at_builtin; refine wpList_append_own _ rfl _ _ _ (by rfl) wr.heap.size 3 i0 _ 1 8 Tryz.underlying34 HI.out.1 HI.out.2.1 HI.out.2.2.1 HI.out.2.2.2 rfl (by decide) (.slice (some ⟨g2, 0, none⟩) (p + 1) cap2) (p + 1) _ (by rfl) hA.own _ (out.length - p) (cap - p) ((out.drop p).map (Value.int .i64)) (by rfl) (by rw [List.length_map, List.length_drop]; omega) (by rw [List.map_drop]; exact HCD.out _ HR2.out) (one_int _) (by unfold maxLen; omega) (by omega) r3 ?_; intro v3 w3 o3 g3 _; have q3 := q2.grown g3 r3 (fun k e => by have := (hA.own.lt k e).1; omega))))
                refine ⟨⟨k + 1, by omega, by go_num, ?_, hbo.trans (q3.mono hboz)⟩, by show l.length - ((k : Int) + 1).toNat < l.length - ((k : Int)).toNat; omega⟩
                rw [HT.out, insI_len]
                unfold insI
                rw [HP.out]
                rw [show p + 1 + (out.length - p) = out.length + 1 by omega] at o3
                simpa using own_monoN o3 hboz
            · have HP := Lib.hid (posI_uniq (out := out) (n := x2) (p := p) (by omega) HPRE.out (fun b hb => by rw [List.getElem?_eq_none (by omega)] at hb; cases hb))
              have hi2 : ¬ (p : Int) < (out.length : Int) := by omega
              obtain rfl : p = out.length := by omega
              by_cases hcp : cap = out.length
              · subst hcp
                have HCD := Lib.hid (fun (W : World) (_ : W.ownsRow w.heap.size 3 1 (.slice (some ⟨g, 0, none⟩) out.length out.length) out.length (out.map (Value.int .i64))) (j : Nat) (u : Value) (hj : ((out.map (Value.int .i64)).drop out.length)[j]? = some u) => (by rw [List.drop_of_length_le (by rw [List.length_map]; omega)] at hj; exact absurd hj (by simp) : W.cell? ((⟨g, 0, none⟩ : Addr).add j) = some u))
                (go_wp2_with (first | (at_builtin; refine wpList_append_own _ rfl _ _ _ (by rfl) wr.heap.size 3 i0 _ 1 8 Tryz.underlying34 HI.out.1 HI.out.2.1 HI.out.2.2.1 HI.out.2.2.2 rfl (by decide) (.slice none 0 0) 0 [] (by rfl) (World.ownsRow_nil _ _ _ _) ⟨g, 0, none⟩ out.length out.length ((out.take out.length).map (Value.int .i64)) (by rfl) (by rw [List.length_map, List.length_take]; omega) (HCP.out _ hq) (one_int _) (by unfold maxLen; omega) (by omega) (HF2.out _ hq).2 ?_; intro v1 w1 o1 g1 _; rw [Nat.zero_add, List.nil_append] at o1; have q4 := hq.grown g1 (HF2.out _ hq).2 (by intro k e; cases e); obtain ⟨s2, s3⟩ := HF2.out _ q4; clear s2) | (at_builtin; refine wpList_append_twoN rfl _ _ _ (by rfl) wr.heap.size 3 i0 _ 1 8 Tryz.underlying34 HI.out.1 HI.out.2.1 HI.out.2.2.1 HI.out.2.2.2 rfl (by decide) (by decide) v1 out.length _ (by rfl) w1 o1 _ _ rfl (by rfl) (by rfl) (by simp [Value.oneCell']) (by omega) s3 ?_; intro g2 cap2 w2 hA; have q2 := app_belowN q4 o1 (Nat.le_refl _) s3 hA; obtain ⟨r2, r3⟩ := HF2.out _ q2; have HR2 := Lib.hid r2; clear r2) | (at_builtin; refine wpList_append_own _ rfl _ _ _ (by rfl) wr.heap.size 3 i0 _ 1 8 Tryz.underlying34 HI.out.1 HI.out.2.1 HI.out.2.2.1 HI.out.2.2.2 rfl (by decide) (.slice (some ⟨g2, 0, none⟩) (out.length + 1) cap2) (out.length + 1) _ (by rfl) hA.own _ (0) (0) ((out.drop out.length).map (Value.int .i64)) (by rfl) (by rw [List.length_map, List.length_drop]; omega) (by rw [List.map_drop]; exact HCD.out _ HR2.out) (one_int _) (by unfold maxLen; omega) (by omega) r3 ?_; intro v3 w3 o3 g3 _; have q3 := q2.grown g3 r3 (fun k e => by have := (hA.own.lt k e).1; omega))))
                refine ⟨⟨k + 1, by omega, by go_num, ?_, hbo.trans (q3.mono hboz)⟩, by show l.length - ((k : Int) + 1).toNat < l.length - ((k : Int)).toNat; omega⟩
                rw [HT.out, insI_len]
                unfold insI
                rw [HP.out]
                simpa using own_monoN o3 hboz
              · have HCD := Lib.hid (fun (W : World) (ho : W.ownsRow w.heap.size 3 1 (.slice (some ⟨g, 0, none⟩) out.length cap) out.length (out.map (Value.int .i64))) => own_cells_fromN ho out.length)
                (go_wp2_with (first | (at_builtin; refine wpList_append_own _ rfl _ _ _ (by rfl) wr.heap.size 3 i0 _ 1 8 Tryz.underlying34 HI.out.1 HI.out.2.1 HI.out.2.2.1 HI.out.2.2.2 rfl (by decide) (.slice none 0 0) 0 [] (by rfl) (World.ownsRow_nil _ _ _ _) ⟨g, 0, none⟩ out.length cap ((out.take out.length).map (Value.int .i64)) (by rfl) (by rw [List.length_map, List.length_take]; omega) (HCP.out _ hq) (one_int _) (by unfold maxLen; omega) (by omega) (HF2.out _ hq).2 ?_; intro v1 w1 o1 g1 _; rw [Nat.zero_add, List.nil_append] at o1; have q4 := hq.grown g1 (HF2.out _ hq).2 (by intro k e; cases e); obtain ⟨s2, s3⟩ := HF2.out _ q4; clear s2) | (at_builtin; refine wpList_append_twoN rfl _ _ _ (by rfl) wr.heap.size 3 i0 _ 1 8 Tryz.underlying34 HI.out.1 HI.out.2.1 HI.out.2.2.1 HI.out.2.2.2 rfl (by decide) (by decide) v1 out.length _ (by rfl) w1 o1 _ _ rfl (by rfl) (by rfl) (by simp [Value.oneCell']) (by omega) s3 ?_; intro g2 cap2 w2 hA; have q2 := app_belowN q4 o1 (Nat.le_refl _) s3 hA; obtain ⟨r2, r3⟩ := HF2.out _ q2; have HR2 := Lib.hid r2; clear r2) | (at_builtin; refine wpList_append_own _ rfl _ _ _ (by rfl) wr.heap.size 3 i0 _ 1 8 Tryz.underlying34 HI.out.1 HI.out.2.1 HI.out.2.2.1 HI.out.2.2.2 rfl (by decide) (.slice (some ⟨g2, 0, none⟩) (out.length + 1) cap2) (out.length + 1) _ (by rfl) hA.own _ (0) (cap - out.length) ((out.drop out.length).map (Value.int .i64)) (by rfl) (by rw [List.length_map, List.length_drop]; omega) (by rw [List.map_drop]; exact HCD.out _ HR2.out) (one_int _) (by unfold maxLen; omega) (by omega) r3 ?_; intro v3 w3 o3 g3 _; have q3 := q2.grown g3 r3 (fun k e => by have := (hA.own.lt k e).1; omega))))
                refine ⟨⟨k + 1, by omega, by go_num, ?_, hbo.trans (q3.mono hboz)⟩, by show l.length - ((k : Int) + 1).toNat < l.length - ((k : Int)).toNat; omega⟩
                rw [HT.out, insI_len]
                unfold insI
                rw [HP.out]
                simpa using own_monoN o3 hboz
      · have hkb : ((kB f).1 == kind) = false := by simp [hkk]
        rw [if_neg hkk] at HT
        clear hkk
        generalize (kB f).1 = x1 at *
        generalize (kB f).2 = x2 at *
        go_wp2_with (first
          | (go_at_call 40; (with_reducible refine (HF.out _).mono ?_); rintro e w1 ⟨rfl, q1⟩; have HO1 := Lib.hid (own_below HO.out q1)))
        refine ⟨⟨k + 1, by omega, by go_num, ?_, below_step q1 hb⟩, by show l.length - ((k : Int) + 1).toNat < l.length - ((k : Int)).toNat; omega⟩
        rw [HT.out]
        exact HO1.out
    · have hi1 : ¬ (k : Int) < (l.length : Int) := by omega
      rw [List.take_of_length_le (by omega)] at HO hlen
      obtain ⟨A', c', rfl⟩ := own_slice HO.out
      go_wp2_with fail
      go_ret
      exact ⟨A', c', rfl, HO.out, hb⟩
theorem ref8_Numbers (kind : Int) (A : Option Addr) (c : Nat) (l : List ByteArray) (hl : l.length ≤ 100) (hs : ∀ s ∈ l, s.size ≤ 100) (w : World) (hr : Rd w w.heap.size A (l.map Value.string)) :
    Calls Tryz.prog 12 #[.int .i64 kind, .slice A l.length c] w fun e w' => ∃ A' c', e = .returned (.slice A' (numsX kind l).length c') ∧ Rd w' w'.heap.size A' ((numsX kind l).map (Value.int .i64)) ∧ Below w.heap.size w w' := by
  refine (ref8_NumbersO kind A c l hl hs w hr).mono ?_
  rintro e w' ⟨A', c', rfl, ho, hb⟩
  exact ⟨A', c', rfl, Rd.own ho, hb⟩
end Go.Proofs.YtcpmicinibfepaaGreatDoor
