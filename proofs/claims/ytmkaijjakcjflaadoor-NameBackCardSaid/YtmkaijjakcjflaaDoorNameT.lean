/- Names (layer 8): Few, SameInts, Numbers by sorting. -/
import Derived.Test.YtmkaijjakcjflaaDoorNameS
import Derived.Test.YtmkaijjakcjflaaDoorReads
import Derived.Laws.AppendOwn
import Derived.Laws.AppendOwnNone
import Derived.Lib.OwnBridge
namespace Go.Proofs.YtmkaijjakcjflaaDoor
open Go.ChangeShapes Go.WideShapes Go.ChangeAt Go.RowKit Go.Deep NameP Go.Sort

def posI (out : List Int) (n : Int) : Nat := (out.takeWhile fun a => decide (a ≤ n)).length
def insI (out : List Int) (n : Int) : List Int := out.take (posI out n) ++ n :: out.drop (posI out n)
def kB (s : ByteArray) : Int × Int := kindS s.data.toList
def numsX (kind : Int) (l : List ByteArray) : List Int := l.foldl (fun out s => if (kB s).1 = kind then insI out (kB s).2 else out) []
def numsA (kind : Int) (l : List ByteArray) : List Int := l.foldl (fun out s => if (kB s).1 = kind then out ++ [(kB s).2] else out) []
theorem posI_le (out : List Int) (n : Int) : posI out n ≤ out.length := (List.takeWhile_sublist _).length_le
theorem insI_len (out : List Int) (n : Int) : (insI out n).length = out.length + 1 := by
  have := posI_le out n
  unfold insI
  rw [List.length_append, List.length_cons, List.length_take, List.length_drop]
  omega
theorem numsX_snoc (kind : Int) (l : List ByteArray) (s : ByteArray) : numsX kind (l ++ [s]) = if (kB s).1 = kind then insI (numsX kind l) (kB s).2 else numsX kind l := by unfold numsX; rw [List.foldl_append]; rfl
theorem numsA_snoc (kind : Int) (l : List ByteArray) (s : ByteArray) : numsA kind (l ++ [s]) = if (kB s).1 = kind then numsA kind l ++ [(kB s).2] else numsA kind l := by unfold numsA; rw [List.foldl_append]; rfl
theorem posI_uniq {out : List Int} {n : Int} {p : Nat} (hp : p ≤ out.length) (h1 : ∀ a ∈ out.take p, a ≤ n) (h2 : ∀ a, out[p]? = some a → ¬ a ≤ n) : posI out n = p := by
  unfold posI
  induction out generalizing p with
  | nil => simp at hp ⊢; omega
  | cons y out ih =>
    cases p with
    | zero =>
      have := h2 y rfl
      rw [List.takeWhile_cons_of_neg (by simpa using this)]
      rfl
    | succ p =>
      have h0 := h1 y (by simp)
      rw [List.takeWhile_cons_of_pos (by simpa using h0), List.length_cons]
      rw [ih (p := p) (by simpa using hp) (fun a ha => h1 a (by rw [List.take_succ_cons]; exact List.mem_cons_of_mem _ ha)) (fun a ha => h2 a (by simpa using ha))]
theorem insI_cons (y : Int) (out : List Int) (n : Int) : insI (y :: out) n = if y ≤ n then y :: insI out n else n :: y :: out := by
  unfold insI posI
  split
  · rename_i h
    rw [List.takeWhile_cons_of_pos (by simpa using h)]
    rfl
  · rename_i h
    rw [List.takeWhile_cons_of_neg (by simpa using h)]
    rfl
theorem insI_mem (out : List Int) (n : Int) : ∀ x ∈ insI out n, x = n ∨ x ∈ out := by
  intro x hx
  unfold insI at hx
  rcases List.mem_append.1 hx with h | h
  · exact .inr (List.mem_of_mem_take h)
  · rcases List.mem_cons.1 h with h | h
    · exact .inl h
    · exact .inr (List.mem_of_mem_drop h)
theorem insI_sorted {out : List Int} (h : out.Pairwise (· ≤ ·)) (n : Int) : (insI out n).Pairwise (· ≤ ·) := by
  induction out with
  | nil => simp [insI]
  | cons y out ih =>
    rw [insI_cons]
    rw [List.pairwise_cons] at h
    split
    · rename_i hy
      rw [List.pairwise_cons]
      refine ⟨fun x hx => ?_, ih h.2⟩
      rcases insI_mem _ _ x hx with rfl | hx
      · exact hy
      · exact h.1 x hx
    · rename_i hy
      rw [List.pairwise_cons, List.pairwise_cons]
      refine ⟨fun x hx => ?_, h⟩
      rcases List.mem_cons.1 hx with rfl | hx
      · omega
      · have := h.1 x hx
        omega
theorem insI_perm (out : List Int) (n : Int) : (insI out n).Perm (out ++ [n]) := by
  unfold insI
  refine (List.perm_middle).trans ?_
  rw [List.take_append_drop]
  exact (List.perm_append_singleton n out).symm
theorem nums_both (kind : Int) (l : List ByteArray) : (numsX kind l).Pairwise (· ≤ ·) ∧ (numsX kind l).Perm (numsA kind l) := by
  induction l using snoc_ind with
  | h0 => exact ⟨List.Pairwise.nil, List.Perm.refl _⟩
  | h1 l s ih =>
    rw [numsX_snoc, numsA_snoc]
    split
    · exact ⟨insI_sorted ih.1 _, (insI_perm _ _).trans (ih.2.append_right _)⟩
    · exact ih
theorem nums_same (kind : Int) (l : List ByteArray) : (numsA kind l).mergeSort (fun x y => decide (x ≤ y)) = numsX kind l := by
  have h1 := nums_both kind l
  have h2 : ((numsA kind l).mergeSort (fun x y => decide (x ≤ y))).Pairwise (fun a b => decide (a ≤ b) = true) := List.pairwise_mergeSort (by simp; omega) (by simp; omega) _
  have h3 := List.mergeSort_perm (numsA kind l) (fun x y => decide (x ≤ y))
  refine List.Perm.eq_of_pairwise (le := fun a b => decide (a ≤ b) = true) ?_ h2 (h1.1.imp (by simp)) (h3.trans h1.2.symm)
  intro a b _ _ h h'
  simp at h h'
  omega
theorem numsA_len (kind : Int) (l : List ByteArray) : (numsA kind l).length ≤ l.length := by
  induction l using snoc_ind with
  | h0 => simp [numsA]
  | h1 l s ih =>
    rw [numsA_snoc, List.length_append]
    split
    · rw [List.length_append]; simp; omega
    · simp; omega
theorem numsX_len (kind : Int) (l : List ByteArray) : (numsX kind l).length = (numsA kind l).length := (nums_both kind l).2.length_eq
def few8 (l : List ByteArray) : Bool := decide (l.length ≤ 40) && l.all fun s => decide (s.size ≤ 100)
theorem few8_iff {l : List ByteArray} : few8 l = true ↔ l.length ≤ 40 ∧ ∀ s ∈ l, s.size ≤ 100 := by unfold few8; simp
theorem take_snoc {α : Type} (l : List α) (k : Nat) (f : α) (h : l[k]? = some f) : l.take (k + 1) = l.take k ++ [f] := by
  obtain ⟨h1, rfl⟩ := List.getElem?_eq_some_iff.1 h
  exact List.take_succ_eq_append_getElem h1

theorem name_KindB (s : ByteArray) (h : s.size ≤ 1000000) (w : World) : Calls Tryd.prog 7 #[.string s] w fun e w' => e = .returned (.tuple #[.int .i64 (kB s).1, .int .i64 (kB s).2]) ∧ Below w.heap.size w w' := by
  have := name_Kind s.data.toList (by simpa using h) w
  rw [S8_back] at this
  exact this

theorem ref8_KindB (s : ByteArray) (h : s.size ≤ 1000000) (w : World) : Calls Tryd.prog 8 #[.string s] w fun e w' => e = .returned (.tuple #[.int .i64 (kB s).1, .int .i64 (kB s).2]) ∧ Below w.heap.size w w' := by
  have := ref8_Kind s.data.toList (by simpa using h) w
  rw [S8_back] at this
  exact this

set_option maxRecDepth 100000 in
theorem ref8_Few (A : Option Addr) (c : Nat) (l : List ByteArray) (hl : l.length ≤ maxLen) (hs : ∀ s ∈ l, s.size ≤ maxLen) (w : World) (hr : Rd w w.heap.size A (l.map Value.string)) :
    Calls Tryd.prog 5 #[.slice A l.length c] w fun e w' => e = .returned (.bool (few8 l)) ∧ w' = w := by
  unfold maxLen at hl hs
  have HR := Lib.hid hr
  have HS := Lib.hid hs
  clear hr hs
  go_enter Tryd.func5, Tryd.ntmps5
  go_wp2_with fail
  go_loopw [3] (fun vi wr => ∃ k : Nat, k ≤ l.length ∧ k ≤ 40 ∧ vi = .int .i64 k ∧ Hid (∀ s ∈ l.take k, s.size ≤ 100) ∧ wr = w) (fun vi _ => l.length - (intOf vi).toNat)
  case atStart => exact ⟨0, by omega, by omega, rfl, Lib.hid (by simp), rfl⟩
  case round =>
    obtain ⟨k, hk, hk4, rfl, HP, rfl⟩ := hrel
    by_cases hlt : k < l.length
    · have hi1 : (k : Int) < (l.length : Int) := by omega
      by_cases h40 : k < 40
      · obtain ⟨f, hk'⟩ : ∃ f, l[k]? = some f := ⟨l[k], List.getElem?_eq_getElem hlt⟩
        have hm : (l.map Value.string)[k]? = some (.string f) := by rw [List.getElem?_map, hk']; rfl
        obtain ⟨a1, rfl, b1, z1⟩ := HR.out k _ hm
        have hfm : f ∈ l := List.mem_of_getElem? hk'
        have hfs := HS.out f hfm
        have HT := Lib.hid (take_snoc l k f hk')
        by_cases h100 : f.size ≤ 100
        · clear hk' hm hfm
          go_wp2_with fail
          refine ⟨⟨k + 1, by omega, by omega, by go_num, Lib.hid ?_, trivial⟩, by show l.length - ((k : Int) + 1).toNat < l.length - ((k : Int)).toNat; omega⟩
          rw [HT.out]
          intro s hs
          rcases List.mem_append.1 hs with hs | hs
          · exact HP.out s hs
          · rw [List.mem_singleton.1 hs]; exact h100
        · have HF := Lib.hid (show few8 l = false by rw [Bool.eq_false_iff]; exact fun h => h100 ((few8_iff.1 h).2 f hfm))
          clear hk' hm hfm
          go_wp2_with fail
          go_ret
          exact ⟨by rw [HF.out]; rfl, rfl⟩
      · have hl40 : ¬ l.length ≤ 40 := by omega
        have HF := Lib.hid (show few8 l = false by rw [Bool.eq_false_iff]; exact fun h => hl40 (few8_iff.1 h).1)
        go_wp2_with fail
        go_ret
        exact ⟨by rw [HF.out]; show Ending.returned (.bool (decide ((l.length : Int) ≤ 40))) = _; rw [decide_eq_false (by omega)], rfl⟩
    · have hi1 : ¬ (k : Int) < (l.length : Int) := by omega
      have hl40 : l.length ≤ 40 := by omega
      have HF := Lib.hid (show few8 l = true from few8_iff.2 ⟨hl40, fun s hs => HP.out s (by rwa [List.take_of_length_le (by omega)])⟩)
      go_wp2_with fail
      go_ret
      exact ⟨by rw [HF.out]; show Ending.returned (.bool (decide ((l.length : Int) ≤ 40))) = _; rw [decide_eq_true (by omega)], rfl⟩
set_option maxRecDepth 100000 in
theorem ref1_SameInts (A1 A2 : Option Addr) (c1 c2 n1 n2 : Nat) (l1 l2 : List Int) (e1 : n1 = l1.length) (e2 : n2 = l2.length) (h1 : l1.length ≤ 1000) (heq : l1 = l2) (w : World) (r1 : Rd w w.heap.size A1 (l1.map (Value.int .i64))) (r2 : Rd w w.heap.size A2 (l2.map (Value.int .i64))) :
    Calls Tryd.prog 11 #[.slice A1 n1 c1, .slice A2 n2 c2] w fun e w' => e = .returned (.bool true) ∧ Below w.heap.size w w' := by
  subst heq e1 e2
  have R1 := Lib.hid r1
  have R2 := Lib.hid r2
  clear r1 r2
  go_enter Tryd.func11, Tryd.ntmps11
  go_wp2_with fail
  go_loopw [5] (fun vi wr => ∃ k : Nat, k ≤ l1.length ∧ vi = .int .i64 k ∧ Below w.heap.size w wr) (fun vi _ => l1.length - (intOf vi).toNat)
  case atStart => exact ⟨0, by omega, rfl, Below.refl _ _⟩
  case round =>
    obtain ⟨k, hk, rfl, hb⟩ := hrel
    by_cases hlt : k < l1.length
    · obtain ⟨f, hk'⟩ : ∃ f, l1[k]? = some f := ⟨l1[k], List.getElem?_eq_getElem hlt⟩
      have hm : (l1.map (Value.int .i64))[k]? = some (.int .i64 f) := by rw [List.getElem?_map, hk']; rfl
      obtain ⟨a1, rfl, b1, z1⟩ := (R1.out.below hb) k _ hm
      obtain ⟨a2, rfl, b2, z2⟩ := (R2.out.below hb) k _ hm
      have hi1 : (k : Int) < (l1.length : Int) := by omega
      clear hk' hm
      go_wp2_with fail
      go_quiet (fail)
      go_wp2_with fail
      refine ⟨⟨k + 1, by omega, by go_num, ?_⟩, by show l1.length - ((k : Int) + 1).toNat < l1.length - ((k : Int)).toNat; omega⟩
      (repeat (first | assumption | exact Below.refl _ _ | refine below_step (by assumption) ?_ | refine below_alloc' _ ?_ | refine below_drewN ?_ _ | refine Below.drew ?_))
    · have hi1 : ¬ (k : Int) < (l1.length : Int) := by omega
      go_wp2_with fail
      go_ret
      exact ⟨rfl, hb⟩
end Go.Proofs.YtmkaijjakcjflaaDoor
