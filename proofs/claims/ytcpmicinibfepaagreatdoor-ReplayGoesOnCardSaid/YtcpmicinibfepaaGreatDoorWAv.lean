/- The document's disk (layer 7): name, Names; gossamerref01.SameTexts · The document's disk (layer 7): Append, without · The document's disk (layer 7): without. -/
import Derived.Test.YtcpmicinibfepaaGreatDoorWAt
import Derived.Test.YtcpmicinibfepaaGreatDoorWAu
import Derived.Laws.AppendOwn
import Derived.Laws.AppendOwnNone
namespace Go.Proofs.YtcpmicinibfepaaGreatDoor
open Go.ChangeShapes Go.WideShapes Go.ChangeAt Go.RowKit Go.Deep DiskP


theorem less_cmp : ∀ a b : List UInt8, Op.bytesLess a b = decide (Lib.compareBytes a b < 0)
  | [], [] => by simp [Op.bytesLess, Lib.compareBytes]
  | [], _ :: _ => by simp [Op.bytesLess, Lib.compareBytes]
  | _ :: _, [] => by simp [Op.bytesLess, Lib.compareBytes]
  | x :: a, y :: b => by
    have ih := less_cmp a b
    unfold Op.bytesLess Lib.compareBytes
    by_cases h1 : x < y
    · simp [h1]
    · by_cases h2 : y < x
      · have : (x == y) = false := by rw [beq_eq_false_iff_ne]; rintro rfl; exact h1 h2
        simp [h1, h2, this]
      · have : x = y := UInt8.le_antisymm (UInt8.not_lt.1 h2) (UInt8.not_lt.1 h1)
        subst this
        simp [h1, ih]
theorem less_N (a b : ByteArray) : Op.bytesLess a.toList b.toList = decide (cmpN a b < 0) := by
  rw [Lib.toList_data, Lib.toList_data, less_cmp]; rfl
/-- where a name belongs among sorted ones -/
def posN (out : List ByteArray) (nm : ByteArray) : Nat := (out.takeWhile fun a => decide (cmpN a nm < 0)).length
def insN (out : List ByteArray) (nm : ByteArray) : List ByteArray := out.take (posN out nm) ++ nm :: out.drop (posN out nm)
def namesX (L : List Fl) : List ByteArray := L.foldl (fun out f => insN out f.nm) []
theorem posN_le (out : List ByteArray) (nm : ByteArray) : posN out nm ≤ out.length := (List.takeWhile_sublist _).length_le
theorem insN_len (out : List ByteArray) (nm : ByteArray) : (insN out nm).length = out.length + 1 := by
  have := posN_le out nm
  unfold insN
  rw [List.length_append, List.length_cons, List.length_take, List.length_drop]
  omega
theorem namesX_snoc (L : List Fl) (f : Fl) : namesX (L ++ [f]) = insN (namesX L) f.nm := by unfold namesX; rw [List.foldl_append]; rfl
theorem namesX_len (L : List Fl) : (namesX L).length = L.length := by
  induction L using RankP.snoc_ind with
  | h0 => rfl
  | h1 l x ih => rw [namesX_snoc, insN_len, ih, List.length_append]; rfl
theorem posN_uniq {out : List ByteArray} {nm : ByteArray} {p : Nat} (hp : p ≤ out.length) (h1 : ∀ a ∈ out.take p, cmpN a nm < 0) (h2 : ∀ a, out[p]? = some a → ¬ cmpN a nm < 0) : posN out nm = p := by
  unfold posN
  induction out generalizing p with
  | nil => simp at hp ⊢; omega
  | cons y out ih =>
    cases p with
    | zero =>
      have := h2 y rfl
      rw [List.takeWhile_cons_of_neg (by simpa using this)]
      rfl
    | succ p =>
      have h0 := h1 y (by simp)
      rw [List.takeWhile_cons_of_pos (by simpa using h0), List.length_cons]
      rw [ih (p := p) (by simpa using hp) (fun a ha => h1 a (by rw [List.take_succ_cons]; exact List.mem_cons_of_mem _ ha)) (fun a ha => h2 a (by simpa using ha))]
theorem btaken (l : List ByteArray) (k : Nat) (f : ByteArray) (h : l[k]? = some f) : l.take (k + 1) = l.take k ++ [f] := by
  obtain ⟨h1, rfl⟩ := List.getElem?_eq_some_iff.1 h
  exact List.take_succ_eq_append_getElem h1
theorem row_slice {w : World} {base n sz : Nat} {e : TypeId} {v : Value} {xs : List Value} (h : w.ownsRow base e sz v n xs) : v = .slice none n 0 ∧ n = 0 ∨ ∃ g cap, v = .slice (some ⟨g, 0, none⟩) n cap ∧ n ≤ cap ∧ cap ≤ maxLen ∧ g < w.heap.size := by
  rcases h.2 with ⟨e1, e2⟩ | ⟨g, cap, cur, e1, hb, hg, h3, h4, _⟩
  · subst e2; exact .inl ⟨e1, rfl⟩
  · exact .inr ⟨g, cap, e1, h3, h4, bx_lt hg⟩
theorem own_cells_from {w : World} {base n cap g : Nat} {e : TypeId} {xs : List Value} (h : w.ownsRow base e 1 (.slice (some ⟨g, 0, none⟩) n cap) n xs) (p : Nat) : ∀ j u, (xs.drop p)[j]? = some u → w.cell? ((⟨g, p, none⟩ : Addr).add j) = some u := fun j u hj => by
  rw [List.getElem?_drop] at hj
  have := h.cells (g := g) rfl (p + j) u hj
  rw [fl_add_0] at this
  rwa [show (⟨g, p, none⟩ : Addr).add j = ⟨g, p + j, none⟩ by unfold Addr.add; split <;> simp_all]
theorem one_str (l : List ByteArray) : ∀ u ∈ l.map Value.string, u.oneCell' = true := by
  intro u hu
  obtain ⟨x, _, rfl⟩ := List.mem_map.1 hu
  rfl

set_option maxRecDepth 100000 in
theorem ref1_SameTexts (A1 A2 : Option Addr) (c1 c2 : Nat) (l1 l2 : List ByteArray) (h1 : l1.length ≤ 1000) (h2 : l2.length ≤ 1000) (heq : l1 = l2) (w : World) (r1 : Rd w w.heap.size A1 (l1.map Value.string)) (r2 : Rd w w.heap.size A2 (l2.map Value.string)) :
    Calls Tryz.prog 34 #[.slice A1 l1.length c1, .slice A2 l2.length c2] w fun e w' => e = .returned (.bool true) ∧ Below w.heap.size w w' := by
  subst heq
  have R1 := Lib.hid r1
  have R2 := Lib.hid r2
  clear r1 r2
  go_enter Tryz.func34, Tryz.ntmps34
  go_wp2_with fail
  go_loopw [5] (fun vi wr => ∃ k : Nat, k ≤ l1.length ∧ vi = .int .i64 k ∧ Below w.heap.size w wr) (fun vi _ => l1.length - (intOf vi).toNat)
  case atStart => exact ⟨0, by omega, rfl, Below.refl _ _⟩
  case round =>
    obtain ⟨k, hk, rfl, hb⟩ := hrel
    by_cases hlt : k < l1.length
    · obtain ⟨f, hk'⟩ : ∃ f, l1[k]? = some f := ⟨l1[k], List.getElem?_eq_getElem hlt⟩
      have hm : (l1.map Value.string)[k]? = some (.string f) := by rw [List.getElem?_map, hk']; rfl
      obtain ⟨a1, rfl, b1, z1⟩ := (R1.out.below hb) k _ hm
      obtain ⟨a2, rfl, b2, z2⟩ := (R2.out.below hb) k _ hm
      have hi1 : (k : Int) < (l1.length : Int) := by omega
      clear hk' hm
      go_wp2_with fail
      go_quiet (fail)
      go_wp2_with fail
      refine ⟨⟨k + 1, by omega, by go_num, ?_⟩, by show l1.length - ((k : Int) + 1).toNat < l1.length - ((k : Int)).toNat; omega⟩
      (repeat (first | assumption | exact Below.refl _ _ | refine below_step (by assumption) ?_ | refine below_alloc' _ ?_ | refine below_drewN ?_ _ | refine Below.drew ?_))
    · have hi1 : ¬ (k : Int) < (l1.length : Int) := by omega
      go_wp2_with fail
      go_ret
      exact ⟨rfl, hb⟩
end Go.Proofs.YtcpmicinibfepaaGreatDoor

namespace Go.Proofs.YtcpmicinibfepaaGreatDoor
open Go.ChangeShapes Go.WideShapes Go.ChangeAt Go.RowKit Go.Deep DiskP


structure OkX (S : DS) : Prop where
  many : S.fs.length ≤ 64
  sure : ∀ f ∈ S.fs, f.su ≤ f.all.size
  full : (used S.fs : Int) ≤ S.room
  room : 0 ≤ S.room ∧ S.room ≤ 9223372036854775807
  size : used S.fs ≤ 100000000
  fuse : -1 ≤ S.fuse ∧ S.fuse ≤ 9223372036854775807
  ops : 0 ≤ S.ops ∧ S.ops ≤ 1000000000
theorem row_some' {w : World} {base sz n c : Nat} {e : TypeId} {A : Option Addr} {xs : List Value} (h : w.ownsRow base e sz (.slice A n c) n xs) (hn : 0 < n) : ∃ g, A = some ⟨g, 0, none⟩ ∧ base ≤ g ∧ g < w.heap.size := by
  rcases h.2 with ⟨e1, e2⟩ | ⟨g, cap, cur, e1, hb, hg, _⟩
  · omega
  · exact ⟨g, (by simpa using e1 : A = some ⟨g, 0, none⟩ ∧ c = cap).1, hb, bx_lt hg⟩
def putX (L : List Fl) (nm s : ByteArray) : List Fl := match L[fnd L nm]? with
  | some f => L.set (fnd L nm) { f with all := f.all ++ s }
  | none => L ++ [⟨nm, ⟨#[]⟩ ++ s, 0⟩]
def appendX (S : DS) (nm s : ByteArray) : DS × Int :=
  if S.on = false then (S, 9) else if namedD nm = false then (S, 1)
  else if S.room - (used S.fs : Int) < (s.size : Int) ∨ (¬ fnd S.fs nm < S.fs.length ∧ 64 ≤ S.fs.length) then (S, 5)
  else begun { S with fs := putX S.fs nm s }
end Go.Proofs.YtcpmicinibfepaaGreatDoor

namespace Go.Proofs.YtcpmicinibfepaaGreatDoor
open Go.ChangeShapes Go.WideShapes Go.ChangeAt Go.RowKit Go.Deep DiskP


def outX (L : List Fl) (nm : ByteArray) : List Fl := L.filter fun f => decide (f.nm ≠ nm)
theorem outX_len (L : List Fl) (nm : ByteArray) : (outX L nm).length ≤ L.length := List.length_filter_le _ _
theorem outX_snoc (L : List Fl) (nm : ByteArray) (f : Fl) : outX (L ++ [f]) nm = if f.nm = nm then outX L nm else outX L nm ++ [f] := by
  unfold outX
  rw [List.filter_append]
  split
  · rename_i h; simp [h]
  · rename_i h; simp [h]

theorem TKeep.of_rkeep {T : TypeId} {d : Nat} {w w' : World} (h : RKeep d none w w') : TKeep T d w w' := ⟨h.below, fun b hb hs _ => h.others b hb hs (by simp)⟩
end Go.Proofs.YtcpmicinibfepaaGreatDoor
