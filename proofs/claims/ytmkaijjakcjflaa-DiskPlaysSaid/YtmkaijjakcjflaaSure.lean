/- Layer 7: the files of which something must be there (two slices behind one box): get, drop, set. -/
import Derived.Test.YtmkaijjakcjflaaLaw07b
namespace Go.Proofs.Ytmkaijjakcjflaa
open Go.ChangeShapes Go.WideShapes Go.ChangeAt Go.RowKit Go.Deep DiskP

/-- as Appended, with all that is as it was -/
structure Appended2 (base : Nat) (e : TypeId) (size : Nat) (W : World) (v : Value) (n : Nat) (xs : List Value) (cs : Array Value) (g cap : Nat) (w' : World) : Prop where
  own : w'.ownsRow base e size (.slice (some ⟨g, 0, none⟩) (n + 1) cap) (n + 1) (xs ++ cs.toList)
  gb : W.grownBy w' v.ownBlock
  fresh : v.ownBlock = some g ∨ W.heap.size ≤ g
  lt : g < w'.heap.size
theorem wpList_append_two {P : Program} {ops : Array Oper} {rest : List Oper} {o : Oper} {a : Act} {Q : Exit → Act → World → Prop} (hgd : o.guard = none) (s x : Operand) (t : TypeId)
    (ho : o.op = .call { callee := .builtin .append, args := #[s, x], argTypes := #[t, t] })
    (base : Nat) (e : TypeId) (i : TypeInfo) (z : Value) (size bytes : Nat) (ht : P.underlying t = some (.slice e)) (hi : P.info? e = some i) (hz : i.zero = some z)
    (hsize : i.size = size) (hby : i.bytes = bytes) (hzs : z.cells.size = size) (hsz : 0 < size) (hb200 : bytes ≤ 200)
    (v : Value) (n : Nat) (xs : List Value) (hs : a.eval s = v) (W : World) (hown : W.ownsRow base e size v n xs) (cs : Array Value) (H : Nat) (hH : W.heap.size = H) (hx : a.eval x = .slice (some ⟨H, 0, none⟩) 1 1)
    (hcs : cs.size = size) (h1 : ∀ u ∈ cs.toList, u.oneCell' = true) (hn : n < 100000000) (hbase : base ≤ W.heap.size)
    (h : ∀ g cap w', Appended2 base e size W v n xs cs g cap w' → wpList P ops Q rest (a.put o.dst (.slice (some ⟨g, 0, none⟩) (n + 1) cap)) w') :
    wpList P ops Q (o :: rest) a (W.alloc (.cells cs e)) := by
  subst hH
  refine wpList_append_lies (W.alloc (.cells cs e)) hgd s x t ho base e i z size bytes ht hi hz hsize hby hzs hsz v n xs hs (hown.alloc _) ⟨W.heap.size, 0, none⟩ 1 1 cs.toList hx
    (by simp [hcs]) (World.news_of_block (heap_alloc_new W _)) h1 (by omega) (by simp only [maxLen]; omega) ?_ (by simp; omega) (W.heap.size + 1) (by simp) ?_
  · have : (n + 1) * bytes ≤ 100000000 * 200 := Nat.mul_le_mul (by omega) hb200
    omega
  · intro g cap w' hown' hgrow hf hlt
    refine h g cap w' ⟨hown', ⟨hgrow.os, hgrow.tape, hgrow.output, by have := hgrow.size; rw [World.size_alloc] at this; omega, fun k hk hne => ?_⟩, ?_, hlt⟩
    · exact (hgrow.block k (by rw [World.size_alloc]; omega) hne).trans (heap_alloc_old W _ hk)
    · rcases hf with hf | hf
      · exact .inl hf
      · exact .inr (by omega)
theorem str_ne {a b : ByteArray} (h : a ≠ b) : (a.toList == b.toList) = false := by
  rw [beq_eq_false_iff_ne, Lib.toList_data, Lib.toList_data]
  intro e
  apply h
  obtain ⟨⟨a⟩⟩ := a
  obtain ⟨⟨b⟩⟩ := b
  simp only at e
  rw [e]
theorem own_at {w w' : World} {base n sz : Nat} {e : TypeId} {v : Value} {xs : List Value} (h : w.ownsRow base e sz v n xs) (hk : ∀ g, v.ownBlock = some g → w'.heap[g]? = w.heap[g]?) : w'.ownsRow base e sz v n xs := by
  refine ⟨h.1, ?_⟩
  rcases h.2 with hn | ⟨g, cap, cur, rfl, hb, hgg, rest⟩
  · exact .inl hn
  · exact .inr ⟨g, cap, cur, rfl, hb, (hk g rfl).trans hgg, rest⟩
/-- the type of the block that is owned -/
theorem own_type {w : World} {base n sz : Nat} {e : TypeId} {v : Value} {xs : List Value} (h : w.ownsRow base e sz v n xs) {g : Nat} (hg : v.ownBlock = some g) : ∃ cur, w.heap[g]? = some (.cells cur e (0, 0)) := by
  rcases h.2 with ⟨rfl, _⟩ | ⟨g', cap, cur, rfl, hb, hgg, rest⟩
  · simp [Value.ownBlock] at hg
  · obtain rfl : g' = g := by simpa [Value.ownBlock] using hg
    exact ⟨cur, hgg⟩
/-- what turns just block d, and rows of one type behind it -/
structure TKeep (T : TypeId) (d : Nat) (w w' : World) : Prop where
  below : Below d w w'
  others : ∀ b, d < b → b < w.heap.size → (∀ cs z, w.heap[b]? ≠ some (.cells cs T z)) → w'.heap[b]? = w.heap[b]?
theorem TKeep.refl (T : TypeId) (d : Nat) (w : World) : TKeep T d w w := ⟨Below.refl _ _, fun _ _ _ _ => rfl⟩
theorem TKeep.trans {T : TypeId} {d : Nat} {a b c : World} (h : TKeep T d a b) (k : TKeep T d b c) : TKeep T d a c :=
  ⟨h.below.trans k.below, fun x hx hs ht => by
    have h1 := h.others x hx hs ht
    rw [k.others x hx (Nat.lt_of_lt_of_le hs h.below.size) (by rw [h1]; exact ht), h1]⟩
theorem TKeep.of_below {T : TypeId} {d : Nat} {w w' : World} (h : Below w.heap.size w w') (hd : d ≤ w.heap.size) : TKeep T d w w' := ⟨h.mono hd, fun b _ hs _ => h.block b hs⟩
theorem TKeep.set {T : TypeId} {w : World} {d j : Nat} (u : Value) : TKeep T d w (w.setCell ⟨d, j, none⟩ u) :=
  ⟨(Below.refl d w).setCell (p := ⟨d, j, none⟩) (Nat.le_refl _) u, fun b hb _ _ => heap_setCell_other w ⟨d, j, none⟩ b u (by show b ≠ d; omega)⟩
theorem TKeep.grown {T : TypeId} {d n sz : Nat} {w w' : World} {v : Value} {xs : List Value} (ho : w.ownsRow (d + 1) T sz v n xs) (hg : w.grownBy w' v.ownBlock) (hd : d ≤ w.heap.size) : TKeep T d w w' := by
  refine ⟨(Below.refl d w).grown hg hd (fun k e => by have := (ho.lt k e).1; omega), fun b hb hs ht => hg.block b hs (fun e => ?_)⟩
  obtain ⟨cur, hc⟩ := own_type ho e.symm
  exact ht _ _ hc
/-- pairs behind the box at block s -/
structure Sr (s : Nat) (A1 A2 : Option Addr) (c1 c2 : Nat) (L : List (ByteArray × ByteArray)) (w : World) : Prop where
  box : w.heap[s]? = some (.cells #[.slice A1 L.length c1, .slice A2 L.length c2] 30 (0, 0))
  names : w.ownsRow (s + 1) 9 1 (.slice A1 L.length c1) L.length (L.map fun p => Value.string p.1)
  bytes : w.ownsRow (s + 1) 9 1 (.slice A2 L.length c2) L.length (L.map fun p => Value.string p.2)
  apart : ∀ g, (Value.slice A1 L.length c1).ownBlock = some g → (Value.slice A2 L.length c2).ownBlock ≠ some g
theorem Sr.lt {s c1 c2 : Nat} {A1 A2 : Option Addr} {L : List (ByteArray × ByteArray)} {w : World} (h : Sr s A1 A2 c1 c2 L w) : s < w.heap.size := bx_lt h.box
theorem Sr.kept {s c1 c2 : Nat} {A1 A2 : Option Addr} {L : List (ByteArray × ByteArray)} {w w' : World} (h : Sr s A1 A2 c1 c2 L w) (hb : Below w.heap.size w w') : Sr s A1 A2 c1 c2 L w' :=
  ⟨bx_kept h.box hb, bx_own_below h.names hb, bx_own_below h.bytes hb, h.apart⟩
theorem Sr.dkept {s d c1 c2 : Nat} {A1 A2 : Option Addr} {L : List (ByteArray × ByteArray)} {w w' : World} (h : Sr s A1 A2 c1 c2 L w) (hk : DKeep d w w') (hd : d < s) : Sr s A1 A2 c1 c2 L w' := by
  have key : ∀ {v : Value} {n : Nat} {xs : List Value}, w.ownsRow (s + 1) 9 1 v n xs → w'.ownsRow (s + 1) 9 1 v n xs := fun ho => own_at ho fun g hg => by
    obtain ⟨cur, hc⟩ := own_type ho hg
    have h1 := ho.lt g hg
    exact hk.others g (by omega) h1.2 (fun cs z e => by rw [hc] at e; simp at e)
  exact ⟨dkeep_box hk h.box (by omega) (by decide), key h.names, key h.bytes, h.apart⟩
theorem Dk.tkept {d s c : Nat} {A : Option Addr} {S : DS} {w w' : World} (h : Dk d A c S w) (hk : TKeep 9 s w w') (hd : d < s) (hs : ∃ cs, w.heap[s]? = some (.cells cs 30 (0, 0))) : Dk d A c S w' := by
  refine ⟨(hk.below.block d hd).trans h.box, own_at h.row fun g hg => ?_⟩
  obtain ⟨cur, hc⟩ := own_type h.row hg
  obtain ⟨cs, hcs⟩ := hs
  have h1 := h.row.lt g hg
  rcases Nat.lt_trichotomy g s with hlt | heq | hgt
  · exact hk.below.block g hlt
  · subst heq
    rw [hc] at hcs; simp at hcs
  · exact hk.others g hgt h1.2 (fun cs z e => by rw [hc] at e; simp at e)
/-- the first bytes of a name that must be there -/
def getL (L : List (ByteArray × ByteArray)) (nm : ByteArray) : ByteArray := match L.find? (fun p => decide (p.1 = nm)) with
  | some p => p.2
  | none => ⟨#[]⟩
def dropL (L : List (ByteArray × ByteArray)) (nm : ByteArray) : List (ByteArray × ByteArray) := L.filter (fun p => decide (p.1 ≠ nm))
theorem find_no {L : List (ByteArray × ByteArray)} {nm : ByteArray} (h : ∀ p ∈ L, p.1 ≠ nm) : getL L nm = ⟨#[]⟩ := by
  unfold getL
  rw [List.find?_eq_none.2 (fun p hp => by simpa using h p hp)]
theorem find_yes {L : List (ByteArray × ByteArray)} {nm : ByteArray} {k : Nat} {p : ByteArray × ByteArray} (hk : L[k]? = some p) (hp : p.1 = nm) (h : ∀ q ∈ L.take k, q.1 ≠ nm) : getL L nm = p.2 := by
  unfold getL
  obtain ⟨h1, h2⟩ := List.getElem?_eq_some_iff.1 hk
  have e : L = L.take k ++ p :: L.drop (k + 1) := by rw [← h2, ← List.drop_eq_getElem_cons h1, List.take_append_drop]
  rw [e, List.find?_append, List.find?_eq_none.2 (fun q hq => by simpa using h q hq), List.find?_cons_of_pos (by simpa using hp)]
  rfl
theorem drop_len (L : List (ByteArray × ByteArray)) (nm : ByteArray) : (dropL L nm).length ≤ L.length := List.length_filter_le _ _
theorem drop_snoc (L : List (ByteArray × ByteArray)) (nm : ByteArray) (p : ByteArray × ByteArray) : dropL (L ++ [p]) nm = if p.1 = nm then dropL L nm else dropL L nm ++ [p] := by
  unfold dropL
  rw [List.filter_append]
  split
  · rename_i h; simp [h]
  · rename_i h; simp [h]
theorem Rd.ownAt {w : World} {base n c : Nat} {A : Option Addr} {e : TypeId} {l : List (ByteArray × ByteArray)} {f : ByteArray × ByteArray → Value} (h : w.ownsRow base e 1 (.slice A n c) n (l.map f)) {k : Nat} {p : ByteArray × ByteArray} (hk : l[k]? = some p) :
    ∃ ad, A = some ad ∧ ad.block < w.heap.size ∧ w.cell? (ad.add k) = some (f p) := Rd.own h k (f p) (by rw [List.getElem?_map, hk]; rfl)

set_option maxRecDepth 100000 in
theorem sure_get (s c1 c2 : Nat) (A1 A2 : Option Addr) (L : List (ByteArray × ByteArray)) (hl : L.length ≤ 1000) (nm : ByteArray) (w : World) (h : Sr s A1 A2 c1 c2 L w) :
    Calls Try.prog 32 #[.pointer (some ⟨s, 0, none⟩), .string nm] w fun e w' => e = .returned (.string (getL L nm)) ∧ w = w' := by
  have x0 := bx_cells h.box 0
  have x1 := bx_cells h.box 1
  have HN := Lib.hid h.names
  have HB := Lib.hid h.bytes
  clear h
  go_enter Try.func32, Try.ntmps32
  go_wp2_with fail
  go_loopw [5] (fun i wr => ∃ k : Nat, k ≤ L.length ∧ i = .int .i64 k ∧ wr = w ∧ ∀ p ∈ L.take k, p.1 ≠ nm) (fun i _ => L.length - (intOf i).toNat)
  case atStart => exact ⟨0, by omega, rfl, rfl, by simp⟩
  case round =>
    obtain ⟨k, hk, rfl, rfl, hpre⟩ := hrel
    have HPRE := Lib.hid hpre
    clear hpre
    by_cases hlt : k < L.length
    · obtain ⟨p, hk'⟩ : ∃ f, L[k]? = some f := ⟨L[k], List.getElem?_eq_getElem hlt⟩
      obtain ⟨a1, rfl, l1, y1⟩ := Rd.ownAt HN.out hk'
      obtain ⟨a2, rfl, l2, y2⟩ := Rd.ownAt HB.out hk'
      have HS := Lib.hid (ataken L k p hk')
      have HK := Lib.hid hk'
      have hi1 : (k : Int) < (L.length : Int) := by omega
      clear hk'
      obtain ⟨p1, p2⟩ := p
      simp only at y1 y2
      by_cases he : p1 = nm
      · subst he
        have HG := Lib.hid (find_yes HK.out rfl HPRE.out)
        go_wp2_with fail
        go_ret
        exact ⟨by rw [HG.out]; rfl, rfl⟩
      · have he2 := str_ne he
        go_wp2_with fail
        refine ⟨⟨k + 1, by omega, by go_num, trivial, ?_⟩, by show L.length - ((k : Int) + 1).toNat < L.length - ((k : Int)).toNat; omega⟩
        rw [HS.out]
        intro q hq
        rcases List.mem_append.1 hq with hq | hq
        · exact HPRE.out q hq
        · obtain rfl : q = (p1, p2) := by simpa using hq
          exact he
    · have HG := Lib.hid (find_no (fun p hp => HPRE.out p (by rwa [List.take_of_length_le (by omega)])))
      go_wp2_with fail
      go_ret
      exact ⟨by rw [HG.out]; rfl, rfl⟩
end Go.Proofs.Ytmkaijjakcjflaa
