/- Slices that come in: what they read as, nil let in; arguments that are slices of numbers or of texts, opened · A slice of structs whose fields have one cell each, opened: over any program · Slices of arrays of three numbers that come in: opened · Layer 32: a log's acts that come in as a slice; are they few?. -/
import Derived.Test.YtcpmicinibfepaaGreatDoorWAb
import Derived.SliceStrings
import Derived.ChangeSlices
import Derived.Deep.Slices
namespace Go.Proofs.YtcpmicinibfepaaGreatDoor
open Go.ChangeShapes Go.WideShapes Go.ChangeAt Go.RowKit Go.Deep


/-- a slice at A reads as xs, each element one cell, below block B -/
def Rd (w : World) (B : Nat) (A : Option Addr) (xs : List Value) : Prop := ∀ j u, xs[j]? = some u → ∃ ad, A = some ad ∧ ad.block < B ∧ w.cell? (ad.add j) = some u
theorem addr_add_block (a : Addr) (n : Nat) : (a.add n).block = a.block := by unfold Addr.add; split <;> rfl
section
variable {w w' : World} {B B' : Nat} {A : Option Addr} {xs : List Value}
theorem Rd.below (h : Rd w B A xs) (hb : Below B w w') : Rd w' B A xs := fun j u hj => by
  obtain ⟨ad, e, hlt, hc⟩ := h j u hj
  exact ⟨ad, e, hlt, (hb.cell (p := ad.add j) (by rw [addr_add_block]; exact hlt)).trans hc⟩
theorem Rd.more (h : Rd w B A xs) (hB : B ≤ B') : Rd w B' A xs := fun j u hj => by
  obtain ⟨ad, e, hlt, hc⟩ := h j u hj
  exact ⟨ad, e, by omega, hc⟩
theorem Rd.nil : Rd w B A [] := fun j u hj => by simp at hj
theorem Rd.new (w : World) (t : TypeId) (cs : Array Value) : Rd (w.alloc (.cells cs t)) (w.heap.size + 1) (some ⟨w.heap.size, 0, none⟩) cs.toList := fun j u hj => by
  refine ⟨_, rfl, by simp, ?_⟩
  have e1 : (⟨w.heap.size, 0, none⟩ : Addr).add j = ⟨w.heap.size, j, none⟩ := by unfold Addr.add; split <;> simp_all
  rw [e1, cell_of_row _ _ _ cs t _ (heap_alloc_new w _)]
  simpa using hj
theorem Rd.own {e : TypeId} {n c base : Nat} (h : w.ownsRow base e 1 (.slice A n c) n xs) : Rd w w.heap.size A xs := fun j u hj => by
  have hn : 0 < n := by
    have h1 := h.1
    have := (List.getElem?_eq_some_iff.1 hj).1
    omega
  rcases h.2 with ⟨h0, h1⟩ | ⟨g, cap, cur, hv, hb, hg, hrest⟩
  · omega
  · injection hv with hA
    refine ⟨_, hA, (Array.getElem?_eq_some_iff.1 hg).1, ?_⟩
    exact h.cells (by rw [hA]; rfl) j u hj
end
/-- a slice of numbers, opened -/
structure SlI where
  A : Option Addr
  c : Nat
  l : List Int
/-- a slice of texts, opened -/
structure SlS where
  A : Option Addr
  c : Nat
  l : List ByteArray
section
variable {H : Type} {enc : TypeId × Value → H} {P : Program} {w : World} {base : Nat} {spare : Nat → Bool} {held : Bool}
theorem row_block {a : Addr} {n : Nat} (hn : 0 < n) {B : Nat} (h : ∀ x ∈ MemPlace.row a n, x.block < B) : a.block < B := by
  have := h (.cell a.block (a.off + 0)) (by unfold MemPlace.row; exact List.mem_map.2 ⟨0, by simpa using hn, rfl⟩)
  exact this
theorem open_intl_of {t e : TypeId} {v : Value} {d : DataW H} {p : List MemPlace} (ht : P.underlying t = some (.slice e)) (he : P.underlying e = some (.int .i64)) (hc : P.cellsOf e = 1) (hsz : v.cells = #[v])
    (h : DataW.Trod enc P w base spare held t v d p) (hl : ∀ x ∈ p, x.block < w.heap.size) :
    ∃ a : SlI, v = .slice a.A a.l.length a.c ∧ a.l.length ≤ maxLen ∧ (∀ n ∈ a.l, I64 n) ∧ Rd w w.heap.size a.A (a.l.map (Value.int .i64)) := by
  obtain ⟨fuel, hf⟩ := h
  rw [hsz] at hf
  rcases open_ints ht he hc hf with ⟨h1, h2⟩ | ⟨a, len, cap, zs, h1, hb, hlc, hcm, hzl, hx, hcell, hwf⟩
  · refine ⟨⟨none, 0, []⟩, by simpa using h1, by simp, by simp, Rd.nil⟩
  · have hv : v = .slice (some a) len cap := by simpa using h1
    simp only [Prod.mk.injEq] at hx
    have hlen : len ≤ zs.length := by rw [hzl]; split <;> omega
    refine ⟨⟨some a, cap, zs.take len⟩, ?_, ?_, fun n hn => I64_of_wf (hwf n (List.mem_of_mem_take hn)), fun j u hj => ?_⟩
    · rw [hv]; simp only [List.length_take, Nat.min_eq_left hlen]
    · simp only [List.length_take]; omega
    · rw [List.getElem?_map] at hj
      cases hz : (zs.take len)[j]? with
      | none => rw [hz] at hj; simp at hj
      | some n =>
        rw [hz] at hj
        obtain rfl : Value.int .i64 n = u := by simpa using hj
        obtain ⟨hjl, hn⟩ := List.getElem?_eq_some_iff.1 hz
        rw [List.length_take] at hjl
        have hjz : j < zs.length := by omega
        refine ⟨a, rfl, row_block (n := zs.length) (by omega) (by rw [← hx.2]; exact hl), ?_⟩
        rw [hcell j hjz, ← hn]
        simp [List.getD, hjz]
theorem open_strl_of {t e : TypeId} {v : Value} {d : DataW H} {p : List MemPlace} (ht : P.underlying t = some (.slice e)) (he : P.underlying e = some .string) (hc : P.cellsOf e = 1) (hsz : v.cells = #[v])
    (h : DataW.Trod enc P w base spare held t v d p) (hl : ∀ x ∈ p, x.block < w.heap.size) :
    ∃ a : SlS, v = .slice a.A a.l.length a.c ∧ a.l.length ≤ maxLen ∧ (∀ s ∈ a.l, s.size ≤ maxLen) ∧ Rd w w.heap.size a.A (a.l.map Value.string) := by
  obtain ⟨fuel, hf⟩ := h
  rw [hsz] at hf
  rcases open_strings ht he hc hf with ⟨h1, h2⟩ | ⟨a, len, cap, zs, h1, hb, hlc, hcm, hzl, hx, hcell, hwf⟩
  · refine ⟨⟨none, 0, []⟩, by simpa using h1, by simp, by simp, Rd.nil⟩
  · have hv : v = .slice (some a) len cap := by simpa using h1
    simp only [Prod.mk.injEq] at hx
    have hlen : len ≤ zs.length := by rw [hzl]; split <;> omega
    refine ⟨⟨some a, cap, zs.take len⟩, ?_, ?_, fun n hn => hwf n (List.mem_of_mem_take hn), fun j u hj => ?_⟩
    · rw [hv]; simp only [List.length_take, Nat.min_eq_left hlen]
    · simp only [List.length_take]; omega
    · rw [List.getElem?_map] at hj
      cases hz : (zs.take len)[j]? with
      | none => rw [hz] at hj; simp at hj
      | some n =>
        rw [hz] at hj
        obtain rfl : Value.string n = u := by simpa using hj
        obtain ⟨hjl, hn⟩ := List.getElem?_eq_some_iff.1 hz
        rw [List.length_take] at hjl
        have hjz : j < zs.length := by omega
        refine ⟨a, rfl, row_block (n := zs.length) (by omega) (by rw [← hx.2]; exact hl), ?_⟩
        rw [hcell j hjz, ← hn]
        simp [List.getD, hjz]
/-- a slice's value is one cell -/
theorem slice_cells {t e : TypeId} {r : Reach} {b0 : Nat} {v : Value} (ht : P.underlying t = some (.slice e)) (hv : Value.okWide P w r b0 t v) : v.cells = #[v] := by
  cases v <;> first | rfl | simp_all [Value.okWide, Cell.okWide, Cell.ok]
end

set_option maxRecDepth 100000 in
theorem open_intl {H : Type} {enc : TypeId × Value → H} {w : World} {base : Nat} {spare : Nat → Bool} {held : Bool} {r : Reach} {b0 : Nat} {v : Value} {d : DataW H} {p : List MemPlace}
    (hv : Value.okWide Tryz.prog w r b0 34 v) (h : DataW.Trod enc Tryz.prog w base spare held 34 v d p) (hl : ∀ x ∈ p, x.block < w.heap.size) :
    ∃ a : SlI, v = .slice a.A a.l.length a.c ∧ a.l.length ≤ maxLen ∧ (∀ n ∈ a.l, I64 n) ∧ Rd w w.heap.size a.A (a.l.map (Value.int .i64)) :=
  open_intl_of Tryz.underlying34 Tryz.underlying3 (by kernel_rfl) (slice_cells Tryz.underlying34 hv) h hl

set_option maxRecDepth 100000 in
theorem open_strl {H : Type} {enc : TypeId × Value → H} {w : World} {base : Nat} {spare : Nat → Bool} {held : Bool} {r : Reach} {b0 : Nat} {v : Value} {d : DataW H} {p : List MemPlace}
    (hv : Value.okWide Tryz.prog w r b0 36 v) (h : DataW.Trod enc Tryz.prog w base spare held 36 v d p) (hl : ∀ x ∈ p, x.block < w.heap.size) :
    ∃ a : SlS, v = .slice a.A a.l.length a.c ∧ a.l.length ≤ maxLen ∧ (∀ s ∈ a.l, s.size ≤ maxLen) ∧ Rd w w.heap.size a.A (a.l.map Value.string) :=
  open_strl_of Tryz.underlying36 Tryz.underlying9 (by kernel_rfl) (slice_cells Tryz.underlying36 hv) h hl
end Go.Proofs.YtcpmicinibfepaaGreatDoor

namespace Go.Proofs.YtcpmicinibfepaaGreatDoor
open Go.ChangeShapes Go.WideShapes Go.ChangeAt Go.RowKit Go.Deep


section
variable {H : Type} {enc : TypeId × Value → H} {P : Program} {w : World} {base : Nat} {spare : Nat → Bool} {held : Bool}
theorem open_structs {t e : TypeId} {fs : Array Field} {v : Value} {d : DataW H} {p : List MemPlace} (ht : P.underlying t = some (.slice e)) (he : P.underlying e = some (.struct fs)) (hone : oneCellFields P fs = true)
    (hC : P.cellsOf e = fs.size) (hpos : 0 < fs.size) (hcs : v.cells = #[v]) (h : DataW.Trod enc P w base spare held t v d p) (hl : ∀ x ∈ p, x.block < w.heap.size) :
    v = .slice none 0 0 ∨ ∃ a len cap, v = .slice (some a) len cap ∧ len ≤ cap ∧ cap ≤ maxLen ∧ ∀ i, i < len → a.block < w.heap.size ∧
      ∃ cs : List Value, cs.length = fs.size ∧ (∀ j, j < fs.size → w.cell? (a.add (i * fs.size + j)) = cs[j]?) ∧
        ∀ (j : Nat) (f : Field), fs[j]? = some f → ∃ (c : Value) (y : DataW H × List MemPlace) (n : Nat), cs[j]? = some c ∧ DataW.trod enc P w base spare held n f.type [c] = some y := by
  obtain ⟨fuel, hf⟩ := h
  rw [hcs] at hf
  rcases open_slice ht hf with ⟨h0, _⟩ | ⟨a, len, cap, m, n, D, Pl, h0, hb, hlc, hm, hmm, hx, hall⟩
  · exact .inl (by simpa using h0)
  · right
    have hlm : len ≤ m := by rw [hmm]; split <;> omega
    refine ⟨a, len, cap, by simpa using h0, hlc, hm, fun i hi => ⟨?_, ?_⟩⟩
    · have hmp : 0 < m * P.cellsOf e := Nat.mul_pos (by omega) (by rw [hC]; exact hpos)
      refine row_block hmp (fun x hx' => hl x ?_)
      rw [(Prod.mk.inj hx).2]
      exact List.mem_append_left _ hx'
    · obtain ⟨cs', h1, h2⟩ := hall i (by omega)
      obtain ⟨_, hlen, hcell⟩ := World.cells?_some h1
      obtain ⟨xs, k, _, _, _, hxl, hg⟩ := DataW.trod_struct he h2
      rw [hC] at hlen hcell
      refine ⟨cs', hlen, fun j hj => (congrArg w.cell? (add_add a (i * fs.size) j).symm).trans (hcell j hj), fun j f hf => ?_⟩
      obtain ⟨o, q⟩ := hone_of hone j f hf
      have hj : j < fs.size := (Array.getElem?_eq_some_iff.1 hf).1
      have h3 := hg j f hf
      rw [o, q] at h3
      have e1 : (cs'.drop j).take 1 = [cs'[j]'(by omega)] := by
        rw [List.drop_eq_getElem_cons (show j < cs'.length by omega), List.take_succ_cons, List.take_zero]
      rw [e1, List.getElem?_eq_getElem (by omega)] at h3
      exact ⟨cs'[j]'(by omega), _, k, List.getElem?_eq_getElem (by omega), h3⟩
end
theorem at_off (a : Addr) (n : Nat) : (a.add n).off = a.off + n := by unfold Addr.add; split <;> simp_all
/-- the cell behind an element's first -/
theorem at_next (a : Addr) (n j : Nat) : a.add (n + (j + 1)) = ⟨(a.add n).block, (a.add n).off + (j + 1), none⟩ := by
  rw [show n + (j + 1) = (n + j) + 1 by omega, Addr.add_succ', addr_add_block, at_off]
  simp
end Go.Proofs.YtcpmicinibfepaaGreatDoor

namespace Go.Proofs.YtcpmicinibfepaaGreatDoor
open Go.ChangeShapes Go.WideShapes Go.ChangeAt Go.RowKit Go.Deep


section
variable {H : Type} {enc : TypeId × Value → H} {P : Program} {w : World} {base : Nat} {spare : Nat → Bool} {held : Bool}
theorem open_arr3s {t e ei : TypeId} {v : Value} {d : DataW H} {p : List MemPlace} (ht : P.underlying t = some (.slice e)) (he : P.underlying e = some (.array 3 ei)) (hi3 : P.underlying ei = some (.int .i64))
    (hC : P.cellsOf e = 3) (hC1 : P.cellsOf ei = 1) (hcs : v.cells = #[v]) (h : DataW.Trod enc P w base spare held t v d p) (hl : ∀ x ∈ p, x.block < w.heap.size) :
    v = .slice none 0 0 ∨ ∃ a len cap, v = .slice (some a) len cap ∧ len ≤ cap ∧ cap ≤ maxLen ∧ ∀ i, i < len → a.block < w.heap.size ∧
      ∃ x : Int × Int × Int, (I64 x.1 ∧ I64 x.2.1 ∧ I64 x.2.2) ∧ w.cell? (a.add (i * 3)) = some (.int .i64 x.1) ∧ w.cell? (a.add (i * 3 + 1)) = some (.int .i64 x.2.1) ∧ w.cell? (a.add (i * 3 + 2)) = some (.int .i64 x.2.2) := by
  obtain ⟨fuel, hf⟩ := h
  rw [hcs] at hf
  rcases open_slice ht hf with ⟨h0, _⟩ | ⟨a, len, cap, m, n, D, Pl, h0, hb, hlc, hm, hmm, hx, hall⟩
  · exact .inl (by simpa using h0)
  · right
    have hlm : len ≤ m := by rw [hmm]; split <;> omega
    refine ⟨a, len, cap, by simpa using h0, hlc, hm, fun i hi => ⟨?_, ?_⟩⟩
    · have hmp : 0 < m * P.cellsOf e := Nat.mul_pos (by omega) (by rw [hC]; omega)
      refine row_block hmp (fun x hx' => hl x ?_)
      rw [(Prod.mk.inj hx).2]
      exact List.mem_append_left _ hx'
    · obtain ⟨cs', h1, h2⟩ := hall i (by omega)
      obtain ⟨_, hlen, hcell⟩ := World.cells?_some h1
      obtain ⟨xs, k, _, _, _, hxl, hg⟩ := DataW.trod_array he h2
      rw [hC] at hlen hcell
      match cs', hlen with
      | [c0, c1, c2], _ =>
        have g0 := hg 0 (by omega)
        have g1 := hg 1 (by omega)
        have g2 := hg 2 (by omega)
        rw [hC1] at g0 g1 g2
        have x0 : xs[0]? = some (xs[0]'(by omega)) := List.getElem?_eq_getElem (by omega)
        have x1 : xs[1]? = some (xs[1]'(by omega)) := List.getElem?_eq_getElem (by omega)
        have x2 : xs[2]? = some (xs[2]'(by omega)) := List.getElem?_eq_getElem (by omega)
        obtain ⟨z0, rfl, w0⟩ := cell_int hi3 (g0.trans x0)
        obtain ⟨z1, rfl, w1⟩ := cell_int hi3 (g1.trans x1)
        obtain ⟨z2, rfl, w2⟩ := cell_int hi3 (g2.trans x2)
        have y0 := (congrArg w.cell? (add_add a (i * 3) 0).symm).trans (hcell 0 (by omega))
        have y1 := (congrArg w.cell? (add_add a (i * 3) 1).symm).trans (hcell 1 (by omega))
        have y2 := (congrArg w.cell? (add_add a (i * 3) 2).symm).trans (hcell 2 (by omega))
        exact ⟨(z0, z1, z2), ⟨I64_of_wf w0, I64_of_wf w1, I64_of_wf w2⟩, y0, y1, y2⟩
end
/-- a slice at A reads as threes, below block B -/
def RdT (w : World) (B : Nat) (A : Option Addr) (l : List (Int × Int × Int)) : Prop :=
  ∀ k x, l[k]? = some x → ∃ ad, A = some ad ∧ ad.block < B ∧ w.cell? (ad.add (k * 3)) = some (.int .i64 x.1) ∧ w.cell? ⟨(ad.add (k * 3)).block, (ad.add (k * 3)).off + 1, none⟩ = some (.int .i64 x.2.1) ∧ w.cell? ⟨(ad.add (k * 3)).block, (ad.add (k * 3)).off + 2, none⟩ = some (.int .i64 x.2.2)
theorem RdT.below {w w' : World} {B : Nat} {A : Option Addr} {l : List (Int × Int × Int)} (h : RdT w B A l) (hb : Below B w w') : RdT w' B A l := fun k x hk => by
  obtain ⟨ad, e, hlt, h0, h1, h2⟩ := h k x hk
  have hb' : ∀ a : Addr, a.block = ad.block → w'.cell? a = w.cell? a := fun a ha => hb.cell (p := a) (by rw [ha]; exact hlt)
  have hj : ∀ j, w'.cell? ⟨(ad.add (k * 3)).block, (ad.add (k * 3)).off + j, none⟩ = w.cell? ⟨(ad.add (k * 3)).block, (ad.add (k * 3)).off + j, none⟩ := fun j => hb' _ (addr_add_block ad (k * 3))
  exact ⟨ad, e, hlt, (hb' _ (addr_add_block ad (k * 3))).trans h0, (hj 1).trans h1, (hj 2).trans h2⟩
/-- a slice of threes, opened -/
structure SlT where
  A : Option Addr
  c : Nat
  l : List (Int × Int × Int)
def SlT.Ok (a : SlT) (w : World) : Prop := a.l.length ≤ maxLen ∧ a.l.length ≤ a.c ∧ a.c ≤ maxLen ∧ (∀ x ∈ a.l, I64 x.1 ∧ I64 x.2.1 ∧ I64 x.2.2) ∧ RdT w w.heap.size a.A a.l
theorem choose_lt3 {α : Type} [Inhabited α] {n : Nat} {Q : Nat → α → Prop} (h : ∀ i, i < n → ∃ x, Q i x) : ∃ q : Nat → α, ∀ i, i < n → Q i (q i) := by
  refine ⟨fun i => if hi : i < n then Classical.choose (h i hi) else default, fun i hi => ?_⟩
  simp only [hi, dif_pos]
  exact Classical.choose_spec (h i hi)

end Go.Proofs.YtcpmicinibfepaaGreatDoor

namespace Go.Proofs.YtcpmicinibfepaaGreatDoor
open Go.ChangeShapes Go.WideShapes Go.ChangeAt Go.RowKit Go.Deep


/-- an act of a log -/
structure Wa where
  kind : Int
  s : ByteArray
  n : Int
def RdWa (w : World) (B : Nat) (A : Option Addr) (l : List Wa) : Prop :=
  ∀ k p, l[k]? = some p → ∃ ad, A = some ad ∧ ad.block < B ∧ w.cell? (ad.add (k * 3)) = some (.int .i64 p.kind) ∧ w.cell? ⟨(ad.add (k * 3)).block, (ad.add (k * 3)).off + 1, none⟩ = some (.string p.s) ∧ w.cell? ⟨(ad.add (k * 3)).block, (ad.add (k * 3)).off + 2, none⟩ = some (.int .i64 p.n)
theorem RdWa.below {w w' : World} {B : Nat} {A : Option Addr} {l : List Wa} (h : RdWa w B A l) (hb : Below B w w') : RdWa w' B A l := fun k p hk => by
  obtain ⟨ad, e, hlt, h0, h1, h2⟩ := h k p hk
  refine ⟨ad, e, hlt, (hb.cell (p := ad.add (k * 3)) (by rw [addr_add_block]; exact hlt)).trans h0, (hb.cell (p := ⟨(ad.add (k * 3)).block, _, none⟩) ?_).trans h1, (hb.cell (p := ⟨(ad.add (k * 3)).block, _, none⟩) ?_).trans h2⟩
  · show (ad.add (k * 3)).block < B; rw [addr_add_block]; exact hlt
  · show (ad.add (k * 3)).block < B; rw [addr_add_block]; exact hlt
/-- a slice of acts, opened -/
structure SlWa where
  A : Option Addr
  c : Nat
  l : List Wa
def SlWa.Ok (a : SlWa) (w : World) : Prop := a.l.length ≤ maxLen ∧ a.l.length ≤ a.c ∧ a.c ≤ maxLen ∧ (∀ p ∈ a.l, I64 p.kind ∧ I64 p.n ∧ p.s.size ≤ maxLen) ∧ RdWa w w.heap.size a.A a.l
/-- few acts of few bytes -/
def fewW (l : List Wa) : Prop := l.length ≤ 30 ∧ ∀ p ∈ l, p.s.size ≤ 100
theorem wtake_snoc {α : Type} (l : List α) (k : Nat) (f : α) (h : l[k]? = some f) : l.take (k + 1) = l.take k ++ [f] := by
  obtain ⟨h1, rfl⟩ := List.getElem?_eq_some_iff.1 h
  exact List.take_succ_eq_append_getElem h1

theorem Tryz.cells_wact : Tryz.prog.cellsOf 30 = 3 := by kernel_rfl
instance : Inhabited Wa := ⟨⟨0, ⟨#[]⟩, 0⟩⟩
set_option maxRecDepth 100000 in
theorem open_wactl {H : Type} {enc : TypeId × Value → H} {w : World} {base : Nat} {spare : Nat → Bool} {held : Bool} {r : Reach} {b0 : Nat} {v : Value} {d : DataW H} {p : List MemPlace}
    (hv : Value.okWide Tryz.prog w r b0 22 v) (h : DataW.Trod enc Tryz.prog w base spare held 22 v d p) (hl : ∀ x ∈ p, x.block < w.heap.size) :
    ∃ a : SlWa, v = .slice a.A a.l.length a.c ∧ a.Ok w := by
  rcases open_structs Tryz.underlying22 Tryz.underlying30 (by kernel_rfl) Tryz.cells_wact (by simp) (slice_cells Tryz.underlying22 hv) h hl with h1 | ⟨a, len, cap, hc, hlc, hm, hall⟩
  · exact ⟨⟨none, 0, []⟩, by simpa using h1, by simp, by simp, by simp, by simp, fun j f hj => by simp at hj⟩
  · have hch : ∀ i, i < len → ∃ q : Wa, w.cell? (a.add (i * 3)) = some (.int .i64 q.kind) ∧ w.cell? (a.add (i * 3 + 1)) = some (.string q.s) ∧ w.cell? (a.add (i * 3 + 2)) = some (.int .i64 q.n) ∧ I64 q.kind ∧ I64 q.n ∧ q.s.size ≤ maxLen := fun i hi => by
      obtain ⟨_, cs, hlen, hcell, hg⟩ := hall i hi
      obtain ⟨c0, y0, n0, e0, t0⟩ := hg 0 _ rfl
      obtain ⟨c1, y1, n1, e1, t1⟩ := hg 1 _ rfl
      obtain ⟨c2, y2, n2, e2, t2⟩ := hg 2 _ rfl
      obtain ⟨z0, rfl, w0⟩ := cell_int Tryz.underlying3 t0
      obtain ⟨s1, rfl, w1⟩ := cell_string Tryz.underlying9 t1
      obtain ⟨z2, rfl, w2⟩ := cell_int Tryz.underlying3 t2
      exact ⟨⟨z0, s1, z2⟩, (hcell 0 (by simp)).trans e0, (hcell 1 (by simp)).trans e1, (hcell 2 (by simp)).trans e2, I64_of_wf w0, I64_of_wf w2, w1⟩
    obtain ⟨q, hq⟩ := choose_lt3 hch
    refine ⟨⟨some a, cap, (List.range len).map q⟩, by simpa using hc, by simp; omega, by simpa using hlc, hm, fun f hf => ?_, fun j f hj => ?_⟩
    · obtain ⟨i, hi, rfl⟩ := List.mem_map.1 hf
      have := hq i (List.mem_range.1 hi)
      exact ⟨this.2.2.2.1, this.2.2.2.2.1, this.2.2.2.2.2⟩
    · obtain ⟨i, hi, rfl⟩ : ∃ i, (List.range len)[j]? = some i ∧ q i = f := by rw [List.getElem?_map] at hj; exact Option.map_eq_some_iff.1 hj
      obtain ⟨hj1, hj2⟩ := List.getElem?_eq_some_iff.1 hi
      rw [List.length_range] at hj1
      obtain rfl : j = i := by simpa using hj2
      obtain ⟨c0, c1, c2, _⟩ := hq j hj1
      exact ⟨a, rfl, (hall j hj1).1, c0, by rw [← c1, show (1 : Nat) = 0 + 1 from rfl, at_next], by rw [← c2, show (2 : Nat) = 1 + 1 from rfl, at_next]⟩

set_option maxRecDepth 100000 in
theorem ref32_Few_yes (A : Option Addr) (c : Nat) (l : List Wa) (hf : fewW l) (w : World) (hr : RdWa w w.heap.size A l) :
    Calls Tryz.prog 7 #[.slice A l.length c] w fun e w' => e = .returned (.bool true) ∧ w = w' := by
  have HR := Lib.hid hr
  have HF := Lib.hid hf
  have h20 := hf.1
  clear hr hf
  go_enter Tryz.func7, Tryz.ntmps7
  go_wp2_with fail
  go_loopw [3] (fun i wr => ∃ k : Nat, k ≤ l.length ∧ i = .int .i64 k ∧ w = wr) (fun i _ => l.length - (intOf i).toNat)
  case atStart => exact ⟨0, by omega, rfl, rfl⟩
  case round =>
    obtain ⟨k, hk, rfl, rfl⟩ := hrel
    by_cases hlt : k < l.length
    · obtain ⟨f, hk'⟩ : ∃ f, l[k]? = some f := ⟨l[k], List.getElem?_eq_getElem hlt⟩
      obtain ⟨ad, rfl, hadl, h0, h1, h2⟩ := HR.out k f hk'
      have hle : f.s.size ≤ 100 := HF.out.2 f (List.mem_of_getElem? hk')
      have hi1 : (k : Int) < (l.length : Int) := by omega
      have hi2 : (k : Int) < 30 := by omega
      clear hk'
      go_wp2_with fail
      exact ⟨⟨k + 1, by omega, by go_num, trivial⟩, by simp [intOf]; omega⟩
    · have hd : decide ((l.length : Int) ≤ 30) = true := by rw [decide_eq_true_eq]; omega
      go_wp2_with fail
      go_ret
      exact ⟨rfl, rfl⟩
set_option maxRecDepth 100000 in
theorem ref32_Few_no (A : Option Addr) (c : Nat) (l : List Wa) (hm : l.length ≤ maxLen) (hz : ∀ p ∈ l, p.s.size ≤ maxLen) (hf : ¬ fewW l) (w : World) (hr : RdWa w w.heap.size A l) :
    Calls Tryz.prog 7 #[.slice A l.length c] w fun e w' => e = .returned (.bool false) ∧ w = w' := by
  have HR := Lib.hid hr
  have HF := Lib.hid hf
  have HZ := Lib.hid hz
  unfold maxLen at hm
  clear hr hf hz
  go_enter Tryz.func7, Tryz.ntmps7
  go_wp2_with fail
  go_loopw [3] (fun i wr => ∃ k : Nat, k ≤ l.length ∧ k ≤ 30 ∧ i = .int .i64 k ∧ w = wr ∧ Hid (∀ f ∈ l.take k, f.s.size ≤ 100)) (fun i _ => l.length - (intOf i).toNat)
  case atStart => exact ⟨0, by omega, by omega, rfl, rfl, Lib.hid (by simp)⟩
  case round =>
    obtain ⟨k, hk, hk20, rfl, rfl, HPRE⟩ := hrel
    by_cases hlt : k < l.length
    · by_cases hlt2 : k < 30
      · obtain ⟨f, hk'⟩ : ∃ f, l[k]? = some f := ⟨l[k], List.getElem?_eq_getElem hlt⟩
        obtain ⟨ad, rfl, hadl, h0, h1, h2⟩ := HR.out k f hk'
        have HS := Lib.hid (wtake_snoc l k f hk')
        have hsz := HZ.out f (List.mem_of_getElem? hk')
        unfold maxLen at hsz
        have hi1 : (k : Int) < (l.length : Int) := by omega
        have hi2 : (k : Int) < 30 := by omega
        clear hk'
        by_cases hle : f.s.size ≤ 100
        · go_wp2_with fail
          refine ⟨⟨k + 1, by omega, by omega, by go_num, trivial, Lib.hid ?_⟩, by simp [intOf]; omega⟩
          rw [HS.out]
          intro x hx
          rcases List.mem_append.1 hx with hx | hx
          · exact HPRE.out x hx
          · rw [List.mem_singleton.1 hx]; exact hle
        · have hgt : 100 < f.s.size := by omega
          go_wp2_with fail
          go_ret
          exact ⟨rfl, rfl⟩
      · have hi2 : ¬ (k : Int) < 30 := by omega
        have hi1 : (k : Int) < (l.length : Int) := by omega
        have hd : decide ((l.length : Int) ≤ 30) = false := by rw [decide_eq_false_iff_not]; omega
        go_wp2_with fail
        go_ret
        exact ⟨rfl, rfl⟩
    · have hd : decide ((l.length : Int) ≤ 30) = false := by
        rw [decide_eq_false_iff_not]
        exact fun h => HF.out ⟨by omega, fun p hp => HPRE.out p (by rwa [List.take_of_length_le (by omega)])⟩
      go_wp2_with fail
      go_ret
      exact ⟨rfl, rfl⟩
end Go.Proofs.YtcpmicinibfepaaGreatDoor
