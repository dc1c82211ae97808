/- Layer 7: acts that come in as a slice (each with a slice of its own): opened; are they few? · Layer 7: the law's own way to do an act. -/
import Derived.Test.YtabccphcoojbjaaGreatDoorQAy
import Derived.Test.YtabccphcoojbjaaGreatDoorQAm
namespace Go.Proofs.YtabccphcoojbjaaGreatDoor
open Go.ChangeShapes Go.WideShapes Go.ChangeAt Go.RowKit Go.Deep DiskP


section
variable {H : Type} {enc : TypeId × Value → H} {P : Program} {w : World} {base : Nat} {spare : Nat → Bool} {held : Bool}
/-- as open_structs, with the places that each field's own reading has -/
theorem open_structs_at {t e : TypeId} {fs : Array Field} {v : Value} {d : DataW H} {p : List MemPlace} (ht : P.underlying t = some (.slice e)) (he : P.underlying e = some (.struct fs)) (hone : oneCellFields P fs = true)
    (hC : P.cellsOf e = fs.size) (hpos : 0 < fs.size) (hcs : v.cells = #[v]) (h : DataW.Trod enc P w base spare held t v d p) (hl : ∀ x ∈ p, x.block < w.heap.size) :
    v = .slice none 0 0 ∨ ∃ a len cap, v = .slice (some a) len cap ∧ len ≤ cap ∧ cap ≤ maxLen ∧ ∀ i, i < len → a.block < w.heap.size ∧
      ∃ cs : List Value, cs.length = fs.size ∧ (∀ j, j < fs.size → w.cell? (a.add (i * fs.size + j)) = cs[j]?) ∧
        ∀ (j : Nat) (f : Field), fs[j]? = some f → ∃ (c : Value) (y : DataW H × List MemPlace) (n : Nat), cs[j]? = some c ∧ DataW.trod enc P w base spare held n f.type [c] = some y ∧ ∀ x ∈ y.2, x.block < w.heap.size := by
  obtain ⟨fuel, hf⟩ := h
  rw [hcs] at hf
  rcases open_slice ht hf with ⟨h0, _⟩ | ⟨a, len, cap, m, n, D, Pl, h0, hb, hlc, hm, hmm, hx, hall⟩
  · exact .inl (by simpa using h0)
  · right
    have hlm : len ≤ m := by rw [hmm]; split <;> omega
    refine ⟨a, len, cap, by simpa using h0, hlc, hm, fun i hi => ⟨?_, ?_⟩⟩
    · have hmp : 0 < m * P.cellsOf e := Nat.mul_pos (by omega) (by rw [hC]; exact hpos)
      refine row_block hmp (fun x hx' => hl x ?_)
      rw [(Prod.mk.inj hx).2]
      exact List.mem_append_left _ hx'
    · obtain ⟨cs', h1, h2⟩ := hall i (by omega)
      obtain ⟨_, hlen, hcell⟩ := World.cells?_some h1
      obtain ⟨xs, k, _, hxe, _, hxl, hg⟩ := DataW.trod_struct he h2
      rw [hC] at hlen hcell
      refine ⟨cs', hlen, fun j hj => (congrArg w.cell? (add_add a (i * fs.size) j).symm).trans (hcell j hj), fun j f hf => ?_⟩
      obtain ⟨o, q⟩ := hone_of hone j f hf
      have hj : j < fs.size := (Array.getElem?_eq_some_iff.1 hf).1
      have h3 := hg j f hf
      rw [o, q] at h3
      have e1 : (cs'.drop j).take 1 = [cs'[j]'(by omega)] := by
        rw [List.drop_eq_getElem_cons (show j < cs'.length by omega), List.take_succ_cons, List.take_zero]
      rw [e1, List.getElem?_eq_getElem (by omega)] at h3
      refine ⟨cs'[j]'(by omega), _, k, List.getElem?_eq_getElem (by omega), h3, fun x hx2 => hl x ?_⟩
      rw [(Prod.mk.inj hx).2]
      refine List.mem_append_right _ (List.mem_flatMap.2 ⟨i, List.mem_range.2 (by omega), ?_⟩)
      rw [(Prod.mk.inj hxe).2]
      exact List.mem_flatMap.2 ⟨_, List.getElem_mem _, hx2⟩
/-- a slice of numbers, in one cell -/
theorem open_intl_cell {t e : TypeId} {v : Value} {y : DataW H × List MemPlace} {n : Nat} (ht : P.underlying t = some (.slice e)) (he : P.underlying e = some (.int .i64)) (hc : P.cellsOf e = 1)
    (h : DataW.trod enc P w base spare held n t [v] = some y) (hl : ∀ x ∈ y.2, x.block < w.heap.size) :
    ∃ a : SlI, v = .slice a.A a.l.length a.c ∧ a.l.length ≤ a.c ∧ a.c ≤ maxLen ∧ (∀ n ∈ a.l, I64 n) ∧ Rd w w.heap.size a.A (a.l.map (Value.int .i64)) := by
  rcases open_ints ht he hc h with ⟨h1, h2⟩ | ⟨a, len, cap, zs, h1, hb, hlc, hcm, hzl, hx, hcell, hwf⟩
  · refine ⟨⟨none, 0, []⟩, by simpa using h1, by simp, by simp, by simp, Rd.nil⟩
  · have hv : v = .slice (some a) len cap := by simpa using h1
    have hlen : len ≤ zs.length := by rw [hzl]; split <;> omega
    refine ⟨⟨some a, cap, zs.take len⟩, ?_, ?_, hcm, fun n hn => I64_of_wf (hwf n (List.mem_of_mem_take hn)), fun j u hj => ?_⟩
    · rw [hv]; simp only [List.length_take, Nat.min_eq_left hlen]
    · simp only [List.length_take]; omega
    · rw [List.getElem?_map] at hj
      cases hz : (zs.take len)[j]? with
      | none => rw [hz] at hj; simp at hj
      | some n =>
        rw [hz] at hj
        obtain rfl : Value.int .i64 n = u := by simpa using hj
        obtain ⟨hjl, hn⟩ := List.getElem?_eq_some_iff.1 hz
        rw [List.length_take] at hjl
        have hjz : j < zs.length := by omega
        refine ⟨a, rfl, row_block (n := zs.length) (by omega) (by rw [hx] at hl; exact hl), ?_⟩
        rw [hcell j hjz, ← hn]
        simp [List.getD, hjz]
end
/-- a slice at A reads as acts, below block B -/
def RdA (w : World) (B : Nat) (A : Option Addr) (l : List Ac) : Prop :=
  ∀ k x, l[k]? = some x → ∃ ad, A = some ad ∧ ad.block < B ∧ w.cell? (ad.add (k * 6)) = some (.int .i64 x.kind) ∧ w.cell? ⟨(ad.add (k * 6)).block, (ad.add (k * 6)).off + 1, none⟩ = some (.string x.nm) ∧ w.cell? ⟨(ad.add (k * 6)).block, (ad.add (k * 6)).off + 2, none⟩ = some (.string x.to_)
    ∧ w.cell? ⟨(ad.add (k * 6)).block, (ad.add (k * 6)).off + 3, none⟩ = some (.string x.s) ∧ w.cell? ⟨(ad.add (k * 6)).block, (ad.add (k * 6)).off + 4, none⟩ = some (.int .i64 x.n) ∧ w.cell? ⟨(ad.add (k * 6)).block, (ad.add (k * 6)).off + 5, none⟩ = some (.slice x.Ak x.ks.length x.ck)
    ∧ Rd w B x.Ak (x.ks.map (Value.int .i64))
theorem RdA.below {w w' : World} {B : Nat} {A : Option Addr} {l : List Ac} (h : RdA w B A l) (hb : Below B w w') : RdA w' B A l := fun k x hk => by
  obtain ⟨ad, e, hlt, h0, h1, h2, h3, h4, h5, h6⟩ := h k x hk
  have hb' : ∀ a : Addr, a.block = ad.block → w'.cell? a = w.cell? a := fun a ha => hb.cell (p := a) (by rw [ha]; exact hlt)
  have hj : ∀ j, w'.cell? ⟨(ad.add (k * 6)).block, (ad.add (k * 6)).off + j, none⟩ = w.cell? ⟨(ad.add (k * 6)).block, (ad.add (k * 6)).off + j, none⟩ := fun j => hb' _ (addr_add_block ad (k * 6))
  exact ⟨ad, e, hlt, (hb' _ (addr_add_block ad (k * 6))).trans h0, (hj 1).trans h1, (hj 2).trans h2, (hj 3).trans h3, (hj 4).trans h4, (hj 5).trans h5, h6.below hb⟩
theorem RdA.more {w : World} {B B' : Nat} {A : Option Addr} {l : List Ac} (h : RdA w B A l) (hB : B ≤ B') : RdA w B' A l := fun k x hk => by
  obtain ⟨ad, e, hlt, h0, h1, h2, h3, h4, h5, h6⟩ := h k x hk
  exact ⟨ad, e, Nat.lt_of_lt_of_le hlt hB, h0, h1, h2, h3, h4, h5, h6.more hB⟩
/-- an act as it comes in -/
structure Ac.Ok (x : Ac) : Prop where
  kind : I64 x.kind
  n : I64 x.n
  nm : x.nm.size ≤ maxLen
  to_ : x.to_.size ≤ maxLen
  s : x.s.size ≤ maxLen
  ks : x.ks.length ≤ x.ck
  ck : x.ck ≤ maxLen
  all : ∀ n ∈ x.ks, I64 n
/-- a slice of acts, opened -/
structure SlA where
  A : Option Addr
  c : Nat
  l : List Ac
def SlA.Ok (a : SlA) (w : World) : Prop := a.l.length ≤ maxLen ∧ a.l.length ≤ a.c ∧ (∀ x ∈ a.l, x.Ok) ∧ RdA w w.heap.size a.A a.l
instance : Inhabited Ac := ⟨⟨0, ⟨#[]⟩, ⟨#[]⟩, ⟨#[]⟩, 0, none, 0, []⟩⟩

/-- few acts of few bytes -/
def smallA (x : Ac) : Prop := x.s.size ≤ 100 ∧ x.nm.size ≤ 100 ∧ x.to_.size ≤ 100 ∧ x.ks.length ≤ 20
def fewA (most : Nat) (l : List Ac) : Prop := l.length ≤ most ∧ ∀ x ∈ l, smallA x
theorem ataken {α : Type} (l : List α) (k : Nat) (f : α) (h : l[k]? = some f) : l.take (k + 1) = l.take k ++ [f] := by
  obtain ⟨h1, rfl⟩ := List.getElem?_eq_some_iff.1 h
  exact List.take_succ_eq_append_getElem h1
end Go.Proofs.YtabccphcoojbjaaGreatDoor

namespace Go.Proofs.YtabccphcoojbjaaGreatDoor
open Go.ChangeShapes Go.WideShapes Go.ChangeAt Go.RowKit Go.Deep DiskP


theorem disk_Append (d : Nat) (A : Option Addr) (c : Nat) (S : DS) (hS : OkD S) (nm s : ByteArray) (hnm : nm.size ≤ 1000) (hs : s.size ≤ 1000000) (w : World) (h : Dk d A c S w) :
    Calls Tryz.prog 12 #[.pointer (some ⟨d, 0, none⟩), .string nm, .string s] w (DPost d (appendD S nm s).1 (.int .i64 (appendD S nm s).2) w) := by
  by_cases hbad : S.on = false ∨ namedD nm = false ∨ S.room - (used S.fs : Int) < (s.size : Int) ∨ (has S.fs nm = false ∧ 64 ≤ S.fs.length)
  · refine (disk_Append_bad d A c S hS nm s hnm hs hbad w h).mono ?_
    rintro e w' ⟨rfl, h1, h2⟩
    exact ⟨rfl, A, c, by rw [h1]; exact h.kept h2, DKeep.of_below h2 (Nat.le_of_lt h.lt)⟩
  · have hon : S.on = true := by cases hx : S.on with
      | true => rfl
      | false => exact absurd (.inl hx) hbad
    have hn : namedD nm = true := by cases hx : namedD nm with
      | true => rfl
      | false => exact absurd (.inr (.inl hx)) hbad
    have hfit : ¬ S.room - (used S.fs : Int) < (s.size : Int) := fun hx => hbad (.inr (.inr (.inl hx)))
    have he : appendD S nm s = begun { S with fs := putF S.fs nm s } := by
      unfold appendD
      rw [if_neg (by simp [hon]), if_neg (by simp [hn]), if_neg (fun hx => hbad (.inr (.inr hx)))]
    rw [he]
    cases hh : has S.fs nm with
    | true => exact disk_Append_has d A c S hS nm s hnm hs hon hn hfit hh w h
    | false =>
      have h64 : S.fs.length < 64 := by
        have : ¬ 64 ≤ S.fs.length := fun hx => hbad (.inr (.inr (.inr ⟨hh, hx⟩)))
        omega
      exact disk_Append_new d A c S hS nm s hnm hs hon hn hfit hh h64 w h
/-- an act in memory, as a value -/
def acV (x : Ac) : Value := .agg #[.int .i64 x.kind, .string x.nm, .string x.to_, .string x.s, .int .i64 x.n, .slice x.Ak x.ks.length x.ck]

end Go.Proofs.YtabccphcoojbjaaGreatDoor
