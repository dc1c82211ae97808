/- Layer 5: parts that come in as a slice; are they few? -/
import Derived.Test.YtkhnmdmpkedifaaPackU
import Derived.Test.YtkhnmdmpkedifaaStructs
namespace Go.Proofs.Ytkhnmdmpkedifaa
open Go.ChangeShapes Go.WideShapes Go.ChangeAt Go.RowKit Go.Deep

/-- a slice at A reads as parts, below block B -/
def RdP (w : World) (B : Nat) (A : Option Addr) (l : List PackP.Part) : Prop :=
  ∀ k p, l[k]? = some p → ∃ ad, A = some ad ∧ ad.block < B ∧ w.cell? (ad.add (k * 3)) = some (.int .i64 p.kind) ∧ w.cell? ⟨(ad.add (k * 3)).block, (ad.add (k * 3)).off + 1, none⟩ = some (.int .i64 p.n) ∧ w.cell? ⟨(ad.add (k * 3)).block, (ad.add (k * 3)).off + 2, none⟩ = some (.string ⟨p.s.toArray⟩)
theorem RdP.below {w w' : World} {B : Nat} {A : Option Addr} {l : List PackP.Part} (h : RdP w B A l) (hb : Below B w w') : RdP w' B A l := fun k p hk => by
  obtain ⟨ad, e, hlt, h0, h1, h2⟩ := h k p hk
  refine ⟨ad, e, hlt, (hb.cell (p := ad.add (k * 3)) (by rw [addr_add_block]; exact hlt)).trans h0, (hb.cell (p := ⟨(ad.add (k * 3)).block, _, none⟩) ?_).trans h1, (hb.cell (p := ⟨(ad.add (k * 3)).block, _, none⟩) ?_).trans h2⟩
  · show (ad.add (k * 3)).block < B; rw [addr_add_block]; exact hlt
  · show (ad.add (k * 3)).block < B; rw [addr_add_block]; exact hlt
theorem RdP.at {w w' : World} {B : Nat} {ad : Addr} {l : List PackP.Part} (h : RdP w B (some ad) l) (hb : Below B w w') {k : Nat} {p : PackP.Part} (hk : l[k]? = some p) :
    w'.cell? (ad.add (k * 3)) = some (.int .i64 p.kind) ∧ w'.cell? ⟨(ad.add (k * 3)).block, (ad.add (k * 3)).off + 1, none⟩ = some (.int .i64 p.n) ∧ w'.cell? ⟨(ad.add (k * 3)).block, (ad.add (k * 3)).off + 2, none⟩ = some (.string ⟨p.s.toArray⟩) := by
  obtain ⟨ad', e, _, h0, h1, h2⟩ := h.below hb k p hk
  obtain rfl : ad = ad' := Option.some.inj e
  exact ⟨h0, h1, h2⟩
/-- a slice of parts, opened -/
structure SlP where
  A : Option Addr
  c : Nat
  l : List PackP.Part
def SlP.Ok (a : SlP) (w : World) : Prop := a.l.length ≤ maxLen ∧ a.l.length ≤ a.c ∧ (∀ p ∈ a.l, I64 p.kind ∧ I64 p.n ∧ p.s.length ≤ maxLen) ∧ RdP w w.heap.size a.A a.l

theorem Try.cells_part : Try.prog.cellsOf 48 = 3 := by kernel_rfl
instance : Inhabited PackP.Part := ⟨PackP.Part.zero⟩
set_option maxRecDepth 100000 in
theorem open_partl {H : Type} {enc : TypeId × Value → H} {w : World} {base : Nat} {spare : Nat → Bool} {held : Bool} {r : Reach} {b0 : Nat} {v : Value} {d : DataW H} {p : List MemPlace}
    (hv : Value.okWide Try.prog w r b0 37 v) (h : DataW.Trod enc Try.prog w base spare held 37 v d p) (hl : ∀ x ∈ p, x.block < w.heap.size) :
    ∃ a : SlP, v = .slice a.A a.l.length a.c ∧ a.Ok w := by
  rcases open_structs Try.underlying37 Try.underlying48 (by kernel_rfl) Try.cells_part (by simp) (slice_cells Try.underlying37 hv) h hl with h1 | ⟨a, len, cap, hc, hlc, hm, hall⟩
  · exact ⟨⟨none, 0, []⟩, by simpa using h1, by simp, by simp, by simp, fun j f hj => by simp at hj⟩
  · have hch : ∀ i, i < len → ∃ q : PackP.Part, w.cell? (a.add (i * 3)) = some (.int .i64 q.kind) ∧ w.cell? (a.add (i * 3 + 1)) = some (.int .i64 q.n) ∧ w.cell? (a.add (i * 3 + 2)) = some (.string ⟨q.s.toArray⟩) ∧ I64 q.kind ∧ I64 q.n ∧ q.s.length ≤ maxLen := fun i hi => by
      obtain ⟨_, cs, hlen, hcell, hg⟩ := hall i hi
      obtain ⟨c0, y0, n0, e0, t0⟩ := hg 0 _ rfl
      obtain ⟨c1, y1, n1, e1, t1⟩ := hg 1 _ rfl
      obtain ⟨c2, y2, n2, e2, t2⟩ := hg 2 _ rfl
      obtain ⟨z0, rfl, w0⟩ := cell_int Try.underlying3 t0
      obtain ⟨z1, rfl, w1⟩ := cell_int Try.underlying3 t1
      obtain ⟨s2, rfl, w2⟩ := cell_string Try.underlying9 t2
      exact ⟨⟨z0, z1, s2.data.toList⟩, (hcell 0 (by simp)).trans e0, (hcell 1 (by simp)).trans e1, (hcell 2 (by simp)).trans e2, I64_of_wf w0, I64_of_wf w1, w2⟩
    obtain ⟨q, hq⟩ := choose_lt hch
    refine ⟨⟨some a, cap, (List.range len).map q⟩, by simpa using hc, by simp; omega, by simpa using hlc, fun f hf => ?_, fun j f hj => ?_⟩
    · obtain ⟨i, hi, rfl⟩ := List.mem_map.1 hf
      have := hq i (List.mem_range.1 hi)
      exact ⟨this.2.2.2.1, this.2.2.2.2.1, this.2.2.2.2.2⟩
    · obtain ⟨i, hi, rfl⟩ : ∃ i, (List.range len)[j]? = some i ∧ q i = f := by rw [List.getElem?_map] at hj; exact Option.map_eq_some_iff.1 hj
      obtain ⟨hj1, hj2⟩ := List.getElem?_eq_some_iff.1 hi
      rw [List.length_range] at hj1
      obtain rfl : j = i := by simpa using hj2
      obtain ⟨c0, c1, c2, _⟩ := hq j hj1
      exact ⟨a, rfl, (hall j hj1).1, c0, by rw [← c1, show (1 : Nat) = 0 + 1 from rfl, at_next], by rw [← c2, show (2 : Nat) = 1 + 1 from rfl, at_next]⟩

/-- few parts of few bytes -/
def fewP (l : List PackP.Part) : Prop := l.length ≤ 40 ∧ ∀ p ∈ l, p.s.length ≤ 300
theorem ptake_snoc {α : Type} (l : List α) (k : Nat) (f : α) (h : l[k]? = some f) : l.take (k + 1) = l.take k ++ [f] := by
  obtain ⟨h1, rfl⟩ := List.getElem?_eq_some_iff.1 h
  exact List.take_succ_eq_append_getElem h1
set_option maxRecDepth 100000 in
theorem ref5_Few_yes (A : Option Addr) (c : Nat) (l : List PackP.Part) (hf : fewP l) (w : World) (hr : RdP w w.heap.size A l) :
    Calls Try.prog 24 #[.slice A l.length c] w fun e w' => e = .returned (.bool true) ∧ Below w.heap.size w w' := by
  have HR := Lib.hid hr
  have HF := Lib.hid hf
  have h20 := hf.1
  clear hr hf
  go_enter Try.func24, Try.ntmps24
  go_wp2_with fail
  go_loopw [3] (fun i wr => ∃ k : Nat, k ≤ l.length ∧ i = .int .i64 k ∧ Below w.heap.size w wr) (fun i _ => l.length - (intOf i).toNat)
  case atStart => exact ⟨0, by omega, rfl, Below.refl _ _⟩
  case round =>
    obtain ⟨k, hk, rfl, hb⟩ := hrel
    by_cases hlt : k < l.length
    · obtain ⟨f, hk'⟩ : ∃ f, l[k]? = some f := ⟨l[k], List.getElem?_eq_getElem hlt⟩
      obtain ⟨ad, rfl, hadl, h0, h1, h2⟩ := HR.out.below hb k f hk'
      have hle : f.s.length ≤ 300 := HF.out.2 f (List.mem_of_getElem? hk')
      have hsz := bl_size f.s
      generalize (⟨f.s.toArray⟩ : ByteArray) = S at h2 hsz
      have hi1 : (k : Int) < (l.length : Int) := by omega
      have hi2 : (k : Int) < 40 := by omega
      clear hk'
      go_wp2_with fail
      exact ⟨⟨k + 1, by omega, by go_num, hb⟩, by simp [intOf]; omega⟩
    · have hd : decide ((l.length : Int) ≤ 40) = true := by rw [decide_eq_true_eq]; omega
      go_wp2_with fail
      go_ret
      exact ⟨rfl, hb⟩
set_option maxRecDepth 100000 in
theorem ref5_Few_no (A : Option Addr) (c : Nat) (l : List PackP.Part) (hm : l.length ≤ maxLen) (hf : ¬ fewP l) (w : World) (hr : RdP w w.heap.size A l) :
    Calls Try.prog 24 #[.slice A l.length c] w fun e w' => e = .returned (.bool false) ∧ Below w.heap.size w w' := by
  have HR := Lib.hid hr
  have HF := Lib.hid hf
  unfold maxLen at hm
  clear hr hf
  go_enter Try.func24, Try.ntmps24
  go_wp2_with fail
  go_loopw [3] (fun i wr => ∃ k : Nat, k ≤ l.length ∧ k ≤ 40 ∧ i = .int .i64 k ∧ Below w.heap.size w wr ∧ ∀ f ∈ l.take k, f.s.length ≤ 300) (fun i _ => l.length - (intOf i).toNat)
  case atStart => exact ⟨0, by omega, by omega, rfl, Below.refl _ _, by simp⟩
  case round =>
    obtain ⟨k, hk, hk20, rfl, hb, hpre⟩ := hrel
    have HPRE := Lib.hid hpre
    clear hpre
    by_cases hlt : k < l.length
    · by_cases hlt2 : k < 40
      · obtain ⟨f, hk'⟩ : ∃ f, l[k]? = some f := ⟨l[k], List.getElem?_eq_getElem hlt⟩
        obtain ⟨ad, rfl, hadl, h0, h1, h2⟩ := HR.out.below hb k f hk'
        have HS := Lib.hid (ptake_snoc l k f hk')
        have hsz := bl_size f.s
        generalize (⟨f.s.toArray⟩ : ByteArray) = S at h2 hsz
        have hi1 : (k : Int) < (l.length : Int) := by omega
        have hi2 : (k : Int) < 40 := by omega
        clear hk'
        by_cases hle : f.s.length ≤ 300
        · go_wp2_with fail
          refine ⟨⟨k + 1, by omega, by omega, by go_num, hb, ?_⟩, by simp [intOf]; omega⟩
          rw [HS.out]
          intro x hx
          rcases List.mem_append.1 hx with hx | hx
          · exact HPRE.out x hx
          · obtain rfl : x = f := by simpa using hx
            exact hle
        · go_wp2_with fail
          go_ret
          exact ⟨rfl, hb⟩
      · have hd : decide ((l.length : Int) ≤ 40) = false := by rw [decide_eq_false_iff_not]; omega
        go_wp2_with fail
        go_ret
        exact ⟨rfl, hb⟩
    · have hgt : ¬ l.length ≤ 40 := fun h => HF.out ⟨h, fun f hf => HPRE.out f (by rwa [List.take_of_length_le (by omega)])⟩
      have hd : decide ((l.length : Int) ≤ 40) = false := by rw [decide_eq_false_iff_not]; omega
      go_wp2_with fail
      go_ret
      exact ⟨rfl, hb⟩
end Go.Proofs.Ytkhnmdmpkedifaa
