/- Layer 7: acts that come in as a slice (each with a slice of its own): opened; are they few? -/
import Derived.Test.YtmkaijjakcjflaaDiskT
import Derived.Test.YtmkaijjakcjflaaStructs
namespace Go.Proofs.Ytmkaijjakcjflaa
open Go.ChangeShapes Go.WideShapes Go.ChangeAt Go.RowKit Go.Deep DiskP

section
variable {H : Type} {enc : TypeId × Value → H} {P : Program} {w : World} {base : Nat} {spare : Nat → Bool} {held : Bool}
/-- as open_structs, with the places that each field's own reading has -/
theorem open_structs_at {t e : TypeId} {fs : Array Field} {v : Value} {d : DataW H} {p : List MemPlace} (ht : P.underlying t = some (.slice e)) (he : P.underlying e = some (.struct fs)) (hone : oneCellFields P fs = true)
    (hC : P.cellsOf e = fs.size) (hpos : 0 < fs.size) (hcs : v.cells = #[v]) (h : DataW.Trod enc P w base spare held t v d p) (hl : ∀ x ∈ p, x.block < w.heap.size) :
    v = .slice none 0 0 ∨ ∃ a len cap, v = .slice (some a) len cap ∧ len ≤ cap ∧ cap ≤ maxLen ∧ ∀ i, i < len → a.block < w.heap.size ∧
      ∃ cs : List Value, cs.length = fs.size ∧ (∀ j, j < fs.size → w.cell? (a.add (i * fs.size + j)) = cs[j]?) ∧
        ∀ (j : Nat) (f : Field), fs[j]? = some f → ∃ (c : Value) (y : DataW H × List MemPlace) (n : Nat), cs[j]? = some c ∧ DataW.trod enc P w base spare held n f.type [c] = some y ∧ ∀ x ∈ y.2, x.block < w.heap.size := by
  obtain ⟨fuel, hf⟩ := h
  rw [hcs] at hf
  rcases open_slice ht hf with ⟨h0, _⟩ | ⟨a, len, cap, m, n, D, Pl, h0, hb, hlc, hm, hmm, hx, hall⟩
  · exact .inl (by simpa using h0)
  · right
    have hlm : len ≤ m := by rw [hmm]; split <;> omega
    refine ⟨a, len, cap, by simpa using h0, hlc, hm, fun i hi => ⟨?_, ?_⟩⟩
    · have hmp : 0 < m * P.cellsOf e := Nat.mul_pos (by omega) (by rw [hC]; exact hpos)
      refine row_block hmp (fun x hx' => hl x ?_)
      rw [(Prod.mk.inj hx).2]
      exact List.mem_append_left _ hx'
    · obtain ⟨cs', h1, h2⟩ := hall i (by omega)
      obtain ⟨_, hlen, hcell⟩ := World.cells?_some h1
      obtain ⟨xs, k, _, hxe, _, hxl, hg⟩ := DataW.trod_struct he h2
      rw [hC] at hlen hcell
      refine ⟨cs', hlen, fun j hj => (congrArg w.cell? (add_add a (i * fs.size) j).symm).trans (hcell j hj), fun j f hf => ?_⟩
      obtain ⟨o, q⟩ := hone_of hone j f hf
      have hj : j < fs.size := (Array.getElem?_eq_some_iff.1 hf).1
      have h3 := hg j f hf
      rw [o, q] at h3
      have e1 : (cs'.drop j).take 1 = [cs'[j]'(by omega)] := by
        rw [List.drop_eq_getElem_cons (show j < cs'.length by omega), List.take_succ_cons, List.take_zero]
      rw [e1, List.getElem?_eq_getElem (by omega)] at h3
      refine ⟨cs'[j]'(by omega), _, k, List.getElem?_eq_getElem (by omega), h3, fun x hx2 => hl x ?_⟩
      rw [(Prod.mk.inj hx).2]
      refine List.mem_append_right _ (List.mem_flatMap.2 ⟨i, List.mem_range.2 (by omega), ?_⟩)
      rw [(Prod.mk.inj hxe).2]
      exact List.mem_flatMap.2 ⟨_, List.getElem_mem _, hx2⟩
/-- a slice of numbers, in one cell -/
theorem open_intl_cell {t e : TypeId} {v : Value} {y : DataW H × List MemPlace} {n : Nat} (ht : P.underlying t = some (.slice e)) (he : P.underlying e = some (.int .i64)) (hc : P.cellsOf e = 1)
    (h : DataW.trod enc P w base spare held n t [v] = some y) (hl : ∀ x ∈ y.2, x.block < w.heap.size) :
    ∃ a : SlI, v = .slice a.A a.l.length a.c ∧ a.l.length ≤ a.c ∧ a.c ≤ maxLen ∧ (∀ n ∈ a.l, I64 n) ∧ Rd w w.heap.size a.A (a.l.map (Value.int .i64)) := by
  rcases open_ints ht he hc h with ⟨h1, h2⟩ | ⟨a, len, cap, zs, h1, hb, hlc, hcm, hzl, hx, hcell, hwf⟩
  · refine ⟨⟨none, 0, []⟩, by simpa using h1, by simp, by simp, by simp, Rd.nil⟩
  · have hv : v = .slice (some a) len cap := by simpa using h1
    have hlen : len ≤ zs.length := by rw [hzl]; split <;> omega
    refine ⟨⟨some a, cap, zs.take len⟩, ?_, ?_, hcm, fun n hn => I64_of_wf (hwf n (List.mem_of_mem_take hn)), fun j u hj => ?_⟩
    · rw [hv]; simp only [List.length_take, Nat.min_eq_left hlen]
    · simp only [List.length_take]; omega
    · rw [List.getElem?_map] at hj
      cases hz : (zs.take len)[j]? with
      | none => rw [hz] at hj; simp at hj
      | some n =>
        rw [hz] at hj
        obtain rfl : Value.int .i64 n = u := by simpa using hj
        obtain ⟨hjl, hn⟩ := List.getElem?_eq_some_iff.1 hz
        rw [List.length_take] at hjl
        have hjz : j < zs.length := by omega
        refine ⟨a, rfl, row_block (n := zs.length) (by omega) (by rw [hx] at hl; exact hl), ?_⟩
        rw [hcell j hjz, ← hn]
        simp [List.getD, hjz]
end
/-- a slice at A reads as acts, below block B -/
def RdA (w : World) (B : Nat) (A : Option Addr) (l : List Ac) : Prop :=
  ∀ k x, l[k]? = some x → ∃ ad, A = some ad ∧ ad.block < B ∧ w.cell? (ad.add (k * 6)) = some (.int .i64 x.kind) ∧ w.cell? ⟨(ad.add (k * 6)).block, (ad.add (k * 6)).off + 1, none⟩ = some (.string x.nm) ∧ w.cell? ⟨(ad.add (k * 6)).block, (ad.add (k * 6)).off + 2, none⟩ = some (.string x.to_)
    ∧ w.cell? ⟨(ad.add (k * 6)).block, (ad.add (k * 6)).off + 3, none⟩ = some (.string x.s) ∧ w.cell? ⟨(ad.add (k * 6)).block, (ad.add (k * 6)).off + 4, none⟩ = some (.int .i64 x.n) ∧ w.cell? ⟨(ad.add (k * 6)).block, (ad.add (k * 6)).off + 5, none⟩ = some (.slice x.Ak x.ks.length x.ck)
    ∧ Rd w B x.Ak (x.ks.map (Value.int .i64))
theorem RdA.below {w w' : World} {B : Nat} {A : Option Addr} {l : List Ac} (h : RdA w B A l) (hb : Below B w w') : RdA w' B A l := fun k x hk => by
  obtain ⟨ad, e, hlt, h0, h1, h2, h3, h4, h5, h6⟩ := h k x hk
  have hb' : ∀ a : Addr, a.block = ad.block → w'.cell? a = w.cell? a := fun a ha => hb.cell (p := a) (by rw [ha]; exact hlt)
  have hj : ∀ j, w'.cell? ⟨(ad.add (k * 6)).block, (ad.add (k * 6)).off + j, none⟩ = w.cell? ⟨(ad.add (k * 6)).block, (ad.add (k * 6)).off + j, none⟩ := fun j => hb' _ (addr_add_block ad (k * 6))
  exact ⟨ad, e, hlt, (hb' _ (addr_add_block ad (k * 6))).trans h0, (hj 1).trans h1, (hj 2).trans h2, (hj 3).trans h3, (hj 4).trans h4, (hj 5).trans h5, h6.below hb⟩
theorem RdA.more {w : World} {B B' : Nat} {A : Option Addr} {l : List Ac} (h : RdA w B A l) (hB : B ≤ B') : RdA w B' A l := fun k x hk => by
  obtain ⟨ad, e, hlt, h0, h1, h2, h3, h4, h5, h6⟩ := h k x hk
  exact ⟨ad, e, Nat.lt_of_lt_of_le hlt hB, h0, h1, h2, h3, h4, h5, h6.more hB⟩
/-- an act as it comes in -/
structure Ac.Ok (x : Ac) : Prop where
  kind : I64 x.kind
  n : I64 x.n
  nm : x.nm.size ≤ maxLen
  to_ : x.to_.size ≤ maxLen
  s : x.s.size ≤ maxLen
  ks : x.ks.length ≤ x.ck
  ck : x.ck ≤ maxLen
  all : ∀ n ∈ x.ks, I64 n
/-- a slice of acts, opened -/
structure SlA where
  A : Option Addr
  c : Nat
  l : List Ac
def SlA.Ok (a : SlA) (w : World) : Prop := a.l.length ≤ maxLen ∧ a.l.length ≤ a.c ∧ (∀ x ∈ a.l, x.Ok) ∧ RdA w w.heap.size a.A a.l
instance : Inhabited Ac := ⟨⟨0, ⟨#[]⟩, ⟨#[]⟩, ⟨#[]⟩, 0, none, 0, []⟩⟩

theorem Try.cells_act : Try.prog.cellsOf 35 = 6 := by kernel_rfl
set_option maxRecDepth 100000 in
theorem open_actl {H : Type} {enc : TypeId × Value → H} {w : World} {base : Nat} {spare : Nat → Bool} {held : Bool} {r : Reach} {b0 : Nat} {v : Value} {d : DataW H} {p : List MemPlace}
    (hv : Value.okWide Try.prog w r b0 22 v) (h : DataW.Trod enc Try.prog w base spare held 22 v d p) (hl : ∀ x ∈ p, x.block < w.heap.size) :
    ∃ a : SlA, v = .slice a.A a.l.length a.c ∧ a.Ok w := by
  rcases open_structs_at Try.underlying22 Try.underlying35 (by kernel_rfl) Try.cells_act (by simp) (slice_cells Try.underlying22 hv) h hl with h1 | ⟨a, len, cap, hc, hlc, hm, hall⟩
  · exact ⟨⟨none, 0, []⟩, by simpa using h1, by simp, by simp, by simp, fun j f hj => by simp at hj⟩
  · have hch : ∀ i, i < len → ∃ x : Ac, x.Ok ∧ w.cell? (a.add (i * 6)) = some (.int .i64 x.kind) ∧ w.cell? (a.add (i * 6 + 1)) = some (.string x.nm) ∧ w.cell? (a.add (i * 6 + 2)) = some (.string x.to_) ∧ w.cell? (a.add (i * 6 + 3)) = some (.string x.s)
        ∧ w.cell? (a.add (i * 6 + 4)) = some (.int .i64 x.n) ∧ w.cell? (a.add (i * 6 + 5)) = some (.slice x.Ak x.ks.length x.ck) ∧ Rd w w.heap.size x.Ak (x.ks.map (Value.int .i64)) := fun i hi => by
      obtain ⟨_, cs, hlen, hcell, hg⟩ := hall i hi
      obtain ⟨c0, y0, n0, e0, t0, _⟩ := hg 0 _ rfl
      obtain ⟨c1, y1, n1, e1, t1, _⟩ := hg 1 _ rfl
      obtain ⟨c2, y2, n2, e2, t2, _⟩ := hg 2 _ rfl
      obtain ⟨c3, y3, n3, e3, t3, _⟩ := hg 3 _ rfl
      obtain ⟨c4, y4, n4, e4, t4, _⟩ := hg 4 _ rfl
      obtain ⟨c5, y5, n5, e5, t5, l5⟩ := hg 5 _ rfl
      obtain ⟨z0, rfl, w0⟩ := cell_int Try.underlying3 t0
      obtain ⟨z1, rfl, w1⟩ := cell_string Try.underlying9 t1
      obtain ⟨z2, rfl, w2⟩ := cell_string Try.underlying9 t2
      obtain ⟨z3, rfl, w3⟩ := cell_string Try.underlying9 t3
      obtain ⟨z4, rfl, w4⟩ := cell_int Try.underlying3 t4
      obtain ⟨z5, rfl, k5, m5, w5, r5⟩ := open_intl_cell Try.underlying33 Try.underlying3 (by kernel_rfl) t5 l5
      exact ⟨⟨z0, z1, z2, z3, z4, z5.A, z5.c, z5.l⟩, ⟨I64_of_wf w0, I64_of_wf w4, w1, w2, w3, k5, m5, w5⟩, (hcell 0 (by simp)).trans e0, (hcell 1 (by simp)).trans e1, (hcell 2 (by simp)).trans e2, (hcell 3 (by simp)).trans e3, (hcell 4 (by simp)).trans e4, (hcell 5 (by simp)).trans e5, r5⟩
    obtain ⟨q, hq⟩ := choose_lt hch
    refine ⟨⟨some a, cap, (List.range len).map q⟩, by simpa using hc, by simp; omega, by simpa using hlc, fun f hf => ?_, fun j f hj => ?_⟩
    · obtain ⟨i, hi, rfl⟩ := List.mem_map.1 hf
      exact (hq i (List.mem_range.1 hi)).1
    · obtain ⟨i, hi, rfl⟩ : ∃ i, (List.range len)[j]? = some i ∧ q i = f := by rw [List.getElem?_map] at hj; exact Option.map_eq_some_iff.1 hj
      obtain ⟨hj1, hj2⟩ := List.getElem?_eq_some_iff.1 hi
      rw [List.length_range] at hj1
      obtain rfl : j = i := by simpa using hj2
      obtain ⟨_, c0, c1, c2, c3, c4, c5, c6⟩ := hq j hj1
      refine ⟨a, rfl, (hall j hj1).1, c0, ?_, ?_, ?_, ?_, ?_, c6⟩
      · rw [← c1, show (1 : Nat) = 0 + 1 from rfl, at_next]
      · rw [← c2, show (2 : Nat) = 1 + 1 from rfl, at_next]
      · rw [← c3, show (3 : Nat) = 2 + 1 from rfl, at_next]
      · rw [← c4, show (4 : Nat) = 3 + 1 from rfl, at_next]
      · rw [← c5, show (5 : Nat) = 4 + 1 from rfl, at_next]

/-- few acts of few bytes -/
def smallA (x : Ac) : Prop := x.s.size ≤ 100 ∧ x.nm.size ≤ 100 ∧ x.to_.size ≤ 100 ∧ x.ks.length ≤ 20
def fewA (most : Nat) (l : List Ac) : Prop := l.length ≤ most ∧ ∀ x ∈ l, smallA x
theorem ataken {α : Type} (l : List α) (k : Nat) (f : α) (h : l[k]? = some f) : l.take (k + 1) = l.take k ++ [f] := by
  obtain ⟨h1, rfl⟩ := List.getElem?_eq_some_iff.1 h
  exact List.take_succ_eq_append_getElem h1
set_option maxRecDepth 100000 in
theorem ref7_Few_yes (A : Option Addr) (c : Nat) (l : List Ac) (most : Nat) (hmost : most ≤ 1000) (hf : fewA most l) (w : World) (hr : RdA w w.heap.size A l) :
    Calls Try.prog 6 #[.slice A l.length c, .int .i64 (most : Int)] w fun e w' => e = .returned (.bool true) ∧ Below w.heap.size w w' := by
  have HR := Lib.hid hr
  have HF := Lib.hid hf
  have h20 := hf.1
  clear hr hf
  go_enter Try.func6, Try.ntmps6
  go_wp2_with fail
  go_loopw [5] (fun i wr => ∃ k : Nat, k ≤ l.length ∧ i = .int .i64 k ∧ Below w.heap.size w wr) (fun i _ => l.length - (intOf i).toNat)
  case atStart => exact ⟨0, by omega, rfl, Below.refl _ _⟩
  case round =>
    obtain ⟨k, hk, rfl, hb⟩ := hrel
    by_cases hlt : k < l.length
    · obtain ⟨f, hk'⟩ : ∃ f, l[k]? = some f := ⟨l[k], List.getElem?_eq_getElem hlt⟩
      obtain ⟨ad, rfl, hadl, c0, c1, c2, c3, c4, c5, _⟩ := HR.out.below hb k f hk'
      obtain ⟨g0, g1, g2, g3⟩ := HF.out.2 f (List.mem_of_getElem? hk')
      have hi1 : (k : Int) < (l.length : Int) := by omega
      have hi2 : (k : Int) < (most : Int) := by omega
      clear hk'
      go_wp2_with fail
      exact ⟨⟨k + 1, by omega, by go_num, hb⟩, by simp [intOf]; omega⟩
    · have hd : decide (l.length ≤ most) = true := by rw [decide_eq_true_eq]; omega
      go_wp2_with fail
      go_ret
      exact ⟨rfl, hb⟩
set_option maxRecDepth 100000 in
set_option maxHeartbeats 4000000 in
theorem ref7_Few_no (A : Option Addr) (c : Nat) (l : List Ac) (hm : l.length ≤ maxLen) (most : Nat) (hmost : most ≤ 1000) (hf : ¬ fewA most l) (w : World) (hr : RdA w w.heap.size A l) :
    Calls Try.prog 6 #[.slice A l.length c, .int .i64 (most : Int)] w fun e w' => e = .returned (.bool false) ∧ Below w.heap.size w w' := by
  have HR := Lib.hid hr
  have HF := Lib.hid hf
  unfold maxLen at hm
  clear hr hf
  go_enter Try.func6, Try.ntmps6
  go_wp2_with fail
  go_loopw [5] (fun i wr => ∃ k : Nat, k ≤ l.length ∧ k ≤ most ∧ i = .int .i64 k ∧ Below w.heap.size w wr ∧ ∀ x ∈ l.take k, smallA x) (fun i _ => l.length - (intOf i).toNat)
  case atStart => exact ⟨0, by omega, by omega, rfl, Below.refl _ _, by simp⟩
  case round =>
    obtain ⟨k, hk, hk20, rfl, hb, hpre⟩ := hrel
    have HPRE := Lib.hid hpre
    clear hpre
    by_cases hlt : k < l.length
    · by_cases hlt2 : k < most
      · obtain ⟨f, hk'⟩ : ∃ f, l[k]? = some f := ⟨l[k], List.getElem?_eq_getElem hlt⟩
        obtain ⟨ad, rfl, hadl, c0, c1, c2, c3, c4, c5, _⟩ := HR.out.below hb k f hk'
        have HS := Lib.hid (ataken l k f hk')
        have hi1 : (k : Int) < (l.length : Int) := by omega
        have hi2 : (k : Int) < (most : Int) := by omega
        clear hk'
        by_cases g0 : f.s.size ≤ 100
        · by_cases g1 : f.nm.size ≤ 100
          · by_cases g2 : f.to_.size ≤ 100
            · by_cases g3 : f.ks.length ≤ 20
              · have HSM := Lib.hid (show smallA f from ⟨g0, g1, g2, g3⟩)
                go_wp2_with fail
                refine ⟨⟨k + 1, by omega, by omega, by go_num, hb, ?_⟩, by simp [intOf]; omega⟩
                rw [HS.out]
                intro x hx
                rcases List.mem_append.1 hx with hx | hx
                · exact HPRE.out x hx
                · obtain rfl : x = f := by simpa using hx
                  exact HSM.out
              · go_wp2_with fail
                go_ret
                exact ⟨rfl, hb⟩
            · go_wp2_with fail
              go_ret
              exact ⟨rfl, hb⟩
          · go_wp2_with fail
            go_ret
            exact ⟨rfl, hb⟩
        · go_wp2_with fail
          go_ret
          exact ⟨rfl, hb⟩
      · have hd : decide (l.length ≤ most) = false := by rw [decide_eq_false_iff_not]; omega
        go_wp2_with fail
        go_ret
        exact ⟨rfl, hb⟩
    · have hgt : ¬ l.length ≤ most := fun h => HF.out ⟨h, fun f hf => HPRE.out f (by rwa [List.take_of_length_le (by omega)])⟩
      have hd : decide (l.length ≤ most) = false := by rw [decide_eq_false_iff_not]; omega
      go_wp2_with fail
      go_ret
      exact ⟨rfl, hb⟩
end Go.Proofs.Ytmkaijjakcjflaa
