/- Slices of records that come in: opened; are they few, are they short? -/
import Derived.Test.YtkhnmdmpkedifaaPackL
import Derived.Test.YtkhnmdmpkedifaaLaw09b
namespace Go.Proofs.Ytkhnmdmpkedifaa
open Go.ChangeShapes Go.WideShapes Go.ChangeAt Go.RowKit Go.Deep

/-- a slice at A reads as records, below block B -/
def RdS (w : World) (B : Nat) (A : Option Addr) (l : List Sp) : Prop :=
  ∀ k x, l[k]? = some x → ∃ ad, A = some ad ∧ ad.block < B ∧ w.cell? (ad.add (k * 9)) = some (.int .i64 x.tr) ∧ w.cell? ⟨(ad.add (k * 9)).block, (ad.add (k * 9)).off + 1, none⟩ = some (.int .i64 x.id) ∧ w.cell? ⟨(ad.add (k * 9)).block, (ad.add (k * 9)).off + 2, none⟩ = some (.int .i64 x.pa)
    ∧ w.cell? ⟨(ad.add (k * 9)).block, (ad.add (k * 9)).off + 3, none⟩ = some (.int .i64 x.rv) ∧ w.cell? ⟨(ad.add (k * 9)).block, (ad.add (k * 9)).off + 4, none⟩ = some (.string x.sv) ∧ w.cell? ⟨(ad.add (k * 9)).block, (ad.add (k * 9)).off + 5, none⟩ = some (.string x.op)
    ∧ w.cell? ⟨(ad.add (k * 9)).block, (ad.add (k * 9)).off + 6, none⟩ = some (.int .i64 x.st) ∧ w.cell? ⟨(ad.add (k * 9)).block, (ad.add (k * 9)).off + 7, none⟩ = some (.int .i64 x.du) ∧ w.cell? ⟨(ad.add (k * 9)).block, (ad.add (k * 9)).off + 8, none⟩ = some (.bool x.gn)
theorem RdS.below {w w' : World} {B : Nat} {A : Option Addr} {l : List Sp} (h : RdS w B A l) (hb : Below B w w') : RdS w' B A l := fun k x hk => by
  obtain ⟨ad, e, hlt, h0, h1, h2, h3, h4, h5, h6, h7, h8⟩ := h k x hk
  have hb' : ∀ a : Addr, a.block = ad.block → w'.cell? a = w.cell? a := fun a ha => hb.cell (p := a) (by rw [ha]; exact hlt)
  have hj : ∀ j, w'.cell? ⟨(ad.add (k * 9)).block, (ad.add (k * 9)).off + j, none⟩ = w.cell? ⟨(ad.add (k * 9)).block, (ad.add (k * 9)).off + j, none⟩ := fun j => hb' _ (addr_add_block ad (k * 9))
  exact ⟨ad, e, hlt, (hb' _ (addr_add_block ad (k * 9))).trans h0, (hj 1).trans h1, (hj 2).trans h2, (hj 3).trans h3, (hj 4).trans h4, (hj 5).trans h5, (hj 6).trans h6, (hj 7).trans h7, (hj 8).trans h8⟩
theorem RdS.at {w w' : World} {B : Nat} {ad : Addr} {l : List Sp} (h : RdS w B (some ad) l) (hb : Below B w w') {k : Nat} {x : Sp} (hk : l[k]? = some x) :
    w'.cell? (ad.add (k * 9)) = some (.int .i64 x.tr) ∧ w'.cell? ⟨(ad.add (k * 9)).block, (ad.add (k * 9)).off + 1, none⟩ = some (.int .i64 x.id) ∧ w'.cell? ⟨(ad.add (k * 9)).block, (ad.add (k * 9)).off + 2, none⟩ = some (.int .i64 x.pa)
    ∧ w'.cell? ⟨(ad.add (k * 9)).block, (ad.add (k * 9)).off + 3, none⟩ = some (.int .i64 x.rv) ∧ w'.cell? ⟨(ad.add (k * 9)).block, (ad.add (k * 9)).off + 4, none⟩ = some (.string x.sv) ∧ w'.cell? ⟨(ad.add (k * 9)).block, (ad.add (k * 9)).off + 5, none⟩ = some (.string x.op)
    ∧ w'.cell? ⟨(ad.add (k * 9)).block, (ad.add (k * 9)).off + 6, none⟩ = some (.int .i64 x.st) ∧ w'.cell? ⟨(ad.add (k * 9)).block, (ad.add (k * 9)).off + 7, none⟩ = some (.int .i64 x.du) ∧ w'.cell? ⟨(ad.add (k * 9)).block, (ad.add (k * 9)).off + 8, none⟩ = some (.bool x.gn) := by
  obtain ⟨ad', e, _, h0⟩ := h.below hb k x hk
  obtain rfl : ad = ad' := Option.some.inj e
  exact h0
theorem RdS.more {w : World} {B B' : Nat} {A : Option Addr} {l : List Sp} (h : RdS w B A l) (hB : B ≤ B') : RdS w B' A l := fun k x hk => by
  obtain ⟨ad, e, hlt, h0⟩ := h k x hk
  exact ⟨ad, e, Nat.lt_of_lt_of_le hlt hB, h0⟩
/-- a slice of records, opened -/
structure SlSp where
  A : Option Addr
  c : Nat
  l : List Sp
def SlSp.Ok (a : SlSp) (w : World) : Prop := a.l.length ≤ maxLen ∧ a.l.length ≤ a.c ∧ a.c ≤ maxLen ∧ (∀ x ∈ a.l, x.Ok) ∧ RdS w w.heap.size a.A a.l
instance : Inhabited Sp := ⟨⟨0, 0, 0, 0, ⟨#[]⟩, ⟨#[]⟩, 0, 0, false⟩⟩

set_option maxRecDepth 100000 in
theorem open_spanl {H : Type} {enc : TypeId × Value → H} {w : World} {base : Nat} {spare : Nat → Bool} {held : Bool} {r : Reach} {b0 : Nat} {v : Value} {d : DataW H} {p : List MemPlace}
    (hv : Value.okWide Try.prog w r b0 24 v) (h : DataW.Trod enc Try.prog w base spare held 24 v d p) (hl : ∀ x ∈ p, x.block < w.heap.size) :
    ∃ a : SlSp, v = .slice a.A a.l.length a.c ∧ a.Ok w := by
  rcases open_structs Try.underlying24 Try.underlying23 (by kernel_rfl) Try.cells_span (by simp) (slice_cells Try.underlying24 hv) h hl with h1 | ⟨a, len, cap, hc, hlc, hm, hall⟩
  · exact ⟨⟨none, 0, []⟩, by simpa using h1, by simp, by simp, by simp, by simp, fun j f hj => by simp at hj⟩
  · have hch : ∀ i, i < len → ∃ x : Sp, x.Ok ∧ w.cell? (a.add (i * 9)) = some (.int .i64 x.tr) ∧ w.cell? (a.add (i * 9 + 1)) = some (.int .i64 x.id) ∧ w.cell? (a.add (i * 9 + 2)) = some (.int .i64 x.pa) ∧ w.cell? (a.add (i * 9 + 3)) = some (.int .i64 x.rv)
        ∧ w.cell? (a.add (i * 9 + 4)) = some (.string x.sv) ∧ w.cell? (a.add (i * 9 + 5)) = some (.string x.op) ∧ w.cell? (a.add (i * 9 + 6)) = some (.int .i64 x.st) ∧ w.cell? (a.add (i * 9 + 7)) = some (.int .i64 x.du) ∧ w.cell? (a.add (i * 9 + 8)) = some (.bool x.gn) := fun i hi => by
      obtain ⟨_, cs, hlen, hcell, hg⟩ := hall i hi
      obtain ⟨c0, y0, n0, e0, t0⟩ := hg 0 _ rfl
      obtain ⟨c1, y1, n1, e1, t1⟩ := hg 1 _ rfl
      obtain ⟨c2, y2, n2, e2, t2⟩ := hg 2 _ rfl
      obtain ⟨c3, y3, n3, e3, t3⟩ := hg 3 _ rfl
      obtain ⟨c4, y4, n4, e4, t4⟩ := hg 4 _ rfl
      obtain ⟨c5, y5, n5, e5, t5⟩ := hg 5 _ rfl
      obtain ⟨c6, y6, n6, e6, t6⟩ := hg 6 _ rfl
      obtain ⟨c7, y7, n7, e7, t7⟩ := hg 7 _ rfl
      obtain ⟨c8, y8, n8, e8, t8⟩ := hg 8 _ rfl
      obtain ⟨z0, rfl, w0⟩ := cell_int Try.underlying3 t0
      obtain ⟨z1, rfl, w1⟩ := cell_int Try.underlying3 t1
      obtain ⟨z2, rfl, w2⟩ := cell_int Try.underlying3 t2
      obtain ⟨z3, rfl, w3⟩ := cell_int Try.underlying3 t3
      obtain ⟨z4, rfl, w4⟩ := cell_string Try.underlying9 t4
      obtain ⟨z5, rfl, w5⟩ := cell_string Try.underlying9 t5
      obtain ⟨z6, rfl, w6⟩ := cell_int Try.underlying3 t6
      obtain ⟨z7, rfl, w7⟩ := cell_int Try.underlying3 t7
      obtain ⟨z8, rfl⟩ := cell_bool Try.underlying4 t8
      exact ⟨⟨z0, z1, z2, z3, z4, z5, z6, z7, z8⟩, ⟨I64_of_wf w0, I64_of_wf w1, I64_of_wf w2, I64_of_wf w3, I64_of_wf w6, I64_of_wf w7, w4, w5⟩, (hcell 0 (by simp)).trans e0, (hcell 1 (by simp)).trans e1, (hcell 2 (by simp)).trans e2, (hcell 3 (by simp)).trans e3, (hcell 4 (by simp)).trans e4, (hcell 5 (by simp)).trans e5, (hcell 6 (by simp)).trans e6, (hcell 7 (by simp)).trans e7, (hcell 8 (by simp)).trans e8⟩
    obtain ⟨q, hq⟩ := choose_lt hch
    refine ⟨⟨some a, cap, (List.range len).map q⟩, by simpa using hc, by simp; omega, by simpa using hlc, hm, fun f hf => ?_, fun j f hj => ?_⟩
    · obtain ⟨i, hi, rfl⟩ := List.mem_map.1 hf
      exact (hq i (List.mem_range.1 hi)).1
    · obtain ⟨i, hi, rfl⟩ : ∃ i, (List.range len)[j]? = some i ∧ q i = f := by rw [List.getElem?_map] at hj; exact Option.map_eq_some_iff.1 hj
      obtain ⟨hj1, hj2⟩ := List.getElem?_eq_some_iff.1 hi
      rw [List.length_range] at hj1
      obtain rfl : j = i := by simpa using hj2
      obtain ⟨_, c0, c1, c2, c3, c4, c5, c6, c7, c8⟩ := hq j hj1
      refine ⟨a, rfl, (hall j hj1).1, c0, ?_, ?_, ?_, ?_, ?_, ?_, ?_, ?_⟩
      · rw [← c1, show (1 : Nat) = 0 + 1 from rfl, at_next]
      · rw [← c2, show (2 : Nat) = 1 + 1 from rfl, at_next]
      · rw [← c3, show (3 : Nat) = 2 + 1 from rfl, at_next]
      · rw [← c4, show (4 : Nat) = 3 + 1 from rfl, at_next]
      · rw [← c5, show (5 : Nat) = 4 + 1 from rfl, at_next]
      · rw [← c6, show (6 : Nat) = 5 + 1 from rfl, at_next]
      · rw [← c7, show (7 : Nat) = 6 + 1 from rfl, at_next]
      · rw [← c8, show (8 : Nat) = 7 + 1 from rfl, at_next]

/-- few records, with short names -/
def fewS (most : Nat) (l : List Sp) : Prop := l.length ≤ most ∧ ∀ x ∈ l, x.sv.size ≤ 100 ∧ x.op.size ≤ 100
theorem ref9_Short_dec (x : Sp) (hx : x.Ok) (w : World) :
    Calls Try.prog 15 #[.agg #[.int .i64 x.tr, .int .i64 x.id, .int .i64 x.pa, .int .i64 x.rv, .string x.sv, .string x.op, .int .i64 x.st, .int .i64 x.du, .bool x.gn]] w fun e w' => e = .returned (.bool (decide (x.sv.size ≤ 100 ∧ x.op.size ≤ 100))) ∧ Below w.heap.size w w' := by
  by_cases h : x.sv.size ≤ 100 ∧ x.op.size ≤ 100
  · rw [decide_eq_true h]; exact ref9_Short_yes x h w
  · rw [decide_eq_false h]; exact ref9_Short_no x hx h w
set_option maxRecDepth 100000 in
theorem ref9_Few_yes (A : Option Addr) (c : Nat) (l : List Sp) (most : Nat) (hmost : most ≤ 1000) (hf : fewS most l) (w : World) (hr : RdS w w.heap.size A l) :
    Calls Try.prog 16 #[.slice A l.length c, .int .i64 (most : Int)] w fun e w' => e = .returned (.bool true) ∧ Below w.heap.size w w' := by
  have HR := Lib.hid hr
  have HF := Lib.hid hf
  have h20 := hf.1
  clear hr hf
  go_enter Try.func16, Try.ntmps16
  go_wp2_with fail
  go_loopw [5] (fun i wr => ∃ k : Nat, k ≤ l.length ∧ i = .int .i64 k ∧ Below w.heap.size w wr) (fun i _ => l.length - (intOf i).toNat)
  case atStart => exact ⟨0, by omega, rfl, Below.refl _ _⟩
  case round =>
    obtain ⟨k, hk, rfl, hb⟩ := hrel
    by_cases hlt : k < l.length
    · obtain ⟨f, hk'⟩ : ∃ f, l[k]? = some f := ⟨l[k], List.getElem?_eq_getElem hlt⟩
      obtain ⟨ad, rfl, hadl, c0, c1, c2, c3, c4, c5, c6, c7, c8⟩ := HR.out.below hb k f hk'
      have HS := Lib.hid (ref9_Short_yes f (HF.out.2 f (List.mem_of_getElem? hk')))
      have hi1 : (k : Int) < (l.length : Int) := by omega
      have hi2 : (k : Int) < (most : Int) := by omega
      clear hk'
      go_wp2_with (go_at_call 15; (with_reducible refine (HS.out _).mono ?_); rintro e w1 ⟨rfl, b1⟩)
      exact ⟨⟨k + 1, by omega, by go_num, hb.trans (b1.mono hb.size)⟩, by simp [intOf]; omega⟩
    · have hd : decide (l.length ≤ most) = true := by rw [decide_eq_true_eq]; omega
      go_wp2_with fail
      go_ret
      exact ⟨rfl, hb⟩
set_option maxRecDepth 100000 in
theorem ref9_Few_no (A : Option Addr) (c : Nat) (l : List Sp) (hm : l.length ≤ maxLen) (hok : ∀ x ∈ l, x.Ok) (most : Nat) (hmost : most ≤ 1000) (hf : ¬ fewS most l) (w : World) (hr : RdS w w.heap.size A l) :
    Calls Try.prog 16 #[.slice A l.length c, .int .i64 (most : Int)] w fun e w' => e = .returned (.bool false) ∧ Below w.heap.size w w' := by
  have HR := Lib.hid hr
  have HF := Lib.hid hf
  have HK := Lib.hid hok
  unfold maxLen at hm
  clear hr hf hok
  go_enter Try.func16, Try.ntmps16
  go_wp2_with fail
  go_loopw [5] (fun i wr => ∃ k : Nat, k ≤ l.length ∧ k ≤ most ∧ i = .int .i64 k ∧ Below w.heap.size w wr ∧ ∀ x ∈ l.take k, x.sv.size ≤ 100 ∧ x.op.size ≤ 100) (fun i _ => l.length - (intOf i).toNat)
  case atStart => exact ⟨0, by omega, by omega, rfl, Below.refl _ _, by simp⟩
  case round =>
    obtain ⟨k, hk, hk20, rfl, hb, hpre⟩ := hrel
    have HPRE := Lib.hid hpre
    clear hpre
    by_cases hlt : k < l.length
    · by_cases hlt2 : k < most
      · obtain ⟨f, hk'⟩ : ∃ f, l[k]? = some f := ⟨l[k], List.getElem?_eq_getElem hlt⟩
        obtain ⟨ad, rfl, hadl, c0, c1, c2, c3, c4, c5, c6, c7, c8⟩ := HR.out.below hb k f hk'
        have HS := Lib.hid (ptake_snoc l k f hk')
        have hi1 : (k : Int) < (l.length : Int) := by omega
        have hi2 : (k : Int) < (most : Int) := by omega
        have hfok := HK.out f (List.mem_of_getElem? hk')
        clear hk'
        by_cases hle : f.sv.size ≤ 100 ∧ f.op.size ≤ 100
        · have HSY := Lib.hid (ref9_Short_yes f hle)
          have HLE := Lib.hid hle
          clear hle hfok
          go_wp2_with (go_at_call 15; (with_reducible refine (HSY.out _).mono ?_); rintro e w1 ⟨rfl, b1⟩)
          refine ⟨⟨k + 1, by omega, by omega, by go_num, hb.trans (b1.mono hb.size), ?_⟩, by simp [intOf]; omega⟩
          rw [HS.out]
          intro x hx
          rcases List.mem_append.1 hx with hx | hx
          · exact HPRE.out x hx
          · obtain rfl : x = f := by simpa using hx
            exact HLE.out
        · have HSN := Lib.hid (ref9_Short_no f hfok hle)
          clear hle hfok
          go_wp2_with (go_at_call 15; (with_reducible refine (HSN.out _).mono ?_); rintro e w1 ⟨rfl, b1⟩)
          go_ret
          exact ⟨rfl, hb.trans (b1.mono hb.size)⟩
      · have hd : decide (l.length ≤ most) = false := by rw [decide_eq_false_iff_not]; omega
        go_wp2_with fail
        go_ret
        exact ⟨rfl, hb⟩
    · have hgt : ¬ l.length ≤ most := fun h => HF.out ⟨h, fun f hf => HPRE.out f (by rwa [List.take_of_length_le (by omega)])⟩
      have hd : decide (l.length ≤ most) = false := by rw [decide_eq_false_iff_not]; omega
      go_wp2_with fail
      go_ret
      exact ⟨rfl, hb⟩
