/- Layer 11 (lot): whether records may be; Put, and the plain Put. -/
import Derived.Test.YtkhnmdmpkedifaaSpans
import Derived.Test.YtkhnmdmpkedifaaEqSpan
import Derived.Test.YtkhnmdmpkedifaaLaw09c
namespace Go.Proofs.Ytkhnmdmpkedifaa
open Go.ChangeShapes Go.WideShapes Go.ChangeAt Go.RowKit Go.Deep

theorem lot_one (x : Sp) (hx : x.Ok) (w : World) :
    Calls Try.prog 106 #[.agg #[.int .i64 x.tr, .int .i64 x.id, .int .i64 x.pa, .int .i64 x.rv, .string x.sv, .string x.op, .int .i64 x.st, .int .i64 x.du, .bool x.gn]] w fun e w' => e = .returned (.bool (!CodeP.mayB (spP x))) ∧ Below w.heap.size w w' := by
  have HM := Lib.hid (code_May x hx)
  unfold CodeP.may at HM
  by_cases hm : CodeP.mayB (spP x) = true
  · rw [if_pos hm] at HM
    rw [hm]
    clear hm hx
    go_enter Try.func106, Try.ntmps106
    go_wp2_with (go_at_call 41; with_reducible refine (HM.out _).mono ?_; rintro e w1 ⟨rfl, b1⟩)
    go_ret
    exact ⟨rfl, by (repeat (first | assumption | exact Below.refl _ _ | refine below_step (by assumption) ?_ | refine below_alloc' _ ?_ | refine below_drewN ?_ _ | refine Below.drew ?_))⟩
  · rw [if_neg hm] at HM
    rw [Bool.not_eq_true] at hm
    rw [hm]
    clear hm hx
    go_enter Try.func106, Try.ntmps106
    go_wp2_with (go_at_call 41; with_reducible refine (HM.out _).mono ?_; rintro e w1 ⟨rfl, b1⟩)
    go_ret
    exact ⟨rfl, by (repeat (first | assumption | exact Below.refl _ _ | refine below_step (by assumption) ?_ | refine below_alloc' _ ?_ | refine below_drewN ?_ _ | refine Below.drew ?_))⟩
/-- may all of them be? -/
def mayAll (l : List Sp) : Bool := l.all fun x => CodeP.mayB (spP x)
theorem mayAll_take {l : List Sp} {k : Nat} {x : Sp} (hk : l[k]? = some x) (h : mayAll (l.take k) = true) (hx : CodeP.mayB (spP x) = true) : mayAll (l.take (k + 1)) = true := by
  rw [List.take_add_one, hk]; unfold mayAll at h ⊢; simp [h, hx]
theorem mayAll_bad {l : List Sp} {k : Nat} {x : Sp} (hk : l[k]? = some x) (hx : CodeP.mayB (spP x) = false) : mayAll l = false := by
  unfold mayAll
  rw [List.all_eq_false]
  exact ⟨x, List.mem_of_getElem? hk, by simp [hx]⟩

set_option maxRecDepth 100000 in
theorem lot_index (A : Option Addr) (c : Nat) (l : List Sp) (hm : l.length ≤ maxLen) (hok : ∀ x ∈ l, x.Ok) (w : World) (hr : RdS w w.heap.size A l) :
    Calls Try.prog 111 #[.slice A l.length c, .func (.func 106) #[] #[]] w fun e w' => (∃ i : Int, e = .returned (.int .i64 i) ∧ decide (0 ≤ i) = !mayAll l) ∧ Below w.heap.size w w' := by
  unfold maxLen at hm
  have HR := Lib.hid hr
  have HK := Lib.hid hok
  clear hr hok
  go_enter Try.func111, Try.ntmps111
  go_wp2_with fail
  go_loopw [8] (fun i wr => ∃ k : Nat, k ≤ l.length ∧ i = .int .i64 k ∧ mayAll (l.take k) = true ∧ Below w.heap.size w wr) (fun i _ => l.length - (intOf i).toNat)
  case atStart => exact ⟨0, by omega, rfl, rfl, Below.refl _ _⟩
  case round =>
    obtain ⟨k, hk, rfl, hmay, hb⟩ := hrel
    have HMY := Lib.hid hmay
    clear hmay
    by_cases hlt : k < l.length
    · obtain ⟨f, hk'⟩ : ∃ f, l[k]? = some f := ⟨l[k], List.getElem?_eq_getElem hlt⟩
      obtain ⟨ad, rfl, hadl, c0, c1, c2, c3, c4, c5, c6, c7, c8⟩ := HR.out.below hb k f hk'
      have HKK := Lib.hid hk'
      have ho := lot_one f (HK.out f (List.mem_of_getElem? hk'))
      have hi1 : (k : Int) < (l.length : Int) := by omega
      clear hk'
      rcases hq : CodeP.mayB (spP f) with _ | _
      · have HBAD := Lib.hid (mayAll_bad HKK.out hq)
        rw [hq] at ho
        have HO := Lib.hid ho
        clear ho hq
        go_wp2_with (go_at_call 106; (with_reducible refine (HO.out _).mono ?_); rintro e w1 ⟨rfl, b1⟩)
        go_ret
        exact ⟨⟨_, rfl, by rw [HBAD.out]; simp⟩, hb.trans (b1.mono hb.size)⟩
      · have HGO := Lib.hid (mayAll_take HKK.out HMY.out hq)
        rw [hq] at ho
        have HO := Lib.hid ho
        clear ho hq
        go_wp2_with (go_at_call 106; (with_reducible refine (HO.out _).mono ?_); rintro e w1 ⟨rfl, b1⟩)
        exact ⟨⟨k + 1, by omega, by go_num, HGO.out, hb.trans (b1.mono hb.size)⟩, by simp [intOf]; omega⟩
    · obtain rfl : k = l.length := by omega
      go_wp2_with fail
      go_ret
      have := HMY.out
      rw [List.take_length] at this
      exact ⟨⟨_, rfl, by rw [this]; rfl⟩, hb⟩
theorem lot_contains (A : Option Addr) (c : Nat) (l : List Sp) (hm : l.length ≤ maxLen) (hok : ∀ x ∈ l, x.Ok) (w : World) (hr : RdS w w.heap.size A l) :
    Calls Try.prog 105 #[.slice A l.length c, .func (.func 106) #[] #[]] w fun e w' => e = .returned (.bool (!mayAll l)) ∧ Below w.heap.size w w' := by
  have HI := Lib.hid (lot_index A c l hm hok w hr)
  clear hr hok hm
  generalize mayAll l = m at HI ⊢
  go_enter Try.func105, Try.ntmps105
  go_wp2_with (go_at_call 111; with_reducible refine (HI.out).mono ?_; rintro e w1 ⟨⟨i, rfl, hi⟩, b1⟩)
  go_ret
  exact ⟨rfl, b1⟩
theorem lot_right (A : Option Addr) (c : Nat) (l : List Sp) (hm : l.length ≤ maxLen) (hok : ∀ x ∈ l, x.Ok) (w : World) (hr : RdS w w.heap.size A l) :
    Calls Try.prog 86 #[.slice A l.length c] w fun e w' => e = .returned (.bool (mayAll l)) ∧ Below w.heap.size w w' := by
  have HI := Lib.hid (lot_contains A c l hm hok w hr)
  clear hr hok hm
  generalize mayAll l = m at HI ⊢
  go_enter Try.func86, Try.ntmps86
  go_wp2_with (go_at_call 105; with_reducible refine (HI.out).mono ?_; rintro e w1 ⟨rfl, b1⟩)
  go_ret
  exact ⟨by simp, b1⟩

set_option maxRecDepth 100000 in
/-- two slices of the same records -/
theorem ref9_Same (A A' : Option Addr) (c c' : Nat) (l : List Sp) (hm : l.length ≤ maxLen) (w : World) (hr : RdS w w.heap.size A l) (hr' : RdS w w.heap.size A' l) :
    Calls Try.prog 56 #[.slice A l.length c, .slice A' l.length c'] w fun e w' => e = .returned (.bool true) ∧ Below w.heap.size w w' := by
  unfold maxLen at hm
  have HR := Lib.hid hr
  have HR' := Lib.hid hr'
  clear hr hr'
  go_enter Try.func56, Try.ntmps56
  go_wp2_with fail
  go_loopw [5] (fun i wr => ∃ k : Nat, k ≤ l.length ∧ i = .int .i64 k ∧ Below w.heap.size w wr) (fun i _ => l.length - (intOf i).toNat)
  case atStart => exact ⟨0, by omega, rfl, Below.refl _ _⟩
  case round =>
    obtain ⟨k, hk, rfl, hb⟩ := hrel
    by_cases hlt : k < l.length
    · obtain ⟨f, hk'⟩ : ∃ f, l[k]? = some f := ⟨l[k], List.getElem?_eq_getElem hlt⟩
      obtain ⟨ad, rfl, hadl, c0, c1, c2, c3, c4, c5, c6, c7, c8⟩ := HR.out.below hb.drew k f hk'
      obtain ⟨ad', rfl, hadl', d0, d1, d2, d3, d4, d5, d6, d7, d8⟩ := HR'.out.below hb.drew k f hk'
      have hi1 : (k : Int) < (l.length : Int) := by omega
      clear hk'
      go_wp2_with fail
      go_region
      go_wp2_with fail
      exact ⟨⟨k + 1, by omega, by go_num, hb.drew⟩, by simp [intOf]; omega⟩
    · obtain rfl : k = l.length := by omega
      go_wp2_with fail
      go_ret
      exact ⟨rfl, hb⟩
end Go.Proofs.Ytkhnmdmpkedifaa
namespace Go.Proofs.Ytkhnmdmpkedifaa
open Go.ChangeShapes Go.WideShapes Go.ChangeAt Go.RowKit Go.Deep

/-- the bytes of records, and those of a lot -/
def encs (l : List Sp) : List UInt8 := l.flatMap fun x => CodeP.enc (spP x)
def lotB (l : List Sp) : List UInt8 := VariP.putI (l.length : Int) ++ encs l
def short3 (l : List Sp) : Prop := ∀ x ∈ l, x.sv.size ≤ 300 ∧ x.op.size ≤ 300
theorem encs_take {l : List Sp} {k : Nat} {x : Sp} (hk : l[k]? = some x) : encs (l.take (k + 1)) = encs (l.take k) ++ CodeP.enc (spP x) := by
  rw [List.take_add_one, hk]; simp [encs]
theorem encs_len {l : List Sp} (h : short3 l) : (encs l).length ≤ 700 * l.length := by
  induction l with
  | nil => simp [encs]
  | cons x l ih =>
    have h1 := enc_len (spP x)
    have h2 := h x (by simp)
    have h3 := ih (fun y hy => h y (by simp [hy]))
    have e : encs (x :: l) = CodeP.enc (spP x) ++ encs l := by simp [encs]
    have e1 : (spP x).sv.length = x.sv.size := rfl
    have e2 : (spP x).op.length = x.op.size := rfl
    rw [e, List.length_append, List.length_cons]; omega
theorem encs_take_len {l : List Sp} (h : short3 l) (hl : l.length ≤ 256) (k : Nat) : (encs (l.take k)).length ≤ 180000 := by
  have h1 := encs_len (l := l.take k) (fun x hx => h x (List.mem_of_mem_take hx))
  rw [List.length_take] at h1; omega

set_option maxRecDepth 100000 in
theorem lot_Put_ok (A : Option Addr) (c : Nat) (l : List Sp) (hl : l.length ≤ 256) (hok : ∀ x ∈ l, x.Ok) (h3 : short3 l) (hm : mayAll l = true) (w : World) (hr : RdS w w.heap.size A l) :
    Calls Try.prog 50 #[.slice A l.length c] w fun e w' => e = .returned (.tuple #[.string ⟨(lotB l).toArray⟩, .int .i64 0]) ∧ Below w.heap.size w w' := by
  have hrt := lot_right A c l (by unfold maxLen; omega) hok w hr
  rw [hm] at hrt
  have HRT := Lib.hid hrt
  have HR := Lib.hid hr
  have HK := Lib.hid hok
  have H3 := Lib.hid h3
  have hi : I64 (l.length : Int) := by unfold I64; omega
  have hpl := putI_len (l.length : Int)
  have HN := Lib.hid (fun (W : World) (b : Nat) (h : Wr b [] W) => pack_Num b [] (l.length : Int) hi W h (by simp))
  unfold lotB
  clear hrt hr hok h3 hm hi
  generalize VariP.putI (l.length : Int) = P at HN hpl ⊢
  go_enter Try.func50, Try.ntmps50
  go_wp2_with (first
    | (go_at_call 86; with_reducible refine (HRT.out).mono ?_; rintro e w1 ⟨rfl, b1⟩; have r1 := Wr.new w1)
    | (go_at_call 42; with_reducible refine (HN.out _ _ r1).mono ?_; rintro e w2 ⟨rfl, r2, b2, _⟩))
  have hle := b1.size
  go_loopw [20] (fun i wr => ∃ k : Nat, k ≤ l.length ∧ i = .int .i64 k ∧ Wr w1.heap.size (P ++ encs (l.take k)) wr ∧ Below w.heap.size w wr) (fun i _ => l.length - (intOf i).toNat)
  case atStart => exact ⟨0, by omega, rfl, by simpa [encs] using r2, (below_alloc' _ b1).trans (b2.mono hle)⟩
  case round =>
    obtain ⟨k, hk, rfl, hW, hb⟩ := hrel
    by_cases hlt : k < l.length
    · obtain ⟨f, hk'⟩ : ∃ f, l[k]? = some f := ⟨l[k], List.getElem?_eq_getElem hlt⟩
      obtain ⟨ad, rfl, hadl, c0, c1, c2, c3, c4, c5, c6, c7, c8⟩ := HR.out.below hb k f hk'
      have hmem := List.mem_of_getElem? hk'
      have HSN := Lib.hid (encs_take hk')
      have hen := encs_take_len H3.out hl k
      have hfs := H3.out f hmem
      have hO := heap_alloc_new wr (.cells #[.int .i64 f.tr, .int .i64 f.id, .int .i64 f.pa, .int .i64 f.rv, .string f.sv, .string f.op, .int .i64 f.st, .int .i64 f.du, .bool f.gn] 23)
      have y0 := box_cells hO 0
      have y1 := box_cells hO 1
      have y2 := box_cells hO 2
      have y3 := box_cells hO 3
      have y4 := box_cells hO 4
      have y5 := box_cells hO 5
      have y6 := box_cells hO 6
      have y7 := box_cells hO 7
      have y8 := box_cells hO 8
      have hWr := code_Write w1.heap.size _ f (HK.out f hmem) (by omega) (wr.alloc (.cells #[.int .i64 f.tr, .int .i64 f.id, .int .i64 f.pa, .int .i64 f.rv, .string f.sv, .string f.op, .int .i64 f.st, .int .i64 f.du, .bool f.gn] 23)) (hW.below ((Below.refl _ _).alloc (Nat.le_refl _) _)) (by rw [List.length_append]; omega)
      have HWr := Lib.hid hWr
      have hi1 : (k : Int) < (l.length : Int) := by omega
      clear hWr hk' hmem hW hO
      go_wp2_with (go_at_call 43; with_reducible refine (HWr.out).mono ?_; rintro e w3 ⟨rfl, r3, b3, _⟩)
      exact ⟨⟨k + 1, by omega, by go_num, by rw [HSN.out, ← List.append_assoc]; exact r3, (below_alloc' _ hb).trans (b3.mono hle)⟩, by simp [intOf]; omega⟩
    · obtain rfl : k = l.length := by omega
      rw [List.take_length] at hW
      have HB := Lib.hid (pack_Bytes w1.heap.size _ wr hW)
      clear hW
      go_wp2_with (go_at_call 28; with_reducible refine (HB.out).mono ?_; rintro e w5 ⟨rfl, r5, b5, _⟩)
      go_ret2
      exact ⟨rfl, hb.trans (b5.mono hle)⟩

theorem lot_Put_bad (A : Option Addr) (c : Nat) (l : List Sp) (hl : l.length ≤ 256) (hok : ∀ x ∈ l, x.Ok) (hm : mayAll l = false) (w : World) (hr : RdS w w.heap.size A l) :
    Calls Try.prog 50 #[.slice A l.length c] w fun e w' => e = .returned (.tuple #[.string ⟨#[]⟩, .int .i64 1]) ∧ Below w.heap.size w w' := by
  have hrt := lot_right A c l (by unfold maxLen; omega) hok w hr
  rw [hm] at hrt
  have HRT := Lib.hid hrt
  clear hrt hr hok hm
  go_enter Try.func50, Try.ntmps50
  go_wp2_with (go_at_call 86; with_reducible refine (HRT.out).mono ?_; rintro e w1 ⟨rfl, b1⟩)
  go_ret2
  exact ⟨rfl, b1⟩
end Go.Proofs.Ytkhnmdmpkedifaa
namespace Go.Proofs.Ytkhnmdmpkedifaa
open Go.ChangeShapes Go.WideShapes Go.ChangeAt Go.RowKit Go.Deep

theorem lot_app (a b : List UInt8) : (⟨(a ++ b).toArray⟩ : ByteArray) = ⟨a.toArray⟩ ++ ⟨b.toArray⟩ := bl_ext (by rw [ByteArray.data_append, Array.toList_append])
set_option maxRecDepth 100000 in
theorem ref11_Put_ok (A : Option Addr) (c : Nat) (l : List Sp) (hl : l.length ≤ 256) (hok : ∀ x ∈ l, x.Ok) (h3 : short3 l) (hm : mayAll l = true) (w : World) (hr : RdS w w.heap.size A l) :
    Calls Try.prog 51 #[.slice A l.length c] w fun e w' => e = .returned (.tuple #[.string ⟨(lotB l).toArray⟩, .int .i64 0]) ∧ Below w.heap.size w w' := by
  have HR := Lib.hid hr
  have HK := Lib.hid hok
  have H3 := Lib.hid h3
  have HM := Lib.hid (List.all_eq_true.1 hm)
  have hi : I64 (l.length : Int) := by unfold I64; omega
  have hpl := putI_len (l.length : Int)
  have hp := ref_Put (l.length : Int) hi
  rw [show putB (l.length : Int) = ⟨(VariP.putI (l.length : Int)).toArray⟩ from rfl] at hp
  have HP := Lib.hid hp
  unfold lotB
  clear hp hr hok h3 hm hi
  generalize VariP.putI (l.length : Int) = P at HP hpl ⊢
  go_enter Try.func51, Try.ntmps51
  go_wp2_with (go_at_call 68; with_reducible refine (HP.out _).mono ?_; rintro e w1 ⟨rfl, b1⟩)
  go_loopw [4, 5] (fun s i wr => ∃ k : Nat, k ≤ l.length ∧ i = .int .i64 k ∧ s = .string ⟨(P ++ encs (l.take k)).toArray⟩ ∧ Below w.heap.size w wr) (fun _ i _ => l.length - (intOf i).toNat)
  case atStart => exact ⟨0, by omega, rfl, by simp [encs], b1⟩
  case round =>
    obtain ⟨k, hk, rfl, rfl, hb⟩ := hrel
    by_cases hlt : k < l.length
    · obtain ⟨f, hk'⟩ : ∃ f, l[k]? = some f := ⟨l[k], List.getElem?_eq_getElem hlt⟩
      obtain ⟨ad, rfl, hadl, c0, c1, c2, c3, c4, c5, c6, c7, c8⟩ := HR.out.below hb k f hk'
      have hmem := List.mem_of_getElem? hk'
      have hsn := encs_take hk'
      have hen := encs_take_len H3.out hl k
      have hfs := H3.out f hmem
      have hpf := put_facts f (HK.out f hmem) (HM.out f hmem)
      have hpu := ref9_Put f (HK.out f hmem) hfs
      rw [hpf.1] at hpu
      have hel := hpf.2.2
      have hap := lot_app (P ++ encs (l.take k)) (CodeP.enc (spP f))
      rw [List.append_assoc, ← hsn] at hap
      have hs1 := bl_size (P ++ encs (l.take k))
      have hs2 := bl_size (CodeP.enc (spP f))
      rw [List.length_append] at hs1
      simp only at hpu
      generalize (⟨(P ++ encs (l.take k)).toArray⟩ : ByteArray) = SB at hap hs1 ⊢
      generalize (⟨(CodeP.enc (spP f)).toArray⟩ : ByteArray) = EB at hap hs2 hpu
      have HAP := Lib.hid hap
      have HPU := Lib.hid hpu
      have hi1 : (k : Int) < (l.length : Int) := by omega
      clear hpu hap hk' hmem hsn hpf
      go_wp2_with (go_at_call 38; with_reducible refine (HPU.out _).mono ?_; rintro e w3 ⟨rfl, b3⟩)
      exact ⟨⟨k + 1, by omega, by go_num, by rw [HAP.out], hb.trans (b3.mono hb.size)⟩, by simp [intOf]; omega⟩
    · obtain rfl : k = l.length := by omega
      rw [List.take_length]
      go_wp2_with fail
      go_ret2
      exact ⟨rfl, hb⟩

set_option maxRecDepth 100000 in
theorem ref11_Put_bad (A : Option Addr) (c : Nat) (l : List Sp) (hl : l.length ≤ 256) (hok : ∀ x ∈ l, x.Ok) (h3 : short3 l) (hm : mayAll l = false) (w : World) (hr : RdS w w.heap.size A l) :
    Calls Try.prog 51 #[.slice A l.length c] w fun e w' => e = .returned (.tuple #[.string ⟨#[]⟩, .int .i64 1]) ∧ Below w.heap.size w w' := by
  have HR := Lib.hid hr
  have HK := Lib.hid hok
  have H3 := Lib.hid h3
  have HM := Lib.hid hm
  have hi : I64 (l.length : Int) := by unfold I64; omega
  have hpl := putI_len (l.length : Int)
  have hp := ref_Put (l.length : Int) hi
  rw [show putB (l.length : Int) = ⟨(VariP.putI (l.length : Int)).toArray⟩ from rfl] at hp
  have HP := Lib.hid hp
  clear hp hr hok h3 hm hi
  generalize VariP.putI (l.length : Int) = P at HP hpl
  go_enter Try.func51, Try.ntmps51
  go_wp2_with (go_at_call 68; with_reducible refine (HP.out _).mono ?_; rintro e w1 ⟨rfl, b1⟩)
  go_loopw [4, 5] (fun s i wr => ∃ k : Nat, k ≤ l.length ∧ i = .int .i64 k ∧ s = .string ⟨(P ++ encs (l.take k)).toArray⟩ ∧ mayAll (l.take k) = true ∧ Below w.heap.size w wr) (fun _ i _ => l.length - (intOf i).toNat)
  case atStart => exact ⟨0, by omega, rfl, by simp [encs], rfl, b1⟩
  case round =>
    obtain ⟨k, hk, rfl, rfl, hmay, hb⟩ := hrel
    have HMY := Lib.hid hmay
    clear hmay
    by_cases hlt : k < l.length
    · obtain ⟨f, hk'⟩ : ∃ f, l[k]? = some f := ⟨l[k], List.getElem?_eq_getElem hlt⟩
      obtain ⟨ad, rfl, hadl, c0, c1, c2, c3, c4, c5, c6, c7, c8⟩ := HR.out.below hb k f hk'
      have hmem := List.mem_of_getElem? hk'
      have hsn := encs_take hk'
      have hen := encs_take_len H3.out hl k
      have hfs := H3.out f hmem
      rcases hq : CodeP.mayB (spP f) with _ | _
      · have hpu := ref9_Put f (HK.out f hmem) hfs
        unfold CodeP.putS at hpu
        rw [if_neg (by rw [hq]; simp)] at hpu
        rw [show (⟨(([], 1) : List UInt8 × Int).1.toArray⟩ : ByteArray) = ⟨#[]⟩ from rfl] at hpu
        simp only at hpu
        have HPU := Lib.hid hpu
        have hi1 : (k : Int) < (l.length : Int) := by omega
        clear hpu hq hk' hmem hsn hen
        go_wp2_with (go_at_call 38; with_reducible refine (HPU.out _).mono ?_; rintro e w3 ⟨rfl, b3⟩)
        go_ret2
        exact ⟨rfl, hb.trans (b3.mono hb.size)⟩
      · have hpf := put_facts f (HK.out f hmem) hq
        have hpu := ref9_Put f (HK.out f hmem) hfs
        rw [hpf.1] at hpu
        have hel := hpf.2.2
        have hap := lot_app (P ++ encs (l.take k)) (CodeP.enc (spP f))
        rw [List.append_assoc, ← hsn] at hap
        have hs1 := bl_size (P ++ encs (l.take k))
        have hs2 := bl_size (CodeP.enc (spP f))
        rw [List.length_append] at hs1
        simp only at hpu
        generalize (⟨(P ++ encs (l.take k)).toArray⟩ : ByteArray) = SB at hap hs1 ⊢
        generalize (⟨(CodeP.enc (spP f)).toArray⟩ : ByteArray) = EB at hap hs2 hpu
        have HAP := Lib.hid hap
        have HGO := Lib.hid (mayAll_take hk' HMY.out hq)
        have HPU := Lib.hid hpu
        have hi1 : (k : Int) < (l.length : Int) := by omega
        clear hq hpu hap hk' hmem hsn hpf
        go_wp2_with (go_at_call 38; with_reducible refine (HPU.out _).mono ?_; rintro e w3 ⟨rfl, b3⟩)
        exact ⟨⟨k + 1, by omega, by go_num, by rw [HAP.out], HGO.out, hb.trans (b3.mono hb.size)⟩, by simp [intOf]; omega⟩
    · obtain rfl : k = l.length := by omega
      have hmay := HMY.out
      rw [List.take_length, HM.out] at hmay
      cases hmay
end Go.Proofs.Ytkhnmdmpkedifaa
