/- Frames that come in as a slice, opened; are they few? -/
import Derived.Test.YtaocmepffhochaaLaw06b
import Derived.Test.YtaocmepffhochaaFrameWP
import Derived.Deep.SlicePairs
namespace Go.Proofs.Ytaocmepffhochaa
open Go.ChangeShapes Go.WideShapes Go.ChangeAt Go.RowKit Go.Deep BigP

/-- a slice of frames, opened -/
structure SlF where
  A : Option Addr
  c : Nat
  l : List FrameP.Fr
def SlF.Ok (a : SlF) (w : World) : Prop := a.l.length ≤ maxLen ∧ a.l.length ≤ a.c ∧ (∀ f ∈ a.l, I64 f.1 ∧ f.2.length ≤ maxLen) ∧ RdF w w.heap.size a.A a.l
theorem add_off (a : Addr) (n : Nat) : (a.add n).off = a.off + n := by unfold Addr.add; split <;> simp_all
theorem open_framel {H : Type} {enc : TypeId × Value → H} {w : World} {base : Nat} {spare : Nat → Bool} {held : Bool} {r : Reach} {b0 : Nat} {v : Value} {d : DataW H} {p : List MemPlace}
    (hv : Value.okWide Try.prog w r b0 47 v) (h : DataW.Trod enc Try.prog w base spare held 47 v d p) (hl : ∀ x ∈ p, x.block < w.heap.size) :
    ∃ a : SlF, v = .slice a.A a.l.length a.c ∧ a.Ok w := by
  obtain ⟨fuel, hf⟩ := h
  rw [slice_cells Try.underlying47 hv] at hf
  rcases open_slice_pairs Try.underlying47 Try.underlying44 Try.cells_frame rfl rfl (by kernel_rfl) (by kernel_rfl) hf with ⟨h1, h2⟩ | ⟨a, len, cap, m, k, V0, V1, D0, D1, P0, P1, hc, hb, hlc, hm, hmm, hx, hall⟩
  · exact ⟨⟨none, 0, []⟩, by simpa using h1, by simp, by simp, by simp, fun j f hj => by simp at hj⟩
  · have hlm : len ≤ m := by rw [hmm]; split <;> omega
    have hch : ∀ i, i < len → ∃ f : FrameP.Fr, V0 i = .int .i64 f.1 ∧ V1 i = .string ⟨f.2.toArray⟩ ∧ I64 f.1 ∧ f.2.length ≤ maxLen := fun i hi => by
      obtain ⟨_, _, t0, t1⟩ := hall i (by omega)
      obtain ⟨z, e0, w0⟩ := cell_int Try.underlying3 t0
      obtain ⟨s, e1, w1⟩ := cell_string Try.underlying9 t1
      exact ⟨(z, s.data.toList), e0, e1, I64_of_wf w0, w1⟩
    obtain ⟨q, hq⟩ := choose_lt hch
    refine ⟨⟨some a, cap, (List.range len).map q⟩, by simpa using hc, by simp; omega, by simpa using hlc, fun f hf => ?_, fun j f hj => ?_⟩
    · obtain ⟨i, hi, rfl⟩ := List.mem_map.1 hf
      have := hq i (List.mem_range.1 hi)
      exact ⟨this.2.2.1, this.2.2.2⟩
    · obtain ⟨i, hi, rfl⟩ : ∃ i, (List.range len)[j]? = some i ∧ q i = f := by rw [List.getElem?_map] at hj; exact Option.map_eq_some_iff.1 hj
      obtain ⟨hj1, hj2⟩ := List.getElem?_eq_some_iff.1 hi
      rw [List.length_range] at hj1
      obtain rfl : j = i := by simpa using hj2
      obtain ⟨e0, e1, _⟩ := hq j hj1
      obtain ⟨c0, c1, _⟩ := hall j (by omega)
      have hadd : a.add (j * 2 + 1) = ⟨(a.add (j * 2)).block, (a.add (j * 2)).off + 1, none⟩ := by rw [Addr.add_succ', addr_add_block, add_off, Nat.add_assoc]
      refine ⟨a, rfl, row_block (n := m * 2) (by omega) (fun x hx' => hl x ?_), by rw [← e0]; exact c0, by rw [← e1, ← hadd]; exact c1⟩
      rw [(Prod.mk.inj hx).2]
      exact List.mem_append_left _ hx'

theorem ftake_snoc {α : Type} (l : List α) (k : Nat) (f : α) (h : l[k]? = some f) : l.take (k + 1) = l.take k ++ [f] := by
  obtain ⟨h1, rfl⟩ := List.getElem?_eq_some_iff.1 h
  exact List.take_succ_eq_append_getElem h1
/-- few frames of few bytes -/
def few (l : List FrameP.Fr) : Prop := l.length ≤ 20 ∧ ∀ f ∈ l, f.2.length ≤ 200
set_option maxRecDepth 100000 in
theorem ref_Few_yes (A : Option Addr) (c : Nat) (l : List FrameP.Fr) (hf : few l) (w : World) (hr : RdF w w.heap.size A l) :
    Calls Try.prog 40 #[.slice A l.length c] w fun e w' => e = .returned (.bool true) ∧ Below w.heap.size w w' := by
  have HR := Lib.hid hr
  have HF := Lib.hid hf
  have h20 := hf.1
  clear hr hf
  go_enter Try.func40, Try.ntmps40
  go_wp2_with fail
  go_loopw [3] (fun i wr => ∃ k : Nat, k ≤ l.length ∧ i = .int .i64 k ∧ Below w.heap.size w wr) (fun i _ => l.length - (intOf i).toNat)
  case atStart => exact ⟨0, by omega, rfl, Below.refl _ _⟩
  case round =>
    obtain ⟨k, hk, rfl, hb⟩ := hrel
    by_cases hlt : k < l.length
    · obtain ⟨f, hk'⟩ : ∃ f, l[k]? = some f := ⟨l[k], List.getElem?_eq_getElem hlt⟩
      obtain ⟨ad, rfl, hadl, h0, h1⟩ := HR.out.below hb k f hk'
      have hle : f.2.length ≤ 200 := HF.out.2 f (List.mem_of_getElem? hk')
      have hsz : (⟨f.2.toArray⟩ : ByteArray).size = f.2.length := by show f.2.toArray.size = _; simp
      generalize (⟨f.2.toArray⟩ : ByteArray) = S at h1 hsz
      have hi1 : (k : Int) < (l.length : Int) := by omega
      have hi2 : (k : Int) < 20 := by omega
      clear hk'
      go_wp2_with fail
      exact ⟨⟨k + 1, by omega, by go_num, hb⟩, by simp [intOf]; omega⟩
    · have hd : decide ((l.length : Int) ≤ 20) = true := by rw [decide_eq_true_eq]; omega
      go_wp2_with fail
      go_ret
      exact ⟨rfl, hb⟩
set_option maxRecDepth 100000 in
theorem ref_Few_no (A : Option Addr) (c : Nat) (l : List FrameP.Fr) (hm : l.length ≤ maxLen) (hf : ¬ few l) (w : World) (hr : RdF w w.heap.size A l) :
    Calls Try.prog 40 #[.slice A l.length c] w fun e w' => e = .returned (.bool false) ∧ Below w.heap.size w w' := by
  have HR := Lib.hid hr
  have HF := Lib.hid hf
  unfold maxLen at hm
  clear hr hf
  go_enter Try.func40, Try.ntmps40
  go_wp2_with fail
  go_loopw [3] (fun i wr => ∃ k : Nat, k ≤ l.length ∧ k ≤ 20 ∧ i = .int .i64 k ∧ Below w.heap.size w wr ∧ ∀ f ∈ l.take k, f.2.length ≤ 200) (fun i _ => l.length - (intOf i).toNat)
  case atStart => exact ⟨0, by omega, by omega, rfl, Below.refl _ _, by simp⟩
  case round =>
    obtain ⟨k, hk, hk20, rfl, hb, hpre⟩ := hrel
    have HPRE := Lib.hid hpre
    clear hpre
    by_cases hlt : k < l.length
    · by_cases hlt2 : k < 20
      · obtain ⟨f, hk'⟩ : ∃ f, l[k]? = some f := ⟨l[k], List.getElem?_eq_getElem hlt⟩
        obtain ⟨ad, rfl, hadl, h0, h1⟩ := HR.out.below hb k f hk'
        have HS := Lib.hid (ftake_snoc l k f hk')
        have hsz : (⟨f.2.toArray⟩ : ByteArray).size = f.2.length := by show f.2.toArray.size = _; simp
        generalize (⟨f.2.toArray⟩ : ByteArray) = S at h1 hsz
        have hi1 : (k : Int) < (l.length : Int) := by omega
        have hi2 : (k : Int) < 20 := by omega
        clear hk'
        by_cases hle : f.2.length ≤ 200
        · go_wp2_with fail
          refine ⟨⟨k + 1, by omega, by omega, by go_num, hb, ?_⟩, by simp [intOf]; omega⟩
          rw [HS.out]
          intro x hx
          rcases List.mem_append.1 hx with hx | hx
          · exact HPRE.out x hx
          · obtain rfl : x = f := by simpa using hx
            exact hle
        · go_wp2_with fail
          go_ret
          exact ⟨rfl, hb⟩
      · have hd : decide ((l.length : Int) ≤ 20) = false := by rw [decide_eq_false_iff_not]; omega
        go_wp2_with fail
        go_ret
        exact ⟨rfl, hb⟩
    · have hgt : ¬ l.length ≤ 20 := fun h => HF.out ⟨h, fun f hf => HPRE.out f (by rwa [List.take_of_length_le (by omega)])⟩
      have hd : decide ((l.length : Int) ≤ 20) = false := by rw [decide_eq_false_iff_not]; omega
      go_wp2_with fail
      go_ret
      exact ⟨rfl, hb⟩
end Go.Proofs.Ytaocmepffhochaa
