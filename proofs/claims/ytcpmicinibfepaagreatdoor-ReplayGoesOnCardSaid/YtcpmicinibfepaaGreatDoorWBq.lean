/- Layer 33: files that come in as a slice; are they few? A disk that has them. -/
import Derived.Test.YtcpmicinibfepaaGreatDoorWAj
import Derived.Test.YtcpmicinibfepaaGreatDoorWAt
import Derived.Test.YtcpmicinibfepaaGreatDoorWAs
import Derived.StillTailTactics
namespace Go.Proofs.YtcpmicinibfepaaGreatDoor
open Go.ChangeShapes Go.WideShapes Go.ChangeAt Go.RowKit Go.Deep DiskP


/-- a file: its name, its bytes -/
structure Rf where
  nm : ByteArray
  s : ByteArray
def RdRf (w : World) (B : Nat) (A : Option Addr) (l : List Rf) : Prop :=
  ∀ k p, l[k]? = some p → ∃ ad, A = some ad ∧ ad.block < B ∧ w.cell? (ad.add (k * 2)) = some (.string p.nm) ∧ w.cell? ⟨(ad.add (k * 2)).block, (ad.add (k * 2)).off + 1, none⟩ = some (.string p.s)
theorem RdRf.below {w w' : World} {B : Nat} {A : Option Addr} {l : List Rf} (h : RdRf w B A l) (hb : Below B w w') : RdRf w' B A l := fun k p hk => by
  obtain ⟨ad, e, hlt, h0, h1⟩ := h k p hk
  refine ⟨ad, e, hlt, (hb.cell (p := ad.add (k * 2)) (by rw [addr_add_block]; exact hlt)).trans h0, (hb.cell (p := ⟨(ad.add (k * 2)).block, _, none⟩) ?_).trans h1⟩
  show (ad.add (k * 2)).block < B; rw [addr_add_block]; exact hlt
/-- a slice of files, opened -/
structure SlRf where
  A : Option Addr
  c : Nat
  l : List Rf
def SlRf.Ok (a : SlRf) (w : World) : Prop := a.l.length ≤ maxLen ∧ a.l.length ≤ a.c ∧ a.c ≤ maxLen ∧ (∀ p ∈ a.l, p.nm.size ≤ maxLen ∧ p.s.size ≤ maxLen) ∧ RdRf w w.heap.size a.A a.l
/-- few files of few bytes -/
def fewR (l : List Rf) : Prop := l.length ≤ 12 ∧ ∀ p ∈ l, p.nm.size ≤ 100 ∧ p.s.size ≤ 400

theorem Tryz.cells_rfile : Tryz.prog.cellsOf 91 = 2 := by kernel_rfl
instance : Inhabited Rf := ⟨⟨⟨#[]⟩, ⟨#[]⟩⟩⟩
set_option maxRecDepth 100000 in
theorem open_rfilel {H : Type} {enc : TypeId × Value → H} {w : World} {base : Nat} {spare : Nat → Bool} {held : Bool} {r : Reach} {b0 : Nat} {v : Value} {d : DataW H} {p : List MemPlace}
    (hv : Value.okWide Tryz.prog w r b0 54 v) (h : DataW.Trod enc Tryz.prog w base spare held 54 v d p) (hl : ∀ x ∈ p, x.block < w.heap.size) :
    ∃ a : SlRf, v = .slice a.A a.l.length a.c ∧ a.Ok w := by
  rcases open_structs Tryz.underlying54 Tryz.underlying91 (by kernel_rfl) Tryz.cells_rfile (by simp) (slice_cells Tryz.underlying54 hv) h hl with h1 | ⟨a, len, cap, hc, hlc, hm, hall⟩
  · exact ⟨⟨none, 0, []⟩, by simpa using h1, by simp, by simp, by simp, by simp, fun j f hj => by simp at hj⟩
  · have hch : ∀ i, i < len → ∃ q : Rf, w.cell? (a.add (i * 2)) = some (.string q.nm) ∧ w.cell? (a.add (i * 2 + 1)) = some (.string q.s) ∧ q.nm.size ≤ maxLen ∧ q.s.size ≤ maxLen := fun i hi => by
      obtain ⟨_, cs, hlen, hcell, hg⟩ := hall i hi
      obtain ⟨c0, y0, n0, e0, t0⟩ := hg 0 _ rfl
      obtain ⟨c1, y1, n1, e1, t1⟩ := hg 1 _ rfl
      obtain ⟨s0, rfl, w0⟩ := cell_string Tryz.underlying9 t0
      obtain ⟨s1, rfl, w1⟩ := cell_string Tryz.underlying9 t1
      exact ⟨⟨s0, s1⟩, (hcell 0 (by simp)).trans e0, (hcell 1 (by simp)).trans e1, w0, w1⟩
    obtain ⟨q, hq⟩ := choose_lt3 hch
    refine ⟨⟨some a, cap, (List.range len).map q⟩, by simpa using hc, by simp; omega, by simpa using hlc, hm, fun f hf => ?_, fun j f hj => ?_⟩
    · obtain ⟨i, hi, rfl⟩ := List.mem_map.1 hf
      have := hq i (List.mem_range.1 hi)
      exact ⟨this.2.2.1, this.2.2.2⟩
    · obtain ⟨i, hi, rfl⟩ : ∃ i, (List.range len)[j]? = some i ∧ q i = f := by rw [List.getElem?_map] at hj; exact Option.map_eq_some_iff.1 hj
      obtain ⟨hj1, hj2⟩ := List.getElem?_eq_some_iff.1 hi
      rw [List.length_range] at hj1
      obtain rfl : j = i := by simpa using hj2
      obtain ⟨c0, c1, _⟩ := hq j hj1
      exact ⟨a, rfl, (hall j hj1).1, c0, by rw [← c1, show (1 : Nat) = 0 + 1 from rfl, at_next]⟩

set_option maxRecDepth 100000 in
theorem ref33_Few_yes (A : Option Addr) (c : Nat) (l : List Rf) (hf : fewR l) (w : World) (hr : RdRf w w.heap.size A l) :
    Calls Tryz.prog 24 #[.slice A l.length c] w fun e w' => e = .returned (.bool true) ∧ w = w' := by
  have HR := Lib.hid hr
  have HF := Lib.hid hf
  have h20 := hf.1
  clear hr hf
  go_enter Tryz.func24, Tryz.ntmps24
  go_wp2_with fail
  go_loopw [3] (fun i wr => ∃ k : Nat, k ≤ l.length ∧ i = .int .i64 k ∧ w = wr) (fun i _ => l.length - (intOf i).toNat)
  case atStart => exact ⟨0, by omega, rfl, rfl⟩
  case round =>
    obtain ⟨k, hk, rfl, rfl⟩ := hrel
    by_cases hlt : k < l.length
    · obtain ⟨f, hk'⟩ : ∃ f, l[k]? = some f := ⟨l[k], List.getElem?_eq_getElem hlt⟩
      obtain ⟨ad, rfl, hadl, h0, h1⟩ := HR.out k f hk'
      obtain ⟨hle, hle2⟩ := HF.out.2 f (List.mem_of_getElem? hk')
      have hi1 : (k : Int) < (l.length : Int) := by omega
      have hi2 : (k : Int) < 12 := by omega
      clear hk'
      go_wp2_with fail
      exact ⟨⟨k + 1, by omega, by go_num, trivial⟩, by simp [intOf]; omega⟩
    · have hd : decide ((l.length : Int) ≤ 12) = true := by rw [decide_eq_true_eq]; omega
      go_wp2_with fail
      go_ret
      exact ⟨rfl, rfl⟩
set_option maxRecDepth 100000 in
theorem ref33_Few_no (A : Option Addr) (c : Nat) (l : List Rf) (hm : l.length ≤ maxLen) (hz : ∀ p ∈ l, p.nm.size ≤ maxLen ∧ p.s.size ≤ maxLen) (hf : ¬ fewR l) (w : World) (hr : RdRf w w.heap.size A l) :
    Calls Tryz.prog 24 #[.slice A l.length c] w fun e w' => e = .returned (.bool false) ∧ w = w' := by
  have HR := Lib.hid hr
  have HF := Lib.hid hf
  have HZ := Lib.hid hz
  unfold maxLen at hm
  clear hr hf hz
  go_enter Tryz.func24, Tryz.ntmps24
  go_wp2_with fail
  go_loopw [3] (fun i wr => ∃ k : Nat, k ≤ l.length ∧ k ≤ 12 ∧ i = .int .i64 k ∧ w = wr ∧ Hid (∀ f ∈ l.take k, f.nm.size ≤ 100 ∧ f.s.size ≤ 400)) (fun i _ => l.length - (intOf i).toNat)
  case atStart => exact ⟨0, by omega, by omega, rfl, rfl, Lib.hid (by simp)⟩
  case round =>
    obtain ⟨k, hk, hk20, rfl, rfl, HPRE⟩ := hrel
    by_cases hlt : k < l.length
    · by_cases hlt2 : k < 12
      · obtain ⟨f, hk'⟩ : ∃ f, l[k]? = some f := ⟨l[k], List.getElem?_eq_getElem hlt⟩
        obtain ⟨ad, rfl, hadl, h0, h1⟩ := HR.out k f hk'
        have HS := Lib.hid (wtake_snoc l k f hk')
        obtain ⟨hsz, hsz2⟩ := HZ.out f (List.mem_of_getElem? hk')
        unfold maxLen at hsz hsz2
        have hi1 : (k : Int) < (l.length : Int) := by omega
        have hi2 : (k : Int) < 12 := by omega
        clear hk'
        by_cases hle : f.nm.size ≤ 100
        · by_cases hle2 : f.s.size ≤ 400
          · go_wp2_with fail
            refine ⟨⟨k + 1, by omega, by omega, by go_num, trivial, Lib.hid ?_⟩, by simp [intOf]; omega⟩
            rw [HS.out]
            intro x hx
            rcases List.mem_append.1 hx with hx | hx
            · exact HPRE.out x hx
            · rw [List.mem_singleton.1 hx]; exact ⟨hle, hle2⟩
          · have hgt : 400 < f.s.size := by omega
            go_wp2_with fail
            go_ret
            exact ⟨rfl, rfl⟩
        · have hgt : 100 < f.nm.size := by omega
          go_wp2_with fail
          go_ret
          exact ⟨rfl, rfl⟩
      · have hi2 : ¬ (k : Int) < 12 := by omega
        have hi1 : (k : Int) < (l.length : Int) := by omega
        have hd : decide ((l.length : Int) ≤ 12) = false := by rw [decide_eq_false_iff_not]; omega
        go_wp2_with fail
        go_ret
        exact ⟨rfl, rfl⟩
    · have hd : decide ((l.length : Int) ≤ 12) = false := by
        rw [decide_eq_false_iff_not]
        exact fun h => HF.out ⟨by omega, fun p hp => HPRE.out p (by rwa [List.take_of_length_le (by omega)])⟩
      go_wp2_with fail
      go_ret
      exact ⟨rfl, rfl⟩
end Go.Proofs.YtcpmicinibfepaaGreatDoor
