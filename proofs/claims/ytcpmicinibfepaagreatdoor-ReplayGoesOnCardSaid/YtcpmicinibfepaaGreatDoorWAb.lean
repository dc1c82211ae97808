/- Words that all proofs of this seat use: the step from a walk to a statement, arguments that are structs opened to their fields, small laws on worlds · Arguments opened: structs by value whose fields have one cell each, arrays of numbers. -/
import Derived.Test.YtcpmicinibfepaaGreatDoorRows
import Derived.WalkKit
import Derived.ProofKit
import Derived.OpenShut
import Derived.ShutString
import Derived.WalkLawsBesides
import Derived.WalkSpells
import Derived.Lib.Hide
import Derived.Deep.Slices
import Derived.Deep.Fields
import Derived.Deep.Draws
import Derived.Deep.QuietTactic
import Derived.BigQuiet
namespace Go.Proofs.YtcpmicinibfepaaGreatDoor
open Go.ChangeShapes Go.WideShapes Go.ChangeAt Go.RowKit Go.Deep

open Go.ChangeMaps (open_string shut_string)

theorem own : ownKnob Tryz.prog.godebug = none := by kernel_rfl
theorem laidOut : laidOutB Tryz.prog = true := by kernel_rfl

theorem ret_int {k : IntKind} {a b : Int} (h : a = b) : Ending.returned (.int k a) = .returned (.int k b) := by rw [h]
theorem ret_bool {a b : Bool} (h : a = b) : Ending.returned (.bool a) = .returned (.bool b) := by rw [h]
theorem ret_val {a b : Value} (h : a = b) : Ending.returned a = .returned b := by rw [h]

section
variable {H : Type} {enc : TypeId × Value → H} {P : Program}
theorem trodAll_stays (hl : laidOutB P = true) {W W' : World} {sp' : Nat → Bool} : ∀ {ts : List TypeId} {vs : List Value} {ds : List (DataW H)} {ps : List MemPlace}, (∀ t ∈ ts, P.readableRec t = true ∧ t < P.types.size) →
    DataW.TrodAll enc P W 0 (fun _ => true) true ts vs ds ps → (∀ p ∈ ps, W.sameAt W' p) → (∀ p ∈ ps, sp' p.block = true) → DataW.TrodAll enc P W' 0 sp' true ts vs ds ps
  | [], [], [], _, _, h, _, _ => h
  | t :: ts, v :: vs, d :: ds, ps, hr, h, hs, hp => by
    obtain ⟨p, q, h1, h2, rfl⟩ := h
    refine ⟨p, q, WideElems.Trod_stays hl (hr t (by simp)).1 (hr t (by simp)).2 h1 (fun x hx => hs x (by simp [hx])) (fun x hx => hp x (by simp [hx])), ?_, rfl⟩
    exact trodAll_stays hl (fun t ht => hr t (by simp [ht])) h2 (fun x hx => hs x (by simp [hx])) (fun x hx => hp x (by simp [hx]))

/-- FROM A WALK TO A LAW's POST: the law returned true, and below the heap's old size nothing has turned. -/
theorem post_true {f : Func} {s : ChangeSpec} {W W' : World} {args : Array Value} {ds gs : List (DataW H)} {before : List MemPlace} (hl : laidOutB P = true)
    (hv : s.vars = []) (hf : (s.fn H (ds ++ gs)).results = [.lit (.bool true)]) (ha : (s.fn H (ds ++ gs)).args = ds) (hvs : (s.fn H (ds ++ gs)).vars = [])
    (ht : ∀ t ∈ f.params.toList, P.readableRec t = true ∧ t < P.types.size) (tb : TypeId) (hrt : f.resultTypes = #[tb]) (hb : P.underlying tb = some .bool)
    (hW : DataW.Whole enc P f.params.toList s.vars false W args.toList ds gs before) (hB : Below W.heap.size W W') :
    s.post enc P f false true false false W args (.bool true) W' := by
  have hW' := hW
  obtain ⟨p, q, hA, hV, hpq, hz, hn⟩ := hW
  rw [hv] at hV
  have hq : q = [] ∧ gs = [] := by
    cases gs with
    | nil => exact ⟨hV, rfl⟩
    | cons _ _ => exact hV.elim
  obtain ⟨rfl, rfl⟩ := hq
  rw [List.append_nil] at hpq
  subst hpq
  have hlt : ∀ x ∈ before, x.block < W.heap.size := fun x hx => hW'.lt x hx
  refine ⟨ds, [], before, [], before, [], hW', ?_, ?_, ?_, ?_, fun h => by cases h⟩
  · rw [hf, hrt]
    exact trodAll_mk1 (shut_bool hb true)
  · rw [ha]
    exact trodAll_stays hl ht hA (fun x hx => hB.same (hlt x hx)) (fun x hx => by simpa using hlt x hx)
  · rw [hv, hvs]
    exact rfl
  · exact hB.frame _
end
end Go.Proofs.YtcpmicinibfepaaGreatDoor

namespace Go.Proofs.YtcpmicinibfepaaGreatDoor
open Go.ChangeShapes Go.WideShapes Go.ChangeAt Go.RowKit Go.Deep


def I64 (n : Int) : Prop := -9223372036854775808 ≤ n ∧ n ≤ 9223372036854775807
theorem I64_of_wf {n : Int} (h : (Lit.int .i64 n).wf = true) : I64 n := by
  simpa [I64, Lit.wf, IntKind.min, IntKind.max, IntKind.signed, IntKind.bits] using h

section
variable {H : Type} {enc : TypeId × Value → H} {P : Program} {w : World} {base : Nat} {spare : Nat → Bool} {held : Bool}
theorem open_struct {r : Reach} {b0 : Nat} {t : TypeId} {fs : Array Field} {v : Value} {d : DataW H} {p : List MemPlace} (hs : P.underlying t = some (.struct fs)) (hone : oneCellFields P fs = true) (hC : P.cellsOf t = fs.size)
    (hv : Value.okWide P w r b0 t v) (h : DataW.Trod enc P w base spare held t v d p) :
    ∃ cs : Array Value, v = .agg cs ∧ cs.size = fs.size ∧ ∀ (i : Nat) (f : Field), fs[i]? = some f → ∃ (c : Value) (y : DataW H × List MemPlace) (n : Nat), cs[i]? = some c ∧ DataW.trod enc P w base spare held n f.type [c] = some y := by
  obtain ⟨cs, rfl, hsz⟩ := okWide_struct hs hv
  refine ⟨cs, rfl, hsz.trans hC, fun i f hf => ?_⟩
  obtain ⟨fuel, hf'⟩ := h
  obtain ⟨xs, n, _, hx, hcl, hlen, hg⟩ := DataW.trod_struct hs hf'
  obtain ⟨o, k⟩ := hone_of hone i f hf
  have hi : i < fs.size := (Array.getElem?_eq_some_iff.1 hf).1
  have hic : i < cs.size := by omega
  have h1 := hg i f hf
  rw [o, k] at h1
  have e : ((Value.agg cs).cells.toList.drop i).take 1 = [cs[i]] := by
    show (cs.toList.drop i).take 1 = [cs[i]]
    rw [List.drop_eq_getElem_cons (by simpa using hic)]
    simp
  rw [e, List.getElem?_eq_getElem (by omega)] at h1
  exact ⟨cs[i], _, n, Array.getElem?_eq_getElem hic, h1⟩
theorem open_array {r : Reach} {b0 : Nat} {t e : TypeId} {m : Nat} {v : Value} {d : DataW H} {p : List MemPlace} (hs : P.underlying t = some (.array m e)) (hC : P.cellsOf t = m) (hCe : P.cellsOf e = 1)
    (hv : Value.okWide P w r b0 t v) (h : DataW.Trod enc P w base spare held t v d p) :
    ∃ cs : Array Value, v = .agg cs ∧ cs.size = m ∧ ∀ (i : Nat), i < m → ∃ (c : Value) (y : DataW H × List MemPlace) (n : Nat), cs[i]? = some c ∧ DataW.trod enc P w base spare held n e [c] = some y := by
  have hv' : ∃ cs : Array Value, v = .agg cs ∧ cs.size = P.cellsOf t := by
    simp only [Value.okWide, hs] at hv
    obtain ⟨cs, h1, h2, _⟩ := hv
    exact ⟨cs, h1, h2⟩
  obtain ⟨cs, rfl, hsz⟩ := hv'
  refine ⟨cs, rfl, hsz.trans hC, fun i hi => ?_⟩
  obtain ⟨fuel, hf'⟩ := h
  obtain ⟨xs, n, _, hx, hcl, hlen, hg⟩ := DataW.trod_array hs hf'
  have hic : i < cs.size := by omega
  have h1 := hg i hi
  rw [hCe, Nat.mul_one] at h1
  have e1 : ((Value.agg cs).cells.toList.drop i).take 1 = [cs[i]] := by
    show (cs.toList.drop i).take 1 = [cs[i]]
    rw [List.drop_eq_getElem_cons (by simpa using hic)]
    simp
  rw [e1, List.getElem?_eq_getElem (by omega)] at h1
  exact ⟨cs[i], _, n, Array.getElem?_eq_getElem hic, h1⟩
theorem cell_int {n : Nat} {t : TypeId} {c : Value} {y : DataW H × List MemPlace} {k : IntKind} (ht : P.underlying t = some (.int k)) (h : DataW.trod enc P w base spare held n t [c] = some y) : ∃ a, c = .int k a ∧ (Lit.int k a).wf = true := by
  obtain ⟨a, h1, _, h2⟩ := DataW.trod_int ht h
  exact ⟨a, by simpa using h1, h2⟩
theorem cell_string {n : Nat} {t : TypeId} {c : Value} {y : DataW H × List MemPlace} (ht : P.underlying t = some .string) (h : DataW.trod enc P w base spare held n t [c] = some y) : ∃ s, c = .string s ∧ s.size ≤ maxLen := by
  obtain ⟨a, h1, _, h2⟩ := DataW.trod_string ht h
  exact ⟨a, by simpa using h1, h2⟩
theorem cell_bool {n : Nat} {t : TypeId} {c : Value} {y : DataW H × List MemPlace} (ht : P.underlying t = some .bool) (h : DataW.trod enc P w base spare held n t [c] = some y) : ∃ b, c = .bool b := by
  obtain ⟨a, h1, _⟩ := DataW.trod_bool ht h
  exact ⟨a, by simpa using h1⟩
end

theorem Tryz.cells_arr2 : Tryz.prog.cellsOf 48 = 2 := by kernel_rfl
theorem Tryz.cells_int : Tryz.prog.cellsOf 3 = 1 := by kernel_rfl
set_option maxRecDepth 100000 in
theorem open_arr2 {H : Type} {enc : TypeId × Value → H} {w : World} {base : Nat} {spare : Nat → Bool} {held : Bool} {r : Reach} {b0 : Nat} {v : Value} {d : DataW H} {p : List MemPlace}
    (hv : Value.okWide Tryz.prog w r b0 48 v) (h : DataW.Trod enc Tryz.prog w base spare held 48 v d p) : ∃ a : Int × Int, v = .agg #[.int .i64 a.1, .int .i64 a.2] ∧ I64 a.1 ∧ I64 a.2 := by
  obtain ⟨⟨l⟩, rfl, hsz, hg⟩ := open_array Tryz.underlying48 Tryz.cells_arr2 Tryz.cells_int hv h
  match l, hsz with
  | [c0, c1], _ =>
    obtain ⟨c, y, n, hc, h0⟩ := hg 0 (by omega)
    obtain rfl : c0 = c := by simpa using hc
    obtain ⟨a0, rfl, w0⟩ := cell_int Tryz.underlying3 h0
    obtain ⟨c, y, n, hc, h1⟩ := hg 1 (by omega)
    obtain rfl : c1 = c := by simpa using hc
    obtain ⟨a1, rfl, w1⟩ := cell_int Tryz.underlying3 h1
    exact ⟨(a0, a1), rfl, I64_of_wf w0, I64_of_wf w1⟩

theorem Tryz.cells_int' : Tryz.prog.cellsOf 3 = 1 := by kernel_rfl
/-- a record -/
structure Sp where
  tr : Int
  id : Int
  pa : Int
  rv : Int
  sv : ByteArray
  op : ByteArray
  st : Int
  du : Int
  gn : Bool
def Sp.cells (x : Sp) : Array Value := #[.int .i64 x.tr, .int .i64 x.id, .int .i64 x.pa, .int .i64 x.rv, .string x.sv, .string x.op, .int .i64 x.st, .int .i64 x.du, .bool x.gn]
def Sp.Ok (x : Sp) : Prop := I64 x.tr ∧ I64 x.id ∧ I64 x.pa ∧ I64 x.rv ∧ I64 x.st ∧ I64 x.du ∧ x.sv.size ≤ maxLen ∧ x.op.size ≤ maxLen

end Go.Proofs.YtcpmicinibfepaaGreatDoor
