/- Walks of layer 7 (disk): where a file is. -/
import Derived.Test.YtmkaijjakcjflaaDisk
import Derived.Lib.Bytealg
namespace Go.Proofs.Ytmkaijjakcjflaa
open Go.ChangeShapes Go.WideShapes Go.ChangeAt Go.RowKit Go.Deep DiskP

set_option maxRecDepth 100000 in
theorem dk_CompareString (a b : ByteArray) (w : World) :
    Calls Try.prog 60 #[.string a, .string b] w fun e w' => e = .returned (.int .i64 (cmpN a b)) ∧ w = w' := by
  unfold cmpN
  go_enter Try.func60, Try.ntmps60
  go_wp2
  rw [run_callFunc_extern Try.func62 (by kernel_rfl) (by kernel_rfl) (by kernel_rfl) (e := Extern.BytealgCompare.compare) (by kernel_rfl), Lib.run_compareString]
  simp only [Result.andThen]
  rw [Oper.upon_value]
  go_wp2
  go_ret
  exact ⟨rfl, rfl⟩
theorem dk_Compare (a b : ByteArray) (w : World) :
    Calls Try.prog 51 #[.string a, .string b] w fun e w' => e = .returned (.int .i64 (cmpN a b)) ∧ w = w' := by
  go_enter Try.func51, Try.ntmps51
  go_wp2_with (go_at_call 60; refine (dk_CompareString _ _ _).mono ?_; rintro e w' ⟨rfl, rfl⟩)
  go_ret
  exact ⟨rfl, rfl⟩
theorem disk_find1 (f : Fl) (nm : ByteArray) (w : World) :
    Calls Try.prog 50 #[.agg #[.string f.nm, .string f.all, .int .i64 (f.su : Int)], .string nm] w fun e w' => e = .returned (.int .i64 (cmpN f.nm nm)) ∧ Below w.heap.size w w' := by
  go_enter Try.func50, Try.ntmps50
  go_wp2_with (go_at_call 51; refine (dk_Compare _ _ _).mono ?_; rintro e w' ⟨rfl, rfl⟩)
  go_ret
  exact ⟨rfl, by (repeat (first | assumption | exact Below.refl _ _ | refine below_step (by assumption) ?_ | refine below_alloc' _ ?_ | refine below_drewN ?_ _ | refine Below.drew ?_))⟩

theorem fl_add_block (a : Addr) (n : Nat) : (a.add n).block = a.block := by unfold Addr.add; split <;> rfl
/-- a slice at A reads as files, below block B -/
def RdFl (w : World) (B : Nat) (A : Option Addr) (l : List Fl) : Prop :=
  ∀ k x, l[k]? = some x → ∃ ad, A = some ad ∧ ad.block < B ∧ w.cell? (ad.add (k * 3)) = some (.string x.nm) ∧ w.cell? ⟨(ad.add (k * 3)).block, (ad.add (k * 3)).off + 1, none⟩ = some (.string x.all) ∧ w.cell? ⟨(ad.add (k * 3)).block, (ad.add (k * 3)).off + 2, none⟩ = some (.int .i64 (x.su : Int))
theorem RdFl.below {w w' : World} {B : Nat} {A : Option Addr} {l : List Fl} (h : RdFl w B A l) (hb : Below B w w') : RdFl w' B A l := fun k x hk => by
  obtain ⟨ad, e, hlt, h0, h1, h2⟩ := h k x hk
  have hb' : ∀ a : Addr, a.block = ad.block → w'.cell? a = w.cell? a := fun a ha => hb.cell (p := a) (by rw [ha]; exact hlt)
  have hj : ∀ j, w'.cell? ⟨(ad.add (k * 3)).block, (ad.add (k * 3)).off + j, none⟩ = w.cell? ⟨(ad.add (k * 3)).block, (ad.add (k * 3)).off + j, none⟩ := fun j => hb' _ (fl_add_block ad (k * 3))
  exact ⟨ad, e, hlt, (hb' _ (fl_add_block ad (k * 3))).trans h0, (hj 1).trans h1, (hj 2).trans h2⟩
theorem RdFl.more {w : World} {B B' : Nat} {A : Option Addr} {l : List Fl} (h : RdFl w B A l) (hB : B ≤ B') : RdFl w B' A l := fun k x hk => by
  obtain ⟨ad, e, hlt, h0⟩ := h k x hk
  exact ⟨ad, e, Nat.lt_of_lt_of_le hlt hB, h0⟩
theorem fl_add_0 (g j : Nat) : (⟨g, 0, none⟩ : Addr).add j = ⟨g, j, none⟩ := by unfold Addr.add; split <;> simp_all
theorem RdFl_own {w : World} {base n c : Nat} {e : TypeId} {A : Option Addr} {l : List Fl} (h : w.ownsRow base e 3 (.slice A n c) n (l.flatMap fC)) : RdFl w w.heap.size A l := fun k x hk => by
  have hl := (List.getElem?_eq_some_iff.1 hk).1
  have hn : l.length = n := by have := h.1; rw [fC_len] at this; omega
  obtain ⟨g, c', e1, _, hg⟩ : ∃ g c', A = some ⟨g, 0, none⟩ ∧ base ≤ g ∧ g < w.heap.size := by
    rcases h.2 with ⟨e1, e2⟩ | ⟨g, cap, cur, e1, hb, hg, _⟩
    · omega
    · have : A = some ⟨g, 0, none⟩ ∧ c = cap := by simpa using e1
      exact ⟨g, c, this.1, hb, bx_lt hg⟩
  subst e1
  have hc : ∀ r, r < 3 → ∀ u, (fC x)[r]? = some u → w.cell? ⟨g, k * 3 + r, none⟩ = some u := fun r hr u hu => by
    have := h.cells (g := g) rfl (k * 3 + r) u (by rw [fC_at l k x hk r hr]; exact hu)
    rwa [fl_add_0] at this
  refine ⟨_, rfl, hg, ?_, ?_, ?_⟩
  · rw [fl_add_0]; exact hc 0 (by omega) _ rfl
  · rw [fl_add_0]; exact hc 1 (by omega) _ rfl
  · rw [fl_add_0]; exact hc 2 (by omega) _ rfl
set_option maxRecDepth 100000 in
theorem disk_search (A : Option Addr) (c : Nat) (fs : List Fl) (nm : ByteArray) (hs : Sorted fs) (hl : fs.length ≤ 1000) (w : World) (hr : RdFl w w.heap.size A fs) :
    Calls Try.prog 49 #[.slice A fs.length c, .string nm, .func (.func 50) #[] #[]] w fun e w' => e = .returned (.tuple #[.int .i64 (pos fs nm : Nat), .bool (has fs nm)]) ∧ Below w.heap.size w w' := by
  have HR := Lib.hid hr
  have HS := Lib.hid hs
  clear hr hs
  go_enter Try.func49, Try.ntmps49
  go_wp2_with fail
  go_loopw [9, 10] (fun vi vj wr => ∃ i j : Nat, i ≤ j ∧ j ≤ fs.length ∧ vi = .int .i64 i ∧ vj = .int .i64 j ∧ (∀ k f, k < i → fs[k]? = some f → cmpN f.nm nm < 0) ∧ (∀ k f, j ≤ k → fs[k]? = some f → 0 ≤ cmpN f.nm nm) ∧ Below w.heap.size w wr) (fun vi vj _ => (intOf vj).toNat - (intOf vi).toNat)
  case atStart => exact ⟨0, fs.length, by omega, by omega, rfl, rfl, by intro k f hk; omega, by intro k f hk hf; have := (List.getElem?_eq_some_iff.1 hf).1; omega, Below.refl _ _⟩
  case round =>
    obtain ⟨i, j, hij, hj, rfl, rfl, h1, h2, hb⟩ := hrel
    have H1 := Lib.hid h1
    have H2 := Lib.hid h2
    clear h1 h2
    by_cases hlt : i < j
    · obtain ⟨m, hm⟩ : ∃ m, (i + j) / 2 = m := ⟨_, rfl⟩
      obtain ⟨f, hk'⟩ : ∃ f, fs[m]? = some f := ⟨fs[m], List.getElem?_eq_getElem (by omega)⟩
      obtain ⟨ad, rfl, hadl, c0, c1, c2⟩ := HR.out.below hb m f hk'
      have HF := Lib.hid (disk_find1 f nm)
      have HK := Lib.hid hk'
      have hi1 : (m : Int) < (fs.length : Int) := by omega
      have hi2 : (i : Int) < (j : Int) := by omega
      clear hk'
      go_wp2_with (go_at_call 50; (with_reducible refine (HF.out _).mono ?_); rintro e w1 ⟨rfl, b1⟩)
      · rename_i hc
        refine ⟨⟨m + 1, j, by omega, hj, congrArg (Value.int .i64) (by omega), rfl, search_lt HS.out HK.out hc, H2.out, hb.trans (b1.mono hb.size)⟩, ?_⟩
        rw [show ((i : Int) + (j : Int)) / 2 + 1 = ((m + 1 : Nat) : Int) by omega]
        simp [intOf]
        omega
      · rename_i hc
        refine ⟨⟨i, m, by omega, by omega, rfl, congrArg (Value.int .i64) (by omega), H1.out, search_ge HS.out HK.out (by omega), hb.trans (b1.mono hb.size)⟩, ?_⟩
        rw [show ((i : Int) + (j : Int)) / 2 = (m : Int) by omega]
        simp [intOf]
        omega
    · obtain rfl : i = j := by omega
      have hp := pos_uniq hj H1.out (fun f hf => H2.out i f (Nat.le_refl _) hf)
      have HP := Lib.hid hp
      by_cases hlt2 : i < fs.length
      · obtain ⟨f, hk'⟩ : ∃ f, fs[i]? = some f := ⟨fs[i], List.getElem?_eq_getElem hlt2⟩
        obtain ⟨ad, rfl, hadl, c0, c1, c2⟩ := HR.out.below hb i f hk'
        have HF := Lib.hid (disk_find1 f nm)
        have hh : has fs nm = (cmpN f.nm nm == 0) := by unfold has; rw [hp, hk']
        have hi1 : (i : Int) < (fs.length : Int) := by omega
        have HH := Lib.hid hh
        clear hk' hp hh
        go_wp2_with (go_at_call 50; (with_reducible refine (HF.out _).mono ?_); rintro e w1 ⟨rfl, b1⟩)
        go_ret2
        exact ⟨(by rw [HP.out, HH.out]; rfl), hb.trans (b1.mono hb.size)⟩
      · have hh : has fs nm = false := by unfold has; rw [hp, List.getElem?_eq_none (by omega)]
        have HH := Lib.hid hh
        clear hp hh
        go_wp2_with fail
        go_ret2
        exact ⟨(by rw [HP.out, HH.out]; rfl), hb⟩
theorem disk_find (d : Nat) (A : Option Addr) (c : Nat) (S : DS) (nm : ByteArray) (hs : Sorted S.fs) (hl : S.fs.length ≤ 1000) (w : World) (h : Dk d A c S w) :
    Calls Try.prog 34 #[.pointer (some ⟨d, 0, none⟩), .string nm] w fun e w' => e = .returned (.tuple #[.int .i64 (pos S.fs nm : Nat), .bool (has S.fs nm)]) ∧ Below w.heap.size w w' := by
  have x0 := bx_cells h.box 0
  have HB := Lib.hid (disk_search A c S.fs nm hs hl w (RdFl_own h.row))
  clear h
  go_enter Try.func34, Try.ntmps34
  go_wp2_with (go_at_call 49; (with_reducible refine (HB.out).mono ?_); rintro e w1 ⟨rfl, b1⟩)
  go_ret2
  exact ⟨rfl, b1⟩
end Go.Proofs.Ytmkaijjakcjflaa
