/- Walks of layer 7 (disk): Used, Names, Read, Sure. -/
import Derived.Test.YtmkaijjakcjflaaDiskB
namespace Go.Proofs.Ytmkaijjakcjflaa
open Go.ChangeShapes Go.WideShapes Go.ChangeAt Go.RowKit Go.Deep DiskP

theorem bx_shape {w : World} {base n sz : Nat} {e : TypeId} {v : Value} {xs : List Value} (h : w.ownsRow base e sz v n xs) : ∃ a c, v = .slice a n c := by
  rcases h.2 with ⟨e1, rfl⟩ | ⟨g, cap, cur, e1, _⟩
  · exact ⟨_, _, e1⟩
  · exact ⟨_, _, e1⟩
theorem fl_take {fs : List Fl} {k : Nat} {f : Fl} (hk : fs[k]? = some f) : fs.take (k + 1) = fs.take k ++ [f] := by rw [List.take_add_one, hk]; rfl
theorem used_take {fs : List Fl} {k : Nat} {f : Fl} (hk : fs[k]? = some f) : used (fs.take (k + 1)) = used (fs.take k) + f.all.size := by
  rw [fl_take hk]; unfold used; simp
theorem used_le (fs : List Fl) (k : Nat) : used (fs.take k) ≤ used fs := by
  have : used fs = used (fs.take k) + used (fs.drop k) := by
    unfold used
    rw [← List.sum_append, ← List.map_append, List.take_append_drop]
  omega
set_option maxRecDepth 100000 in
theorem disk_Used (d : Nat) (A : Option Addr) (c : Nat) (S : DS) (hl : S.fs.length ≤ 1000) (hu : used S.fs ≤ 1000000000) (w : World) (h : Dk d A c S w) :
    Calls Try.prog 16 #[.pointer (some ⟨d, 0, none⟩)] w fun e w' => e = .returned (.int .i64 (used S.fs : Nat)) ∧ Below w.heap.size w w' := by
  have x0 := bx_cells h.box 0
  have HR := Lib.hid (RdFl_own h.row)
  clear h
  go_enter Try.func16, Try.ntmps16
  go_wp2_with fail
  go_loopw [3, 13] (fun vs vi wr => ∃ k : Nat, k ≤ S.fs.length ∧ vi = .int .i64 k ∧ vs = .int .i64 (used (S.fs.take k) : Nat) ∧ Below w.heap.size w wr) (fun _ vi _ => S.fs.length - (intOf vi).toNat)
  case atStart => exact ⟨0, by omega, rfl, rfl, Below.refl _ _⟩
  case round =>
    obtain ⟨k, hk, rfl, rfl, hb⟩ := hrel
    by_cases hlt : k < S.fs.length
    · obtain ⟨f, hk'⟩ : ∃ f, S.fs[k]? = some f := ⟨S.fs[k], List.getElem?_eq_getElem hlt⟩
      obtain ⟨ad, rfl, hadl, c0, c1, c2⟩ := HR.out.below hb k f hk'
      have hut := used_take hk'
      have hul := used_le S.fs (k + 1)
      have hi1 : (k : Int) < (S.fs.length : Int) := by omega
      have HU := Lib.hid hut
      have hsum : used (S.fs.take k) + f.all.size ≤ 1000000000 := by omega
      clear hk' hut hul
      generalize hq : used (S.fs.take k) = q at *
      go_wp2_with fail
      refine ⟨⟨k + 1, by omega, by go_num, by rw [HU.out]; go_num, by (repeat (first | assumption | exact Below.refl _ _ | refine below_step (by assumption) ?_ | refine below_alloc' _ ?_ | refine below_drewN ?_ _ | refine Below.drew ?_))⟩, by simp [intOf]; omega⟩
    · obtain rfl : k = S.fs.length := by omega
      go_wp2_with fail
      go_ret
      exact ⟨by rw [List.take_length]; rfl, hb⟩
theorem info_str : (Try.prog.info? 9).map (fun i => (i.zero, i.size, i.bytes)) = some (some (.string ⟨#[]⟩), 1, 16) := by kernel_rfl
set_option maxRecDepth 100000 in
theorem disk_Names (d : Nat) (A : Option Addr) (c : Nat) (S : DS) (hl : S.fs.length ≤ 1000) (w : World) (h : Dk d A c S w) :
    Calls Try.prog 19 #[.pointer (some ⟨d, 0, none⟩)] w fun e w' => ∃ A' c', e = .returned (.slice A' S.fs.length c') ∧ w'.ownsRow w.heap.size 9 1 (.slice A' S.fs.length c') S.fs.length (S.fs.map fun f => Value.string f.nm) ∧ Below w.heap.size w w' := by
  have x0 := bx_cells h.box 0
  have HR := Lib.hid (RdFl_own h.row)
  obtain ⟨i0, hi, hz0, hz1, hz2⟩ := info_parts' info_str
  have HI := Lib.hid (And.intro hi (And.intro hz0 (And.intro hz1 hz2)))
  clear h hi hz0 hz1 hz2
  go_enter Try.func19, Try.ntmps19
  go_wp2_with fail
  go_loopw [3, 13] (fun vs vi wr => ∃ k : Nat, k ≤ S.fs.length ∧ vi = .int .i64 k ∧ wr.ownsRow w.heap.size 9 1 vs k ((S.fs.take k).map fun f => Value.string f.nm) ∧ Below w.heap.size w wr) (fun _ vi _ => S.fs.length - (intOf vi).toNat)
  case atStart => exact ⟨0, by omega, rfl, World.ownsRow_nil _ _ _ _, Below.refl _ _⟩
  case round =>
    obtain ⟨k, hk, rfl, hown, hb⟩ := hrel
    have HO := Lib.hid hown
    clear hown
    by_cases hlt : k < S.fs.length
    · obtain ⟨f, hk'⟩ : ∃ f, S.fs[k]? = some f := ⟨S.fs[k], List.getElem?_eq_getElem hlt⟩
      obtain ⟨ad, rfl, hadl, c0, c1, c2⟩ := HR.out.below hb k f hk'
      have HT := Lib.hid (fl_take hk')
      have hi1 : (k : Int) < (S.fs.length : Int) := by omega
      clear hk'
      go_wp2_with (at_builtin; refine wpList_append_one rfl _ _ _ (by rfl) w.heap.size 9 i0 _ 1 16 Try.underlying28 HI.out.1 HI.out.2.1 HI.out.2.2.1 HI.out.2.2.2 rfl (by decide) (by decide) _ _ _ (by rfl) (wr.alloc (.cells #[.string f.nm, .string f.all, .int .i64 (f.su : Int)] 67)) (HO.out.alloc _) _ (wr.heap.size + 1) (by simp) (by rfl) (by rfl) (by simp [Value.oneCell']) (by omega) (by have := hb.size; simp; omega) ?_; intro g cap w4 hA; have B4 := hA.below _ (show Below w.heap.size w (wr.alloc (.cells #[.string f.nm, .string f.all, .int .i64 (f.su : Int)] 67)) by (repeat (first | assumption | exact Below.refl _ _ | refine below_step (by assumption) ?_ | refine below_alloc' _ ?_ | refine below_drewN ?_ _ | refine Below.drew ?_))))
      refine ⟨⟨k + 1, by omega, by go_num, ?_, B4⟩, by simp [intOf]; omega⟩
      have hh := hA.own
      rw [HT.out, List.map_append]
      simpa using hh
    · obtain rfl : k = S.fs.length := by omega
      have ho := HO.out
      rw [List.take_length] at ho
      obtain ⟨A', c', rfl⟩ := bx_shape ho
      go_wp2_with fail
      go_ret
      exact ⟨A', c', rfl, ho, hb⟩
def readD (S : DS) (nm : ByteArray) : ByteArray × Int :=
  if S.on = false then (⟨#[]⟩, 9) else match S.fs[pos S.fs nm]? with
    | some f => if has S.fs nm then (f.all, 0) else (⟨#[]⟩, 7)
    | none => (⟨#[]⟩, 7)
theorem disk_Read (d : Nat) (A : Option Addr) (c : Nat) (S : DS) (nm : ByteArray) (hs : Sorted S.fs) (hl : S.fs.length ≤ 1000) (w : World) (h : Dk d A c S w) :
    Calls Try.prog 12 #[.pointer (some ⟨d, 0, none⟩), .string nm] w fun e w' => e = .returned (.tuple #[.string (readD S nm).1, .int .i64 (readD S nm).2]) ∧ Below w.heap.size w w' := by
  have HF := Lib.hid (disk_find d A c S nm hs hl w h)
  have HD := Lib.hid h
  clear h
  rcases hon : S.on with _ | _
  · have hr : readD S nm = (⟨#[]⟩, 9) := by unfold readD; rw [if_pos hon]
    rw [hr]
    go_enter Try.func12, Try.ntmps12
    go_wp2_with (first
      | (go_at_call 34; (with_reducible refine (HF.out).mono ?_); rintro e w1 ⟨rfl, b1⟩; have hd1 := HD.out.kept b1)
      | (go_at_call 11; refine (disk_On d A c S _ hd1).mono ?_; rintro e w2 ⟨rfl, rfl⟩; rw [hon]))
    go_ret2
    exact ⟨rfl, b1⟩
  · rcases hh : has S.fs nm with _ | _
    · have hr : readD S nm = (⟨#[]⟩, 7) := by unfold readD; rw [if_neg (by simp [hon])]; split <;> simp [hh]
      rw [hr]
      rw [hh] at HF
      go_enter Try.func12, Try.ntmps12
      go_wp2_with (first
        | (go_at_call 34; (with_reducible refine (HF.out).mono ?_); rintro e w1 ⟨rfl, b1⟩; have hd1 := HD.out.kept b1)
        | (go_at_call 11; refine (disk_On d A c S _ hd1).mono ?_; rintro e w2 ⟨rfl, rfl⟩; rw [hon]))
      go_ret2
      exact ⟨rfl, b1⟩
    · obtain ⟨f, hf, _⟩ := has_some hh
      have hr : readD S nm = (f.all, 0) := by unfold readD; rw [if_neg (by simp [hon]), hf]; simp [hh]
      rw [hr]
      rw [hh] at HF
      have hp := (List.getElem?_eq_some_iff.1 hf).1
      obtain ⟨p, hpp⟩ : ∃ p, pos S.fs nm = p := ⟨_, rfl⟩
      rw [hpp] at HF hf hp
      have x0 := bx_cells HD.out.box 0
      obtain ⟨ad, rfl, hadl, c0, c1, c2⟩ := RdFl_own HD.out.row p f hf
      have HX := Lib.hid (fun (W : World) (b : Below w.heap.size w W) => (And.intro ((b.cell (p := ⟨d, 0, none⟩) (HD.out.lt)).trans x0) ((b.cell (p := ⟨(ad.add (p * 3)).block, (ad.add (p * 3)).off + 1, none⟩) (by rw [fl_add_block]; exact hadl)).trans c1)))
      have hi1 : (p : Int) < (S.fs.length : Int) := by omega
      clear hf c0 c1 c2 x0
      go_enter Try.func12, Try.ntmps12
      go_wp2_with (first
        | (go_at_call 34; (with_reducible refine (HF.out).mono ?_); rintro e w1 ⟨rfl, b1⟩; have hd1 := HD.out.kept b1; obtain ⟨y0, y1⟩ := HX.out _ b1)
        | (go_at_call 11; refine (disk_On d _ c S _ hd1).mono ?_; rintro e w2 ⟨rfl, rfl⟩; rw [hon]))
      go_ret2
      exact ⟨rfl, b1⟩
def sureD (S : DS) (nm : ByteArray) : Nat := match S.fs[pos S.fs nm]? with
  | some f => if has S.fs nm then f.su else 0
  | none => 0
theorem disk_Sure (d : Nat) (A : Option Addr) (c : Nat) (S : DS) (nm : ByteArray) (hs : Sorted S.fs) (hl : S.fs.length ≤ 1000) (w : World) (h : Dk d A c S w) :
    Calls Try.prog 22 #[.pointer (some ⟨d, 0, none⟩), .string nm] w fun e w' => e = .returned (.int .i64 (sureD S nm : Nat)) ∧ Below w.heap.size w w' := by
  have HF := Lib.hid (disk_find d A c S nm hs hl w h)
  have HD := Lib.hid h
  clear h
  rcases hh : has S.fs nm with _ | _
  · have hr : sureD S nm = 0 := by unfold sureD; split <;> simp [hh]
    rw [hr]
    rw [hh] at HF
    go_enter Try.func22, Try.ntmps22
    go_wp2_with (go_at_call 34; (with_reducible refine (HF.out).mono ?_); rintro e w1 ⟨rfl, b1⟩)
    go_ret
    exact ⟨rfl, b1⟩
  · obtain ⟨f, hf, _⟩ := has_some hh
    have hr : sureD S nm = f.su := by unfold sureD; rw [hf]; simp [hh]
    rw [hr]
    rw [hh] at HF
    have hp := (List.getElem?_eq_some_iff.1 hf).1
    obtain ⟨p, hpp⟩ : ∃ p, pos S.fs nm = p := ⟨_, rfl⟩
    rw [hpp] at HF hf hp
    have x0 := bx_cells HD.out.box 0
    obtain ⟨ad, rfl, hadl, c0, c1, c2⟩ := RdFl_own HD.out.row p f hf
    have HX := Lib.hid (fun (W : World) (b : Below w.heap.size w W) => (And.intro ((b.cell (p := ⟨d, 0, none⟩) (HD.out.lt)).trans x0) ((b.cell (p := ⟨(ad.add (p * 3)).block, (ad.add (p * 3)).off + 2, none⟩) (by rw [fl_add_block]; exact hadl)).trans c2)))
    have hi1 : (p : Int) < (S.fs.length : Int) := by omega
    clear hf c0 c1 c2 x0
    go_enter Try.func22, Try.ntmps22
    go_wp2_with (go_at_call 34; (with_reducible refine (HF.out).mono ?_); rintro e w1 ⟨rfl, b1⟩; obtain ⟨y0, y1⟩ := HX.out _ b1)
    go_ret
    exact ⟨rfl, b1⟩
end Go.Proofs.Ytmkaijjakcjflaa
