/- Walks of layer 7 (disk): Append. -/
import Derived.Test.YtmkaijjakcjflaaDiskH
namespace Go.Proofs.Ytmkaijjakcjflaa
open Go.ChangeShapes Go.WideShapes Go.ChangeAt Go.RowKit Go.Deep DiskP

theorem disk_Append1 (W : World) : Calls Try.prog 43 #[] W fun e w' => e = .returned (.tuple #[]) ∧ W = w' := by
  go_enter Try.func43, Try.ntmps43
  go_wp2
  go_end0
  exact ⟨rfl, rfl⟩
/-- operate with nothing to do -/
theorem disk_op_none (d : Nat) (A : Option Addr) (c : Nat) (S : DS) (hon : S.on = true) (hf : -1 ≤ S.fuse ∧ S.fuse ≤ 9223372036854775807) (ho : 0 ≤ S.ops ∧ S.ops ≤ 1000000000) (w : World) (h : Dk d A c S w) :
    Calls Try.prog 42 #[.pointer (some ⟨d, 0, none⟩), .func (.func 43) #[] #[]] w (DPost d (begun S).1 (.int .i64 (begun S).2) w) := by
  refine (disk_operate d A c S hon hf ho 43 #[] (enters_of Try.func43 (by kernel_rfl) rfl) (fun W => Dk d A c (blow S).1 W ∧ DKeep d w W) w h (fun W h1 h2 _ => (disk_Append1 W).mono (by rintro e w' ⟨rfl, rfl⟩; exact ⟨rfl, h1, h2⟩))).mono ?_
  rintro e w' (⟨h1, rfl, h2, h3⟩ | ⟨h1, rfl, h2, h3⟩)
  · exact ⟨by unfold begun; rw [h1]; rfl, A, c, h2, h3⟩
  · exact ⟨by unfold begun; rw [h1]; rfl, A, c, h2, h3⟩

set_option maxRecDepth 100000 in
set_option maxHeartbeats 4000000 in
theorem disk_Append_bad (d : Nat) (A : Option Addr) (c : Nat) (S : DS) (hS : OkD S) (nm s : ByteArray) (hnm : nm.size ≤ 1000) (hs : s.size ≤ 1000000) (hbad : S.on = false ∨ namedD nm = false ∨ S.room - (used S.fs : Int) < (s.size : Int) ∨ (has S.fs nm = false ∧ 64 ≤ S.fs.length)) (w : World) (h : Dk d A c S w) :
    Calls Try.prog 23 #[.pointer (some ⟨d, 0, none⟩), .string nm, .string s] w fun e w' => e = .returned (.int .i64 (appendD S nm s).2) ∧ (appendD S nm s).1 = S ∧ Below w.heap.size w w' := by
  have hl : S.fs.length ≤ 1000 := by have := hS.many; omega
  have HF := Lib.hid (disk_find d A c S nm hS.sorted hl w h)
  have HN := Lib.hid (fun W => disk_named nm (by unfold maxLen; omega) W)
  have HD := Lib.hid h
  clear h
  unfold appendD
  cases hon : S.on with
  | false =>
    rw [if_pos rfl]
    go_enter Try.func23, Try.ntmps23
    go_wp2_with (first
      | (go_at_call 34; (with_reducible refine (HF.out).mono ?_); rintro e w1 ⟨rfl, b1⟩; have hd1 := HD.out.kept b1)
      | (go_at_call 11; refine (disk_On d A c S _ hd1).mono ?_; rintro e w2 ⟨rfl, rfl⟩; rw [hon]))
    go_ret
    exact ⟨rfl, trivial, b1⟩
  | true =>
    rw [if_neg (by simp)]
    cases hn : namedD nm with
    | false =>
      rw [if_pos rfl]
      rw [hn] at HN
      go_enter Try.func23, Try.ntmps23
      go_wp2_with (first
        | (go_at_call 34; (with_reducible refine (HF.out).mono ?_); rintro e w1 ⟨rfl, b1⟩; have hd1 := HD.out.kept b1)
        | (go_at_call 11; refine (disk_On d A c S _ hd1).mono ?_; rintro e w2 ⟨rfl, rfl⟩; rw [hon])
        | (go_at_call 40; (with_reducible refine (HN.out _).mono ?_); rintro e w3 ⟨rfl, b3⟩))
      go_ret
      exact ⟨rfl, trivial, by (repeat (first | assumption | exact Below.refl _ _ | refine below_step (by assumption) ?_ | refine below_alloc' _ ?_ | refine below_drewN ?_ _ | refine Below.drew ?_))⟩
    | true =>
      rw [if_neg (by simp)]
      rw [hn] at HN
      have hb2 : S.room - (used S.fs : Int) < (s.size : Int) ∨ (has S.fs nm = false ∧ 64 ≤ S.fs.length) := by simpa [hon, hn] using hbad
      rw [if_pos hb2]
      have hfull := hS.full
      have hroom := hS.room
      have HUS := Lib.hid (fun (W : World) (hd : Dk d A c S W) => disk_Used d A c S hl (by have := hS.size; omega) W hd)
      have HX := Lib.hid (fun (W : World) (hd : Dk d A c S W) (u : Later W.heap.size W) => And.intro ((u.h.cell (p := ⟨d, 0, none⟩) hd.lt).trans (bx_cells hd.box 0)) ((u.h.cell (p := ⟨d, 1, none⟩) hd.lt).trans (bx_cells hd.box 1)))
      have HKD := Lib.hid (fun (W : World) (hd : Dk d A c S W) (u : Later W.heap.size W) => HUS.out u.w (hd.kept u.h))
      clear hbad hS
      generalize used S.fs = U at HKD hb2 hfull
      generalize S.room = R at HX hb2 hfull hroom
      by_cases hc : R - (U : Int) < (s.size : Int)
      · have hdec : decide (R - (U : Int) < (s.size : Int)) = true := decide_eq_true hc
        clear hb2
        go_enter Try.func23, Try.ntmps23
        go_wp2_with (first
          | (go_at_call 34; (with_reducible refine (HF.out).mono ?_); rintro e w1 ⟨rfl, b1⟩; have hd1 := HD.out.kept b1)
          | (go_at_call 11; refine (disk_On d A c S _ hd1).mono ?_; rintro e w2 ⟨rfl, rfl⟩; rw [hon])
          | (go_at_call 40; (with_reducible refine (HN.out _).mono ?_); rintro e w3 ⟨rfl, b3⟩; have hd3 := hd1.kept b3))
        have F0 := fun u => (HX.out _ hd3 u).1
        have F1 := fun u => (HX.out _ hd3 u).2
        have HK3 := Lib.hid (HKD.out _ hd3)
        refine wp_region_later w3.heap.size (by kernel_rfl) (by kernel_rfl) ?_
        repeat (go_big_quiet_step ((go_at_call 16; exact later_of _ (Nat.le_refl _) (HK3.out _))))
        refine wpQuiet_nil ?_; intro _ hw'; obtain ⟨u, hw''⟩ := hw'; subst hw''
        go_wp2_with fail
        go_ret
        exact ⟨rfl, trivial, by have b9 := u.h; (repeat (first | assumption | exact Below.refl _ _ | refine below_step (by assumption) ?_ | refine below_alloc' _ ?_ | refine below_drewN ?_ _ | refine Below.drew ?_))⟩
      · obtain ⟨hh, h64⟩ : has S.fs nm = false ∧ 64 ≤ S.fs.length := by rcases hb2 with h | h; exact absurd h hc; exact h
        have hdec : decide (R - (U : Int) < (s.size : Int)) = false := decide_eq_false hc
        rw [hh] at HF
        have h64' : decide ((64 : Int) ≤ (S.fs.length : Int)) = true := decide_eq_true (by omega)
        clear hb2 hc
        go_enter Try.func23, Try.ntmps23
        go_wp2_with (first
          | (go_at_call 34; (with_reducible refine (HF.out).mono ?_); rintro e w1 ⟨rfl, b1⟩; have hd1 := HD.out.kept b1)
          | (go_at_call 11; refine (disk_On d A c S _ hd1).mono ?_; rintro e w2 ⟨rfl, rfl⟩; rw [hon])
          | (go_at_call 40; (with_reducible refine (HN.out _).mono ?_); rintro e w3 ⟨rfl, b3⟩; have hd3 := hd1.kept b3))
        have F0 := fun u => (HX.out _ hd3 u).1
        have F1 := fun u => (HX.out _ hd3 u).2
        have HK3 := Lib.hid (HKD.out _ hd3)
        refine wp_region_later w3.heap.size (by kernel_rfl) (by kernel_rfl) ?_
        repeat (go_big_quiet_step ((go_at_call 16; exact later_of _ (Nat.le_refl _) (HK3.out _))))
        refine wpQuiet_nil ?_; intro _ hw'; obtain ⟨u, hw''⟩ := hw'; subst hw''
        go_wp2_with fail
        go_ret
        exact ⟨rfl, trivial, by have b9 := u.h; (repeat (first | assumption | exact Below.refl _ _ | refine below_step (by assumption) ?_ | refine below_alloc' _ ?_ | refine below_drewN ?_ _ | refine Below.drew ?_))⟩
end Go.Proofs.Ytmkaijjakcjflaa
