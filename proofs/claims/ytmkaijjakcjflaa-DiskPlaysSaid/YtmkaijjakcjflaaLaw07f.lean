/- Layer 7: DiskPlays, of any acts. -/
import Derived.Test.YtmkaijjakcjflaaLaw07e
namespace Go.Proofs.Ytmkaijjakcjflaa
open Go.ChangeShapes Go.WideShapes Go.ChangeAt Go.RowKit Go.Deep DiskP

set_option maxRecDepth 100000 in
theorem law07_DiskPlays (room : Int) (hroom : I64 room) (a : SlA) (w : World) (ha : a.Ok w) :
    Calls Try.prog 4 #[.int .i64 room, .slice a.A a.l.length a.c] w fun e w' => e = .returned (.bool true) ∧ Below w.heap.size w w' := by
  obtain ⟨A, c, l⟩ := a
  obtain ⟨h1, h2, h3, h4⟩ := ha
  by_cases hf : fewA 40 l
  · exact law07_DiskPlays_few room (max room 0) rfl hroom A c l h3 hf w h4
  · have P0 : Calls Try.prog 6 #[.slice A l.length c, .int .i64 40] w fun e w' => e = .returned (.bool false) ∧ Below w.heap.size w w' := ref7_Few_no A c l h1 40 (by decide) hf w h4
    have H0 := Lib.hid P0
    clear P0 h4 h3 hf
    simp only
    go_enter Try.func4, Try.ntmps4
    go_wp2_with (first
      | (go_at_call 6; (with_reducible refine (H0.out).mono ?_); rintro e w1 ⟨rfl, b1⟩)
      | (go_at_call 7; (with_reducible refine (law07_awake _).mono ?_); rintro e w9 ⟨rfl, b9⟩))
    go_ret
    exact ⟨rfl, b1.trans (b9.mono b1.size)⟩
end Go.Proofs.Ytmkaijjakcjflaa
