/- Layer 33: ReplayRepairs, of any input. -/
import Derived.Test.YtcpmicinibfepaaGreatDoorWBm
import Derived.Test.YtcpmicinibfepaaGreatDoorWBw
namespace Go.Proofs.YtcpmicinibfepaaGreatDoor
open Go.ChangeShapes Go.WideShapes Go.ChangeAt Go.RowKit Go.Deep DiskP NameP


theorem scanC : ScanC := fun d A c S segs hS after w ht h => rep_Scan d A c S segs hS after w ht h
theorem law33_awake' (w : World) (ht : TabW w) : Calls Tryz.prog 25 #[] w fun e w' => e = .returned (.bool true) ∧ Below w.heap.size w w' := law33_awake scanC w ht
set_option maxRecDepth 100000 in
theorem law33_ReplayRepairs (a : SlRf) (after : Int) (fuse : Int) (hfu : I64 fuse) (w : World) (ht : TabW w) (ha : a.Ok w) :
    Calls Tryz.prog 5 #[.slice a.A a.l.length a.c, .int .i64 after, .int .i64 fuse] w fun e w' => e = .returned (.bool true) ∧ Below w.heap.size w w' := by
  obtain ⟨h1, h2, h3, h4, h5⟩ := ha
  by_cases hf : fewR a.l
  · exact law33_ReplayRepairs_few scanC after fuse hfu a.A a.c a.l hf w ht h5 law33_awake'
  · have HF := Lib.hid (ref33_Few_no a.A a.c a.l h1 h4 hf w h5)
    have HA := Lib.hid (law33_awake' w ht)
    clear h5 h4 hf ht hfu
    go_enter Tryz.func5, Tryz.ntmps5
    go_wp2_with (first
      | (go_at_call 24; (with_reducible refine (HF.out).mono ?_); rintro e w0 ⟨rfl, rfl⟩)
      | (go_at_call 25; (with_reducible refine (HA.out).mono ?_); rintro e y1 ⟨rfl, b1⟩))
    go_ret
    exact ⟨rfl, b1⟩
end Go.Proofs.YtcpmicinibfepaaGreatDoor
