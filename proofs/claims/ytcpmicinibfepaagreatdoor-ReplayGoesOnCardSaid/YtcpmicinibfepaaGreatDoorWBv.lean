/- Layer 33: the number behind the last frame (Next). -/
import Derived.Test.YtcpmicinibfepaaGreatDoorWBu
import Derived.Test.YtcpmicinibfepaaGreatDoorWAk
import Derived.Test.YtcpmicinibfepaaGreatDoorWAm
namespace Go.Proofs.YtcpmicinibfepaaGreatDoor
open Go.ChangeShapes Go.WideShapes Go.ChangeAt Go.RowKit Go.Deep


theorem rep_Next_none (after : Int) (ha : I64 after) (A : Option Addr) (c : Nat) (file : ByteArray) (keep : Int) (A2 : Option Addr) (n2 c2 : Nat) (w : World) :
    Calls Tryz.prog 33 #[.int .i64 after, .agg #[.slice A 0 c, .string file, .int .i64 keep, .slice A2 n2 c2]] w fun e w' => e = .returned (.int .i64 (addS after 1)) ∧ Below w.heap.size w w' := by
  have CA := Lib.hid (fun W => sat_Add after 1 ha (by unfold I64; omega) W)
  go_enter Tryz.func33, Tryz.ntmps33
  go_wp2_with (go_at_call 55; (with_reducible refine (CA.out _).mono ?_); rintro e w1 ⟨rfl, rfl⟩)
  go_ret
  exact ⟨rfl, by (repeat (first | assumption | exact Below.refl _ _ | refine below_step (by assumption) ?_ | refine below_alloc' _ ?_ | refine below_drewN ?_ _ | refine Below.drew ?_))⟩

theorem rep_Next_some (after : Int) (A : Option Addr) (c : Nat) (fr : List FrameP.Fr) (k : Nat) (hl : k ≤ 1000000) (f : FrameP.Fr) (hf : fr[k]? = some f) (hq : I64 f.1) (file : ByteArray) (keep : Int) (A2 : Option Addr) (n2 c2 : Nat) (w : World) (hr : RdF w w.heap.size A fr) :
    Calls Tryz.prog 33 #[.int .i64 after, .agg #[.slice A (k + 1) c, .string file, .int .i64 keep, .slice A2 n2 c2]] w fun e w' => e = .returned (.int .i64 (addS f.1 1)) ∧ Below w.heap.size w w' := by
  have CA := Lib.hid (fun W => sat_Add f.1 1 hq (by unfold I64; omega) W)
  have hr2 := fun o => hr.below (((Below.refl w.heap.size w).alloc (Nat.le_refl _) o))
  obtain ⟨ad, rfl, hadl, z0, _⟩ := hr k f hf
  have hz : ∀ o, (w.alloc o).cell? (ad.add (k * 2)) = some (.int .i64 f.1) := fun o => (((Below.refl w.heap.size w).alloc (Nat.le_refl _) o).cell (p := ad.add (k * 2)) (by rw [addr_add_block]; exact hadl)).trans z0
  have hi1 : (k : Int) + 1 - 1 = (k : Int) := by omega
  clear hr hr2 hf z0
  go_enter Tryz.func33, Tryz.ntmps33
  go_wp2_with (go_at_call 55; (with_reducible refine (CA.out _).mono ?_); rintro e w1 ⟨rfl, rfl⟩)
  go_ret
  exact ⟨rfl, by (repeat (first | assumption | exact Below.refl _ _ | refine below_step (by assumption) ?_ | refine below_alloc' _ ?_ | refine below_drewN ?_ _ | refine Below.drew ?_))⟩
end Go.Proofs.YtcpmicinibfepaaGreatDoor
