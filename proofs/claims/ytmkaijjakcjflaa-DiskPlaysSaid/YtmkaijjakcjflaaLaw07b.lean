/- Layer 7: what must come, whatever the arguments are. -/
import Derived.Test.YtmkaijjakcjflaaLaw07
namespace Go.Proofs.Ytmkaijjakcjflaa
open Go.ChangeShapes Go.WideShapes Go.ChangeAt Go.RowKit Go.Deep DiskP

instance : DecidableEq Fl := fun a b => decidable_of_iff (a.nm = b.nm ∧ a.all = b.all ∧ a.su = b.su) (by obtain ⟨_, _, _⟩ := a; obtain ⟨_, _, _⟩ := b; simp)
instance : DecidableEq DS := fun a b => decidable_of_iff (a.fs = b.fs ∧ a.room = b.room ∧ a.made = b.made ∧ a.on = b.on ∧ a.fuse = b.fuse ∧ a.ops = b.ops) (by obtain ⟨_, _, _, _, _, _⟩ := a; obtain ⟨_, _, _, _, _, _⟩ := b; simp)
/-- the disk of the example, as it goes -/
def w7 (s : ByteArray) (su : Nat) (on : Bool) (fuse ops : Int) : DS := ⟨[⟨⟨#[102]⟩, s, su⟩], 9, true, on, fuse, ops⟩
def w0 : DS := ⟨[], 9, true, true, -1, 0⟩
def ab : ByteArray := ⟨#[97, 98]⟩
def abc : ByteArray := ⟨#[97, 98, 99]⟩
def abcde : ByteArray := ⟨#[97, 98, 99, 100, 101]⟩
theorem w0_ok : OkD w0 := ⟨by simp [w0, Sorted], by decide +kernel, by decide +kernel, by decide +kernel, by decide +kernel, by decide +kernel, by decide +kernel, by decide +kernel⟩
theorem w7_ok (s : ByteArray) (su : Nat) (on : Bool) (fuse ops : Int) (h1 : su ≤ s.size) (h2 : s.size ≤ 9) (h3 : -1 ≤ fuse ∧ fuse ≤ 100) (h4 : 0 ≤ ops ∧ ops ≤ 100) : OkD (w7 s su on fuse ops) := by
  refine ⟨by simp [w7, Sorted], by simp [w7], by simpa [w7] using h1, ?_, by simp [w7], ?_, ?_, ?_⟩
  · simp only [w7, used, List.map_cons, List.map_nil, List.sum_cons, List.sum_nil]; omega
  · simp only [w7, used, List.map_cons, List.map_nil, List.sum_cons, List.sum_nil]; omega
  · simp only [w7]; omega
  · simp only [w7]; omega
theorem w7_1 : appendD w0 ⟨#[102]⟩ ab = (w7 ab 0 true (-1) 1, 0) := by decide +kernel
theorem w7_2 : syncD (w7 ab 0 true (-1) 1) ⟨#[102]⟩ = (w7 ab 2 true (-1) 2, 0) := by decide +kernel
theorem w7_3 : appendD (w7 ab 2 true (-1) 2) ⟨#[102]⟩ ⟨#[99, 100, 101]⟩ = (w7 abcde 2 true (-1) 3, 0) := by decide +kernel
theorem w7_4 : appendD (w7 abcde 2 true (-1) 3) ⟨#[103]⟩ ⟨#[49, 50, 51, 52, 53]⟩ = (w7 abcde 2 true (-1) 3, 5) := by decide +kernel
theorem w7_5 : appendD (w7 abcde 2 true (-1) 3) ⟨#[71]⟩ ⟨#[]⟩ = (w7 abcde 2 true (-1) 3, 1) := by decide +kernel
theorem w7_6 : readD (w7 abcde 2 true (-1) 3) ⟨#[102]⟩ = (abcde, 0) := by decide +kernel
theorem w7_8 : removeD (w7 abcde 2 true 0 3) ⟨#[102]⟩ = (w7 abcde 2 false (-1) 4, 9) := by decide +kernel
theorem w7_9 : upD (w7 abcde 2 false (-1) 4) [1] = w7 abc 3 true (-1) 4 := by decide +kernel
theorem w7_10 : readD (w7 abc 3 true (-1) 4) ⟨#[102]⟩ = (abc, 0) := by decide +kernel
theorem rd_box {W : World} {b : Nat} {cs : Array Value} {T : TypeId} (h : W.heap[b]? = some (.cells cs T (0, 0))) : Rd W W.heap.size (some ⟨b, 0, none⟩) cs.toList := fun j u hj => by
  refine ⟨_, rfl, bx_lt h, ?_⟩
  rw [fl_add_0, cell_of_row _ _ _ cs T _ h]
  simpa using hj

set_option maxRecDepth 100000 in
set_option maxHeartbeats 4000000 in
theorem law07_awake (w : World) : Calls Try.prog 7 #[] w fun e w' => e = .returned (.bool true) ∧ Below w.heap.size w w' := by
  have P0 := disk_New 9 w
  obtain ⟨d, hd⟩ : ∃ d, d = w.heap.size := ⟨_, rfl⟩
  rw [show max (9 : Int) 0 = 9 by decide, ← hd] at P0
  have P1 := fun A c w h => disk_Append d A c w0 w0_ok ⟨#[102]⟩ ab (by decide) (by decide) w h
  have P2 := fun A c w h => disk_Sync d A c (w7 ab 0 true (-1) 1) (w7_ok _ _ _ _ _ (by decide) (by decide) (by decide) (by decide)) ⟨#[102]⟩ w h
  have P3 := fun A c w h => disk_Append d A c (w7 ab 2 true (-1) 2) (w7_ok _ _ _ _ _ (by decide) (by decide) (by decide) (by decide)) ⟨#[102]⟩ ⟨#[99, 100, 101]⟩ (by decide) (by decide) w h
  have P4 := fun A c w h => disk_Append d A c (w7 abcde 2 true (-1) 3) (w7_ok _ _ _ _ _ (by decide) (by decide) (by decide) (by decide)) ⟨#[103]⟩ ⟨#[49, 50, 51, 52, 53]⟩ (by decide) (by decide) w h
  have P5 := fun A c w h => disk_Append d A c (w7 abcde 2 true (-1) 3) (w7_ok _ _ _ _ _ (by decide) (by decide) (by decide) (by decide)) ⟨#[71]⟩ ⟨#[]⟩ (by decide) (by decide) w h
  have P6 := fun A c w h => disk_Read d A c (w7 abcde 2 true (-1) 3) ⟨#[102]⟩ (w7_ok _ _ _ _ _ (by decide) (by decide) (by decide) (by decide)).sorted (by decide) w h
  have P7 := fun A c w h => disk_Fuse d A c (w7 abcde 2 true (-1) 3) 0 w h
  have P8 := fun A c w h => disk_Remove d A c (w7 abcde 2 true 0 3) (w7_ok _ _ _ _ _ (by decide) (by decide) (by decide) (by decide)) ⟨#[102]⟩ w h
  have P9 := fun A c w h => disk_On d A c (w7 abcde 2 false (-1) 4) w h
  have PA : ∀ A c w, Dk d A c (w7 abcde 2 false (-1) 4) w → ∀ (b : Nat) (T : TypeId), b ≠ d → T ≠ 67 → w.heap[b]? = some (.cells #[.int .i64 1] T (0, 0)) → Calls Try.prog 27 #[.pointer (some ⟨d, 0, none⟩), .slice (some ⟨b, 0, none⟩) 1 1] w (DPost d (upD (w7 abcde 2 false (-1) 4) [1]) (.tuple #[]) w) :=
    fun A c w h b T hb hT hw => disk_Up d A c (w7 abcde 2 false (-1) 4) (w7_ok _ _ _ _ _ (by decide) (by decide) (by decide) (by decide)) rfl (some ⟨b, 0, none⟩) 1 [1] (by decide) (by decide) w h (fun W hW => rd_box (dkeep_box hW hw hb hT))
  have PB := fun A c w h => disk_Read d A c (w7 abc 3 true (-1) 4) ⟨#[102]⟩ (w7_ok _ _ _ _ _ (by decide) (by decide) (by decide) (by decide)).sorted (by decide) w h
  have PC := fun A c w h => disk_Used d A c (w7 abc 3 true (-1) 4) (by decide) (by decide +kernel) w h
  have PD := fun A c w h => disk_Sure d A c (w7 abc 3 true (-1) 4) ⟨#[102]⟩ (w7_ok _ _ _ _ _ (by decide) (by decide) (by decide) (by decide)).sorted (by decide) w h
  have PE := fun A c w h => disk_Ops d A c (w7 abc 3 true (-1) 4) w h
  simp only [w7_1, w7_2, w7_3, w7_4, w7_5, w7_6, w7_8, w7_9, w7_10, show ({ w7 abcde 2 true (-1) 3 with fuse := max (0 : Int) (-1) } : DS) = w7 abcde 2 true 0 3 by decide +kernel, show (w7 abcde 2 false (-1) 4).on = false by rfl,
    show used (w7 abc 3 true (-1) 4).fs = 3 by decide +kernel, show sureD (w7 abc 3 true (-1) 4) ⟨#[102]⟩ = 3 by decide +kernel, show (w7 abc 3 true (-1) 4).ops = 4 by rfl] at P1 P2 P3 P4 P5 P6 P7 P8 P9 PA PB PC PD PE
  have P0' : Calls Try.prog 8 #[.int .i64 9] w fun e w' => e = .returned (.pointer (some ⟨d, 0, none⟩)) ∧ Dk d none 0 w0 w' ∧ Below d w w' := P0
  simp only [ab, abc, abcde] at P1 P6 PB
  have H0 := Lib.hid P0'
  have H1 := Lib.hid P1
  have H2 := Lib.hid P2
  have H3 := Lib.hid P3
  have H4 := Lib.hid P4
  have H5 := Lib.hid P5
  have H6 := Lib.hid P6
  have H7 := Lib.hid P7
  have H8 := Lib.hid P8
  have H9 := Lib.hid P9
  have HA := Lib.hid PA
  have HB := Lib.hid PB
  have HC := Lib.hid PC
  have HD := Lib.hid PD
  have HE := Lib.hid PE
  clear P0 P0' P1 P2 P3 P4 P5 P6 P7 P8 P9 PA PB PC PD PE
  rw [← hd]
  clear hd
  go_enter Try.func7, Try.ntmps7
  go_wp2_with (first
    | (go_at_call 8; (with_reducible refine (H0.out).mono ?_); rintro e w1 ⟨rfl, d0, b0⟩; have k0 := DKeep.refl d w1)
    | (go_at_call 23; (with_reducible refine (H1.out _ _ _ d0).mono ?_); rintro e w2 ⟨rfl, A1, c1, d1, k1'⟩; have k1 := k0.trans k1'; clear k0 k1' d0)
    | (go_at_call 24; (with_reducible refine (H2.out _ _ _ d1).mono ?_); rintro e w3 ⟨rfl, A2, c2, d2, k2'⟩; have k2 := k1.trans k2'; clear k1 k2' d1)
    | (go_at_call 23; (with_reducible refine (H3.out _ _ _ d2).mono ?_); rintro e w4 ⟨rfl, A3, c3, d3, k3'⟩; have k3 := k2.trans k3'; clear k2 k3' d2)
    | (go_at_call 23; (with_reducible refine (H4.out _ _ _ d3).mono ?_); rintro e w5 ⟨rfl, A4, c4, d4, k4'⟩; have k4 := k3.trans k4'; clear k3 k4' d3)
    | (go_at_call 23; (with_reducible refine (H5.out _ _ _ d4).mono ?_); rintro e w6 ⟨rfl, A5, c5, d5, k5'⟩; have k5 := k4.trans k5'; clear k4 k5' d4)
    | (go_at_call 12; (with_reducible refine (H6.out _ _ _ d5).mono ?_); rintro e w7' ⟨rfl, b6⟩; have d6 := d5.kept b6; have k6 := k5.trans (DKeep.of_below b6 (Nat.le_of_lt d5.lt)); clear k5 b6 d5)
    | (go_at_call 25; (with_reducible refine (H7.out _ _ _ d6).mono ?_); rintro e w8 ⟨rfl, A7, c7, d7, k7'⟩; have k7 := k6.trans k7'; clear k6 k7' d6)
    | (go_at_call 26; (with_reducible refine (H8.out _ _ _ d7).mono ?_); rintro e w9 ⟨rfl, A8, c8, d8, k8'⟩; have k8 := k7.trans k8'; clear k7 k8' d7)
    | (go_at_call 11; (with_reducible refine (H9.out _ _ _ d8).mono ?_); rintro e wa ⟨rfl, rfl⟩)
    | (go_at_call 27; (with_reducible refine (HA.out _ _ _ (d8.kept (alloc_kept _ _)) _ 3 (Nat.ne_of_gt d8.lt) (by decide) (heap_alloc_new _ _)).mono ?_); rintro e wb ⟨rfl, A9, c9, d9, k9'⟩; have k9 := (k8.trans (DKeep.of_below (alloc_kept _ _) (Nat.le_of_lt d8.lt))).trans k9'; clear k8 k9' d8)
    | (go_at_call 12; (with_reducible refine (HB.out _ _ _ d9).mono ?_); rintro e wc ⟨rfl, b10⟩; have d10 := d9.kept b10; have k10 := k9.trans (DKeep.of_below b10 (Nat.le_of_lt d9.lt)); clear k9 b10 d9)
    | (go_at_call 16; (with_reducible refine (HC.out _ _ _ d10).mono ?_); rintro e wd ⟨rfl, b11⟩; have d11 := d10.kept b11; have k11 := k10.trans (DKeep.of_below b11 (Nat.le_of_lt d10.lt)); clear k10 b11 d10)
    | (go_at_call 22; (with_reducible refine (HD.out _ _ _ d11).mono ?_); rintro e we ⟨rfl, b12⟩; have d12 := d11.kept b12; have k12 := k11.trans (DKeep.of_below b12 (Nat.le_of_lt d11.lt)); clear k11 b12 d11)
    | (go_at_call 15; (with_reducible refine (HE.out _ _ _ d12).mono ?_); rintro e wf ⟨rfl, rfl⟩))
  go_ret
  exact ⟨rfl, b0.trans k12.below⟩
end Go.Proofs.Ytmkaijjakcjflaa
