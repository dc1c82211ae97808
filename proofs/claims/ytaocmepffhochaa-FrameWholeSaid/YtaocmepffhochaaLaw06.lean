/- The statements of layer 6 (frame): what must come, and the walk of FrameIs. -/
import Derived.Test.YtaocmepffhochaaFrameG
namespace Go.Proofs.Ytaocmepffhochaa
open Go.ChangeShapes Go.WideShapes Go.ChangeAt Go.RowKit Go.Deep BigP

theorem cell_later {w w' : World} {a : Addr} {u : Value} (h : w.cell? a = some u) (hb : Below w.heap.size w w') : w'.cell? a = some u := (hb.cell (World.block_lt_of_cell? w a h)).trans h
theorem cell_alloc {w : World} {a : Addr} {u : Value} (h : w.cell? a = some u) (o : Obj) : (w.alloc o).cell? a = some u := (((Below.refl w.heap.size w).alloc (Nat.le_refl _) o).cell (World.block_lt_of_cell? w a h)).trans h
def aw6L : List UInt8 := FrameP.enc 7 [97, 98]
def aw6 : ByteArray := ⟨aw6L.toArray⟩
theorem aw6_size : aw6.size = 18 := by show aw6L.toArray.size = 18; rw [List.size_toArray]; exact FrameP.enc_length 7 [97, 98]
theorem aw6_put : pfV (FrameP.put 7 (⟨#[97, 98]⟩ : ByteArray).data.toList) = .tuple #[.string aw6, .int .i64 0] := rfl
theorem aw6_take (r : List UInt8) : FrameP.take (aw6L ++ r) = ((7, [97, 98]), 18, 0) := FrameP.take_enc 7 [97, 98] r (by omega) (by omega) (by decide)
theorem aw6_all : FrameP.all (aw6 ++ aw6).data.toList = ([(7, [97, 98]), (7, [97, 98])], 36, 0) := by
  rw [ba_tl]
  show FrameP.all (aw6L ++ aw6L) = _
  have hl : aw6L.length = 18 := FrameP.enc_length 7 [97, 98]
  rw [FrameP.all_ok (aw6L ++ aw6L) (7, [97, 98]) 18 (fun h => by have := congrArg List.length h; rw [List.length_append, hl] at this; simp at this) (aw6_take _), ← hl, List.drop_left, hl,
    FrameP.all_ok aw6L (7, [97, 98]) 18 (fun h => by rw [h] at hl; simp at hl) (by have := aw6_take []; rwa [List.append_nil] at this), ← hl, List.drop_length, hl]
  simp [FrameP.all_nil]

set_option maxRecDepth 100000 in
theorem law06_awake (w : World) : Calls Try.prog 31 #[] w fun e w' => e = .returned (.bool true) ∧ Below w.heap.size w w' := by
  have hp := frame_Put 7 ⟨#[97, 98]⟩ (by unfold I64; omega) (by unfold maxLen; decide)
  rw [aw6_put] at hp
  have hz := aw6_size
  have ht := frame_Take (aw6 ++ ⟨#[120]⟩) (by rw [ByteArray.size_append, hz]; unfold maxLen; decide)
  rw [ba_tl, show aw6.data.toList = aw6L from rfl, aw6_take] at ht
  have ht0 := frame_Take ⟨#[]⟩ (by unfold maxLen; decide)
  rw [show FrameP.take (⟨#[]⟩ : ByteArray).data.toList = ((0, []), 0, 3) from rfl] at ht0
  have ha : ∀ w, Calls Try.prog 36 #[.string (aw6 ++ aw6)] w fun e w' => ∃ A c, e = .returned (.tuple #[.slice A 2 c, .int .i64 36, .int .i64 0]) ∧ Below w.heap.size w w' := fun w =>
    (frame_All (aw6 ++ aw6) (by rw [ByteArray.size_append, hz]; decide) w).mono fun e w' h => by
      rw [aw6_all] at h
      obtain ⟨A, c, h1, _, h2, _⟩ := h
      exact ⟨A, c, h1, h2⟩
  unfold tfV at ht ht0
  generalize aw6 = S at hp hz ht ha
  have HP := Lib.hid hp
  have HT := Lib.hid ht
  have HT0 := Lib.hid ht0
  have HA := Lib.hid ha
  clear hp ht ht0 ha
  go_enter Try.func31, Try.ntmps31
  go_wp2_with (first
    | (go_at_call 32; with_reducible refine (HP.out _).mono ?_; rintro e w1 ⟨rfl, hb1⟩)
    | (go_at_call 34; with_reducible refine (HT.out _).mono ?_; rintro e w2 ⟨rfl, hb2⟩)
    | (go_at_call 36; with_reducible refine (HA.out _).mono ?_; rintro e w3 ⟨A, c, rfl, hb3⟩; have bx := box2 hb3; have b3 := bx.2.2.2.2; have x0 := bx.1; have x1 := bx.2.1)
    | (go_at_call 34; with_reducible refine (HT0.out _).mono ?_; rintro e w4 ⟨rfl, hb4⟩; have y0 := cell_alloc (cell_later x0 hb4); have y1 := cell_alloc (cell_later x1 hb4)))
  go_ret
  exact ⟨rfl, by (repeat (first | assumption | exact Below.refl _ _ | refine below_step (by assumption) ?_ | refine below_alloc' _ ?_ | refine below_drewN ?_ _ | refine Below.drew ?_))⟩

theorem law06_FrameIs_long (seq : Int) (d s : ByteArray) (h : ¬ (d.size ≤ 200 ∧ s.size ≤ 1024)) (w : World) :
    Calls Try.prog 9 #[.int .i64 seq, .string d, .string s] w fun e w' => e = .returned (.bool true) ∧ Below w.heap.size w w' := by
  by_cases h1 : d.size ≤ 200
  · have h2 : ¬ s.size ≤ 1024 := fun h2 => h ⟨h1, h2⟩
    clear h
    go_enter Try.func9, Try.ntmps9
    go_wp2_with (go_at_call 31; refine (law06_awake _).mono ?_; rintro e w1 ⟨rfl, hb1⟩)
    go_ret
    exact ⟨rfl, by (repeat (first | assumption | exact Below.refl _ _ | refine below_step (by assumption) ?_ | refine below_alloc' _ ?_ | refine below_drewN ?_ _ | refine Below.drew ?_))⟩
  · clear h
    go_enter Try.func9, Try.ntmps9
    go_wp2_with (go_at_call 31; refine (law06_awake _).mono ?_; rintro e w1 ⟨rfl, hb1⟩)
    go_ret
    exact ⟨rfl, by (repeat (first | assumption | exact Below.refl _ _ | refine below_step (by assumption) ?_ | refine below_alloc' _ ?_ | refine below_drewN ?_ _ | refine Below.drew ?_))⟩
set_option maxRecDepth 100000 in
theorem law06_FrameIs_short (seq : Int) (hq : I64 seq) (d s : ByteArray) (h1 : d.size ≤ 200) (h2 : s.size ≤ 1024) (w : World) :
    Calls Try.prog 9 #[.int .i64 seq, .string d, .string s] w fun e w' => e = .returned (.bool true) ∧ Below w.heap.size w w' := by
  have hp := frame_Put seq d hq (by unfold maxLen; omega)
  have hq' := ref_Put6 seq d hq (by unfold maxLen; omega)
  have ht := frame_Take s (by unfold maxLen; omega)
  have ht' := ref_Take6 s (by unfold maxLen; omega)
  have ha := frame_All s (by omega)
  have ha' := ref_All6 s (by omega)
  have hl : (FrameP.all s.data.toList).1.length ≤ 1000000 := by
    obtain ⟨_, f2, f3, _⟩ := FrameP.all_facts _ s.data.toList (Nat.le_refl _)
    have : s.data.toList.length = s.size := rfl
    omega
  unfold tfV at ht ht'
  unfold pfV at hp hq'
  generalize FrameP.put seq d.data.toList = P at hp hq'
  generalize FrameP.take s.data.toList = T at ht ht'
  generalize FrameP.all s.data.toList = L at ha ha' hl
  obtain ⟨ps, pe⟩ := P
  obtain ⟨⟨tq, td⟩, tn, te⟩ := T
  obtain ⟨l, n, le⟩ := L
  simp only at hp hq' ht ht' hl
  unfold AllPost at ha ha'
  simp only at ha ha'
  generalize (⟨ps.toArray⟩ : ByteArray) = PS at hp hq'
  generalize (⟨td.toArray⟩ : ByteArray) = TD at ht ht'
  have HP := Lib.hid hp
  have HP' := Lib.hid hq'
  have HT := Lib.hid ht
  have HT' := Lib.hid ht'
  have HA := Lib.hid ha
  have HA' := Lib.hid ha'
  have HL := Lib.hid hl
  clear hp hq' ht ht' ha ha' hl hq
  go_enter Try.func9, Try.ntmps9
  go_wp2_with (first
    | (go_at_call 32; with_reducible refine (HP.out _).mono ?_; rintro e w1 ⟨rfl, hb1⟩)
    | (go_at_call 33; with_reducible refine (HP'.out _).mono ?_; rintro e w2 ⟨rfl, hb2⟩)
    | (go_at_call 34; with_reducible refine (HT.out _).mono ?_; rintro e w3 ⟨rfl, hb3⟩)
    | (go_at_call 35; with_reducible refine (HT'.out _).mono ?_; rintro e w4 ⟨rfl, hb4⟩; have bx := box2 hb4; have b4 := bx.2.2.2.2; have x0 := bx.1; have x1 := bx.2.1; clear bx)
    | (go_at_call 36; with_reducible refine (HA.out _).mono ?_; rintro e w5 ⟨A, c, rfl, hR, hb5, _⟩; have by' := box2 hb5; have b5 := by'.2.2.2.2; have x0' := cell_later x0 b5; have x1' := cell_later x1 b5; have y0 := by'.1; have y1 := by'.2.1; clear by')
    | (go_at_call 37; with_reducible refine (HA'.out _).mono ?_; rintro e w6 ⟨B, c', rfl, hR', hb6, _⟩; have x0'' := cell_later x0' hb6; have x1'' := cell_later x1' hb6; have y0'' := cell_later y0 hb6; have y1'' := cell_later y1 hb6; have HR := Lib.hid ((hR.below hb6).more hb6.size))
    | (go_at_call 38; with_reducible refine (ref_Same6 _ _ _ _ _ HL.out _ HR.out hR').mono ?_; rintro e w7 ⟨rfl, hb7⟩)
    | (go_at_call 31; with_reducible refine (law06_awake _).mono ?_; rintro e w8 ⟨rfl, hb8⟩))
  go_ret
  exact ⟨rfl, by (repeat (first | assumption | exact Below.refl _ _ | refine below_step (by assumption) ?_ | refine below_alloc' _ ?_ | refine below_drewN ?_ _ | refine Below.drew ?_))⟩
theorem law06_FrameIs (seq : Int) (d s : ByteArray) (hq : I64 seq) (w : World) :
    Calls Try.prog 9 #[.int .i64 seq, .string d, .string s] w fun e w' => e = .returned (.bool true) ∧ Below w.heap.size w w' := by
  by_cases h : d.size ≤ 200 ∧ s.size ≤ 1024
  · exact law06_FrameIs_short seq hq d s h.1 h.2 w
  · exact law06_FrameIs_long seq d s h w
