/- The statements of layer 6 (frame): the walk of FrameTorn. -/
import Derived.Test.YtaocmepffhochaaLaw06
namespace Go.Proofs.Ytaocmepffhochaa
open Go.ChangeShapes Go.WideShapes Go.ChangeAt Go.RowKit Go.Deep BigP

theorem Try.cells_frame : Try.prog.cellsOf 44 = 2 := by kernel_rfl
theorem open_frame {H : Type} {enc : TypeId × Value → H} {w : World} {base : Nat} {spare : Nat → Bool} {held : Bool} {r : Reach} {b0 : Nat} {v : Value} {d : DataW H} {p : List MemPlace}
    (hv : Value.okWide Try.prog w r b0 44 v) (h : DataW.Trod enc Try.prog w base spare held 44 v d p) : ∃ a : Int × ByteArray, v = .agg #[.int .i64 a.1, .string a.2] ∧ I64 a.1 ∧ a.2.size ≤ maxLen := by
  obtain ⟨⟨l⟩, rfl, hsz, hg⟩ := open_struct Try.underlying44 (by kernel_rfl) Try.cells_frame hv h
  match l, hsz with
  | [c0, c1], _ =>
    obtain ⟨c, y, n, hc, h0⟩ := hg 0 _ rfl
    obtain rfl : c0 = c := by simpa using hc
    obtain ⟨a0, rfl, w0⟩ := cell_int Try.underlying3 h0
    obtain ⟨c, y, n, hc, h1⟩ := hg 1 _ rfl
    obtain rfl : c1 = c := by simpa using hc
    obtain ⟨a1, rfl, w1⟩ := cell_string Try.underlying9 h1
    exact ⟨(a0, a1), rfl, I64_of_wf w0, w1⟩

theorem law06_FrameTorn_long (q c : Int) (d m : ByteArray) (h : ¬ (d.size ≤ 200 ∧ m.size ≤ 200)) (w : World) :
    Calls Try.prog 11 #[.agg #[.int .i64 q, .string d], .string m, .int .u16 c] w fun e w' => e = .returned (.bool true) ∧ Below w.heap.size w w' := by
  by_cases h1 : d.size ≤ 200
  · have h2 : ¬ m.size ≤ 200 := fun h2 => h ⟨h1, h2⟩
    clear h
    go_enter Try.func11, Try.ntmps11
    go_wp2_with (go_at_call 31; refine (law06_awake _).mono ?_; rintro e w1 ⟨rfl, hb1⟩)
    go_ret
    exact ⟨rfl, by (repeat (first | assumption | exact Below.refl _ _ | refine below_step (by assumption) ?_ | refine below_alloc' _ ?_ | refine below_drewN ?_ _ | refine Below.drew ?_))⟩
  · clear h
    go_enter Try.func11, Try.ntmps11
    go_wp2_with (go_at_call 31; refine (law06_awake _).mono ?_; rintro e w1 ⟨rfl, hb1⟩)
    go_ret
    exact ⟨rfl, by (repeat (first | assumption | exact Below.refl _ _ | refine below_step (by assumption) ?_ | refine below_alloc' _ ?_ | refine below_drewN ?_ _ | refine Below.drew ?_))⟩
theorem law06_FrameTorn_arg (q c : Int) (hq : I64 q) (d m : ByteArray) (h1 : d.size ≤ 200) (h2 : m.size ≤ 200) (h3 : q < 1) (w : World) :
    Calls Try.prog 11 #[.agg #[.int .i64 q, .string d], .string m, .int .u16 c] w fun e w' => e = .returned (.bool true) ∧ Below w.heap.size w w' := by
  have hp := frame_Put q d hq (by unfold maxLen; omega)
  unfold FrameP.put pfV at hp
  rw [if_pos h3] at hp
  have HP := Lib.hid hp
  clear hp hq
  go_enter Try.func11, Try.ntmps11
  go_wp2_with (first
    | (go_at_call 32; with_reducible refine (HP.out _).mono ?_; rintro e w1 ⟨rfl, hb1⟩; have bx := box2 hb1; have b1 := bx.2.2.2.2; have x0 := bx.1; have x1 := bx.2.1; clear bx)
    | (go_at_call 31; with_reducible refine (law06_awake _).mono ?_; rintro e w8 ⟨rfl, hb8⟩))
  go_ret
  exact ⟨rfl, by (repeat (first | assumption | exact Below.refl _ _ | refine below_step (by assumption) ?_ | refine below_alloc' _ ?_ | refine below_drewN ?_ _ | refine Below.drew ?_))⟩
set_option maxRecDepth 100000 in
theorem law06_FrameTorn_ok (q : Int) (c : Nat) (hq : I64 q) (hc : c < 65536) (d m : ByteArray) (h1 : d.size ≤ 200) (h2 : m.size ≤ 200) (h3 : 1 ≤ q) (w : World) :
    Calls Try.prog 11 #[.agg #[.int .i64 q, .string d], .string m, .int .u16 (c : Int)] w fun e w' => e = .returned (.bool true) ∧ Below w.heap.size w w' := by
  have hz : d.data.toList.length = d.size := rfl
  have hqn : ((q.toNat : Nat) : Int) = q := by omega
  have hp := frame_Put q d hq (by unfold maxLen; omega)
  unfold FrameP.put pfV at hp
  rw [if_neg (by omega), if_neg (by omega)] at hp
  simp only at hp
  obtain ⟨S, hS⟩ : ∃ S : ByteArray, (⟨(FrameP.enc q.toNat d.data.toList).toArray⟩ : ByteArray) = S := ⟨_, rfl⟩
  have hSl : S.data.toList = FrameP.enc q.toNat d.data.toList := by rw [← hS]
  have hsz : S.size = 16 + d.size := by show S.data.size = _; rw [← Array.length_toList, hSl, FrameP.enc_length, hz]
  rw [hS] at hp
  have ht := frame_Take (S ++ m) (by rw [ByteArray.size_append]; unfold maxLen; omega)
  rw [ba_tl, hSl, FrameP.take_enc _ _ _ (by omega) (by unfold I64 at hq; omega) (by omega), hqn, hz] at ht
  have hk : c % S.size < 16 + d.size := by rw [← hsz]; exact Nat.mod_lt _ (by omega)
  have ht' := frame_Take (S.extract 0 (c % S.size)) (by rw [ByteArray.size_extract]; unfold maxLen; omega)
  rw [ex_list, hSl, List.drop_zero, Nat.sub_zero, FrameP.take_cut _ _ (by omega) _ (by rw [hz]; exact hk)] at ht'
  unfold tfV at ht ht'
  simp only at ht ht'
  have hd : (⟨d.data.toList.toArray⟩ : ByteArray) = d := rfl
  rw [hd] at ht
  rw [hsz] at ht' hk
  have HP := Lib.hid hp
  have HT := Lib.hid ht
  have HT' := Lib.hid ht'
  have hk0 : (0 : Int) ≤ (c : Int) % (16 + (d.size : Int)) := Int.emod_nonneg _ (by omega)
  have hk1 : (c : Int) % (16 + (d.size : Int)) ≤ 16 + (d.size : Int) := by have := Int.emod_lt_of_pos (c : Int) (show (0 : Int) < 16 + (d.size : Int) by omega); omega
  clear hp ht ht' hq hS hSl hd hk hz hqn
  go_enter Try.func11, Try.ntmps11
  go_wp2_with (first
    | (go_at_call 32; with_reducible refine (HP.out _).mono ?_; rintro e w1 ⟨rfl, hb1⟩; have bx := box2 hb1; have b1 := bx.2.2.2.2; have x0 := bx.1; have x1 := bx.2.1; clear bx)
    | (go_at_call 34; with_reducible refine (HT.out _).mono ?_; rintro e w2 ⟨rfl, hb2⟩; have y0 := cell_later x0 hb2; have y1 := cell_later x1 hb2)
    | (go_at_call 34; with_reducible refine (HT'.out _).mono ?_; rintro e w3 ⟨rfl, hb3⟩; have bx := box2 hb3; have b3 := bx.2.2.2.2; have z0 := cell_alloc bx.1; have z1 := cell_alloc bx.2.1; have v0 := cell_alloc (cell_later y0 b3); have v1 := cell_alloc (cell_later y1 b3); clear bx)
    | (go_at_call 31; with_reducible refine (law06_awake _).mono ?_; rintro e w8 ⟨rfl, hb8⟩))
  go_ret
  exact ⟨rfl, by (repeat (first | assumption | exact Below.refl _ _ | refine below_step (by assumption) ?_ | refine below_alloc' _ ?_ | refine below_drewN ?_ _ | refine Below.drew ?_))⟩
theorem law06_FrameTorn (x : Int × ByteArray) (hx : I64 x.1) (m : ByteArray) (c : Int) (hc : (Lit.int .u16 c).wf = true) (w : World) :
    Calls Try.prog 11 #[.agg #[.int .i64 x.1, .string x.2], .string m, .int .u16 c] w fun e w' => e = .returned (.bool true) ∧ Below w.heap.size w w' := by
  have hc' : 0 ≤ c ∧ c ≤ 65535 := by simpa [Lit.wf, IntKind.min, IntKind.max, IntKind.signed, IntKind.bits] using hc
  by_cases h : x.2.size ≤ 200 ∧ m.size ≤ 200
  · by_cases h3 : x.1 < 1
    · exact law06_FrameTorn_arg x.1 c hx x.2 m h.1 h.2 h3 w
    · obtain ⟨n, rfl⟩ := Int.eq_ofNat_of_zero_le hc'.1
      exact law06_FrameTorn_ok x.1 n hx (by omega) x.2 m h.1 h.2 (by omega) w
  · exact law06_FrameTorn_long x.1 c x.2 m h w
