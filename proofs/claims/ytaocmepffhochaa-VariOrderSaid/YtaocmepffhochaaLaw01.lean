/- The statements of layer 1 (vari): the walks of what must come, and of VariIs. -/
import Derived.Test.YtaocmepffhochaaVariC
namespace Go.Proofs.Ytaocmepffhochaa
open Go.ChangeShapes Go.WideShapes Go.ChangeAt Go.RowKit Go.Deep

theorem vari_Take_at (s : ByteArray) (hs : s.size ≤ maxLen) (x : Int) (y : Nat) (er : Int) (h : ((VariP.take 9 s.data.toList).1 : Int) = x) (h2 : (VariP.take 9 s.data.toList).2 = (y, er)) (w : World) :
    Calls Try.prog 25 #[.string s] w fun e w' => e = .returned (.tuple #[.int .i64 x, .int .i64 (y : Int), .int .i64 er]) ∧ w = w' := by
  have := vari_Take s hs w
  unfold tkI at this
  rwa [h, h2] at this
theorem vari_TakeSigned_at (s : ByteArray) (hs : s.size ≤ maxLen) (x : Int) (y : Nat) (er : Int) (h : VariP.zag (VariP.take 10 s.data.toList).1 = x) (h2 : (VariP.take 10 s.data.toList).2 = (y, er)) (w : World) :
    Calls Try.prog 27 #[.string s] w fun e w' => e = .returned (.tuple #[.int .i64 x, .int .i64 (y : Int), .int .i64 er]) ∧ w = w' := by
  have := vari_TakeSigned s hs w
  unfold tkI at this
  rwa [h, h2] at this
theorem vari_All2 (a b : Int) (ha : I64 a) (hb : I64 b) (w : World) :
    Calls Try.prog 29 #[.slice (some ⟨w.heap.size, 0, none⟩) 2 2] (w.alloc (.cells #[.int .i64 a, .int .i64 b] 3)) fun e w' => e = .returned (.string (putsB [a, b])) ∧ Below w.heap.size w w' := by
  refine (vari_All (some ⟨w.heap.size, 0, none⟩) 2 [a, b] (by simp) (by simpa using ⟨ha, hb⟩) _ ?_).mono fun e w' ⟨he, hb⟩ => ⟨he, ?_⟩
  · rw [World.size_alloc]; exact Rd.new w 3 #[.int .i64 a, .int .i64 b]
  · exact below_step hb (below_alloc' _ (Below.refl _ _))

theorem putB_300 : putB 300 = ⟨#[172, 2]⟩ := by decide +kernel
theorem sigB_m2 : sigB (-2) = ⟨#[3]⟩ := by decide +kernel
theorem putsB_12 : putsB [1, 2] = ⟨#[1, 2]⟩ := by decide +kernel
theorem law01_awake (w : World) : Calls Try.prog 20 #[] w fun e w' => e = .returned (.bool true) ∧ Below w.heap.size w w' := by
  have hp : ∀ w, Calls Try.prog 21 #[.int .i64 300] w fun e w' => e = .returned (.string ⟨#[172, 2]⟩) ∧ Below w.heap.size w w' := by
    rw [← putB_300]; exact vari_Put 300 (by unfold I64; omega)
  have hq : ∀ w, Calls Try.prog 23 #[.int .i64 (-2)] w fun e w' => e = .returned (.string ⟨#[3]⟩) ∧ Below w.heap.size w w' := by
    rw [← sigB_m2]; exact vari_PutSigned (-2) (by unfold I64; omega)
  have hr : ∀ w : World, Calls Try.prog 29 #[.slice (some ⟨w.heap.size, 0, none⟩) 2 2] (w.alloc (.cells #[.int .i64 1, .int .i64 2] 3)) fun e w' => e = .returned (.string ⟨#[1, 2]⟩) ∧ Below w.heap.size w w' := by
    rw [← putsB_12]; exact vari_All2 1 2 (by unfold I64; omega) (by unfold I64; omega)
  have HP := Lib.hid hp
  have HQ := Lib.hid hq
  have HR := Lib.hid hr
  clear hp hq hr
  go_enter Try.func20, Try.ntmps20
  go_wp2_with fail
  refine (vari_Take_at ⟨#[172, 2, 120]⟩ (by decide) 300 2 0 (by decide +kernel) (by decide +kernel) _).mono ?_
  rintro e w1 ⟨rfl, rfl⟩
  go_wp2_with fail
  refine (vari_TakeSigned_at ⟨#[3]⟩ (by decide) (-2) 1 0 (by decide +kernel) (by decide +kernel) _).mono ?_
  rintro e w1 ⟨rfl, rfl⟩
  go_wp2_with fail
  refine (HP.out _).mono ?_
  rintro e w1 ⟨rfl, hb1⟩
  go_wp2_with fail
  refine (HQ.out _).mono ?_
  rintro e w2 ⟨rfl, hb2⟩
  go_wp2_with fail
  refine (HR.out _).mono ?_
  rintro e w3 ⟨rfl, hb3⟩
  go_wp2_with fail
  go_ret
  exact ⟨rfl, by (repeat (first | assumption | exact Below.refl _ _ | refine below_step (by assumption) ?_ | refine below_alloc' _ ?_ | refine below_drewN ?_ _ | refine Below.drew ?_))⟩

theorem law01_VariIs_long (a : SlI) (s : ByteArray) (h : ¬ (a.l.length ≤ 60 ∧ s.size ≤ 100)) (w : World) :
    Calls Try.prog 6 #[.slice a.A a.l.length a.c, .string s] w fun e w' => e = .returned (.bool true) ∧ Below w.heap.size w w' := by
  by_cases h1 : a.l.length ≤ 60
  · have h2 : ¬ s.size ≤ 100 := fun h2 => h ⟨h1, h2⟩
    clear h
    go_enter Try.func6, Try.ntmps6
    go_wp2_with (go_at_call 20; refine (law01_awake _).mono ?_; rintro e w1 ⟨rfl, hb1⟩)
    go_ret
    exact ⟨rfl, by (repeat (first | assumption | exact Below.refl _ _ | refine below_step (by assumption) ?_ | refine below_alloc' _ ?_ | refine below_drewN ?_ _ | refine Below.drew ?_))⟩
  · clear h
    go_enter Try.func6, Try.ntmps6
    go_wp2_with (go_at_call 20; refine (law01_awake _).mono ?_; rintro e w1 ⟨rfl, hb1⟩)
    go_ret
    exact ⟨rfl, by (repeat (first | assumption | exact Below.refl _ _ | refine below_step (by assumption) ?_ | refine below_alloc' _ ?_ | refine below_drewN ?_ _ | refine Below.drew ?_))⟩
set_option maxHeartbeats 1000000 in
set_option maxRecDepth 100000 in
theorem law01_VariIs_short (A : Option Addr) (c : Nat) (l : List Int) (s : ByteArray) (h1 : l.length ≤ 60) (h2 : s.size ≤ 100) (hi : ∀ n ∈ l, I64 n) (w : World) (hr : Rd w w.heap.size A (l.map (Value.int .i64))) :
    Calls Try.prog 6 #[.slice A l.length c, .string s] w fun e w' => e = .returned (.bool true) ∧ Below w.heap.size w w' := by
  have HI := Lib.hid hi
  have HR := Lib.hid hr
  clear hi hr
  go_enter Try.func6, Try.ntmps6
  go_wp2_with fail
  go_loopw [5] (fun i wr => ∃ k : Nat, k ≤ l.length ∧ i = .int .i64 k ∧ Below w.heap.size w wr) (fun i _ => l.length - (intOf i).toNat)
  case atStart => exact ⟨0, by omega, rfl, Below.refl _ _⟩
  case round =>
    obtain ⟨k, hk, rfl, hb⟩ := hrel
    by_cases hlt : k < l.length
    · obtain ⟨n, hk'⟩ : ∃ n, l[k]? = some n := ⟨l[k], List.getElem?_eq_getElem hlt⟩
      obtain ⟨ad, rfl, hadl, hcell⟩ := HR.out.below hb k (.int .i64 n) (by rw [List.getElem?_map, hk']; rfl)
      have hx := fun u : Later wr.heap.size wr => (u.h.cell (p := ad.add k) (by rw [addr_add_block]; have := hb.size; omega)).trans hcell
      have hI := HI.out n (List.mem_of_getElem? hk')
      have h3 := Lib.hid (vari_Put n hI)
      have h4 := Lib.hid (ref_Put n hI)
      have h5 := Lib.hid (vari_PutSigned n hI)
      have h6 := Lib.hid (ref_PutSigned n hI)
      clear hk' hI hcell
      have hi0 : (0 : Int) ≤ (k : Int) := by omega
      have hi1 : (k : Int) < (l.length : Int) := by omega
      go_wp2_with fail
      refine wp_region_later wr.heap.size (by kernel_rfl) (by kernel_rfl) ?_
      repeat (go_big_quiet_step ((first
        | (go_at_call 21; with_reducible exact later_of _ (Nat.le_refl _) (h3.out _))
        | (go_at_call 22; with_reducible exact later_of _ (Nat.le_refl _) (h4.out _))
        | (go_at_call 23; with_reducible exact later_of _ (Nat.le_refl _) (h5.out _))
        | (go_at_call 24; with_reducible exact later_of _ (Nat.le_refl _) (h6.out _)))))
      refine wpQuiet_nil ?_; intro _ hw'; obtain ⟨u, hw''⟩ := hw'; subst hw''
      go_wp2_with fail
      exact ⟨⟨k + 1, by omega, by go_num, below_later hb u⟩, by simp [intOf]; omega⟩
    · go_wp2_with (first
        | (go_at_call 25; refine (vari_Take _ (by unfold maxLen; omega) _).mono ?_; rintro e w1 ⟨rfl, rfl⟩; unfold tkI)
        | (go_at_call 26; refine (ref_Take _ (by omega) _).mono ?_; rintro e w1 ⟨rfl, rfl⟩; unfold tkI)
        | (go_at_call 27; refine (vari_TakeSigned _ (by unfold maxLen; omega) _).mono ?_; rintro e w1 ⟨rfl, rfl⟩; unfold tkI)
        | (go_at_call 28; refine (ref_TakeSigned _ (by omega) _).mono ?_; rintro e w1 ⟨rfl, rfl⟩; unfold tkI)
        | (go_at_call 29; refine (vari_All _ _ l (by omega) HI.out _ ((HR.out.below hb).more hb.size)).mono ?_; rintro e w2 ⟨rfl, hb2⟩)
        | (go_at_call 30; refine (ref_All _ _ l (by omega) HI.out _ ((HR.out.below (below_step hb2 hb)).more (below_step hb2 hb).size)).mono ?_; rintro e w3 ⟨rfl, hb3⟩)
        | (go_at_call 20; refine (law01_awake _).mono ?_; rintro e w4 ⟨rfl, hb4⟩))
      go_ret
      exact ⟨rfl, by (repeat (first | assumption | exact Below.refl _ _ | refine below_step (by assumption) ?_ | refine below_alloc' _ ?_ | refine below_drewN ?_ _ | refine Below.drew ?_))⟩
theorem law01_VariIs (a : SlI) (s : ByteArray) (hi : ∀ n ∈ a.l, I64 n) (w : World) (hr : Rd w w.heap.size a.A (a.l.map (Value.int .i64))) :
    Calls Try.prog 6 #[.slice a.A a.l.length a.c, .string s] w fun e w' => e = .returned (.bool true) ∧ Below w.heap.size w w' := by
  by_cases h : a.l.length ≤ 60 ∧ s.size ≤ 100
  · exact law01_VariIs_short a.A a.c a.l s h.1 h.2 hi w hr
  · exact law01_VariIs_long a s h w
end Go.Proofs.Ytaocmepffhochaa
