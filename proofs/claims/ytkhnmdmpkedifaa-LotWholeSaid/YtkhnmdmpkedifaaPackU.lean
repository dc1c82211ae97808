/- Walks of layer 5: writers and readers that are nil; what must come. -/
import Derived.Test.YtkhnmdmpkedifaaPackT
namespace Go.Proofs.Ytkhnmdmpkedifaa
open Go.ChangeShapes Go.WideShapes Go.ChangeAt Go.RowKit Go.Deep

theorem pack_Num_wnil (n : Int) (hn : I64 n) (w : World) :
    Calls Try.prog 42 #[.pointer none, .int .i64 n] w fun e w' => e = .returned (.tuple #[]) ∧ Below w.heap.size w w' := by
  have HP := Lib.hid (vari_Put n hn)
  go_enter Try.func42, Try.ntmps42
  go_wp2_with (first
    | (go_at_call 78; with_reducible refine (HP.out _).mono ?_; rintro e w1 ⟨rfl, hb1⟩)
    | (go_at_call 77; with_reducible refine (pack_put_nil _ _).mono ?_; rintro e w1 ⟨rfl, rfl⟩))
  go_end0
  exact ⟨rfl, by (repeat (first | assumption | exact Below.refl _ _ | refine below_step (by assumption) ?_ | refine below_alloc' _ ?_ | refine below_drewN ?_ _ | refine Below.drew ?_))⟩
theorem pack_Signed_wnil (n : Int) (hn : I64 n) (w : World) :
    Calls Try.prog 67 #[.pointer none, .int .i64 n] w fun e w' => e = .returned (.tuple #[]) ∧ Below w.heap.size w w' := by
  have HP := Lib.hid (vari_PutSigned n hn)
  go_enter Try.func67, Try.ntmps67
  go_wp2_with (first
    | (go_at_call 95; with_reducible refine (HP.out _).mono ?_; rintro e w1 ⟨rfl, hb1⟩)
    | (go_at_call 77; with_reducible refine (pack_put_nil _ _).mono ?_; rintro e w1 ⟨rfl, rfl⟩))
  go_end0
  exact ⟨rfl, by (repeat (first | assumption | exact Below.refl _ _ | refine below_step (by assumption) ?_ | refine below_alloc' _ ?_ | refine below_drewN ?_ _ | refine Below.drew ?_))⟩
theorem pack_Text_wnil (s : ByteArray) (hs : s.size ≤ 100000000) (w : World) :
    Calls Try.prog 63 #[.pointer none, .string s] w fun e w' => e = .returned (.tuple #[]) ∧ Below w.heap.size w w' := by
  have hP := vari_Put (s.size : Int) (by unfold I64; omega)
  have hps : (putB (s.size : Int)).size ≤ 10 := putB_size _
  generalize putB (s.size : Int) = P at hP hps
  have HP := Lib.hid hP
  clear hP
  go_enter Try.func63, Try.ntmps63
  go_wp2_with (first
    | (go_at_call 78; with_reducible refine (HP.out _).mono ?_; rintro e w1 ⟨rfl, hb1⟩)
    | (go_at_call 77; with_reducible refine (pack_put_nil _ _).mono ?_; rintro e w1 ⟨rfl, rfl⟩))
  go_end0
  exact ⟨rfl, by (repeat (first | assumption | exact Below.refl _ _ | refine below_step (by assumption) ?_ | refine below_alloc' _ ?_ | refine below_drewN ?_ _ | refine Below.drew ?_))⟩
theorem pack_Flag_wnil (is : Bool) (w : World) :
    Calls Try.prog 64 #[.pointer none, .bool is] w fun e w' => e = .returned (.tuple #[]) ∧ w = w' := by
  cases is with
  | true =>
    go_enter Try.func64, Try.ntmps64
    go_wp2_with (go_at_call 77; with_reducible refine (pack_put_nil _ _).mono ?_; rintro e w1 ⟨rfl, rfl⟩)
    go_end0
    exact ⟨rfl, rfl⟩
  | false =>
    go_enter Try.func64, Try.ntmps64
    go_wp2_with (go_at_call 77; with_reducible refine (pack_put_nil _ _).mono ?_; rintro e w1 ⟨rfl, rfl⟩)
    go_end0
    exact ⟨rfl, rfl⟩
theorem law5_write_nil (p : PackP.Part) (hp : PtOk p) (w : World) :
    Calls Try.prog 26 #[.pointer none, ptV p] w fun e w' => e = .returned (.tuple #[]) ∧ Below w.heap.size w w' := by
  obtain ⟨kd, n, s⟩ := p
  obtain ⟨hk, hn, hs⟩ := hp
  simp only at hk hn hs
  unfold ptV
  simp only
  have hsz := bl_size s
  generalize (⟨s.toArray⟩ : ByteArray) = S at hsz ⊢
  have hS : S.size ≤ 100000000 := by omega
  have HN := Lib.hid (pack_Num_wnil n hn)
  have HG := Lib.hid (pack_Signed_wnil n hn)
  have HT := Lib.hid (pack_Text_wnil S hS)
  by_cases k1 : kd = 1
  · subst k1
    go_enter Try.func26, Try.ntmps26
    go_wp2_with (go_at_call 42; with_reducible refine (HN.out _).mono ?_; rintro e w1 ⟨rfl, hb1⟩)
    go_end0
    exact ⟨rfl, by (repeat (first | assumption | exact Below.refl _ _ | refine below_step (by assumption) ?_ | refine below_alloc' _ ?_ | refine below_drewN ?_ _ | refine Below.drew ?_))⟩
  by_cases k2 : kd = 2
  · subst k2
    go_enter Try.func26, Try.ntmps26
    go_wp2_with (go_at_call 67; with_reducible refine (HG.out _).mono ?_; rintro e w1 ⟨rfl, hb1⟩)
    go_end0
    exact ⟨rfl, by (repeat (first | assumption | exact Below.refl _ _ | refine below_step (by assumption) ?_ | refine below_alloc' _ ?_ | refine below_drewN ?_ _ | refine Below.drew ?_))⟩
  by_cases k3 : kd = 3
  · subst k3
    go_enter Try.func26, Try.ntmps26
    go_wp2_with (go_at_call 63; with_reducible refine (HT.out _).mono ?_; rintro e w1 ⟨rfl, hb1⟩)
    go_end0
    exact ⟨rfl, by (repeat (first | assumption | exact Below.refl _ _ | refine below_step (by assumption) ?_ | refine below_alloc' _ ?_ | refine below_drewN ?_ _ | refine Below.drew ?_))⟩
  by_cases k4 : kd = 4
  · subst k4
    go_enter Try.func26, Try.ntmps26
    go_wp2_with (go_at_call 64; with_reducible refine (pack_Flag_wnil _ _).mono ?_; rintro e w1 ⟨rfl, rfl⟩)
    go_end0
    exact ⟨rfl, by (repeat (first | assumption | exact Below.refl _ _ | refine below_step (by assumption) ?_ | refine below_alloc' _ ?_ | refine below_drewN ?_ _ | refine Below.drew ?_))⟩
  have q1 : (kd == 1) = false := by rw [beq_eq_false_iff_ne]; exact k1
  have q2 : (kd == 2) = false := by rw [beq_eq_false_iff_ne]; exact k2
  have q3 : (kd == 3) = false := by rw [beq_eq_false_iff_ne]; exact k3
  have q4 : (kd == 4) = false := by rw [beq_eq_false_iff_ne]; exact k4
  go_enter Try.func26, Try.ntmps26
  go_wp2_with fail
  go_end0
  exact ⟨rfl, by (repeat (first | assumption | exact Below.refl _ _ | refine below_step (by assumption) ?_ | refine below_alloc' _ ?_ | refine below_drewN ?_ _ | refine Below.drew ?_))⟩
theorem pack_number_nil (f : Nat) (w : World) :
    Calls Try.prog 79 #[.pointer none, .func (.func f) #[] #[]] w fun e w' => e = .returned (.int .i64 0) ∧ w = w' := by
  go_enter Try.func79, Try.ntmps79
  go_wp2_with (go_at_call 32; with_reducible refine (pack_Err_nil _).mono ?_; rintro e w1 ⟨rfl, rfl⟩)
  go_ret
  exact ⟨rfl, rfl⟩
theorem pack_End_nil (w : World) :
    Calls Try.prog 34 #[.pointer none] w fun e w' => e = .returned (.int .i64 0) ∧ w = w' := by
  go_enter Try.func34, Try.ntmps34
  go_wp2_with (first
    | (go_at_call 32; with_reducible refine (pack_Err_nil _).mono ?_; rintro e w1 ⟨rfl, rfl⟩)
    | (go_at_call 33; with_reducible refine (pack_Left_nil _).mono ?_; rintro e w1 ⟨rfl, rfl⟩))
  go_ret
  exact ⟨rfl, rfl⟩
theorem pack_Num_nil (w : World) :
    Calls Try.prog 44 #[.pointer none] w fun e w' => e = .returned (.int .i64 0) ∧ w = w' := by
  go_enter Try.func44, Try.ntmps44
  go_wp2_with (go_at_call 79; with_reducible refine (pack_number_nil _ _).mono ?_; rintro e w1 ⟨rfl, rfl⟩)
  go_ret
  exact ⟨rfl, rfl⟩
theorem pack_Signed_nil (w : World) :
    Calls Try.prog 71 #[.pointer none] w fun e w' => e = .returned (.int .i64 0) ∧ w = w' := by
  go_enter Try.func71, Try.ntmps71
  go_wp2_with (go_at_call 79; with_reducible refine (pack_number_nil _ _).mono ?_; rintro e w1 ⟨rfl, rfl⟩)
  go_ret
  exact ⟨rfl, rfl⟩
theorem pack_Text_nil (most : Int) (w : World) :
    Calls Try.prog 65 #[.pointer none, .int .i64 most] w fun e w' => e = .returned (.string ⟨#[]⟩) ∧ w = w' := by
  go_enter Try.func65, Try.ntmps65
  go_wp2_with fail
  go_ret
  exact ⟨rfl, rfl⟩
theorem pack_Flag_nil (w : World) :
    Calls Try.prog 66 #[.pointer none] w fun e w' => e = .returned (.bool false) ∧ w = w' := by
  go_enter Try.func66, Try.ntmps66
  go_wp2_with fail
  go_ret
  exact ⟨rfl, rfl⟩
theorem law5_read_nil (kind most : Int) (w : World) :
    Calls Try.prog 30 #[.pointer none, .int .i64 kind, .int .i64 most] w fun e w' => (∃ k, e = .returned (.agg #[.int .i64 k, .int .i64 0, .string ⟨#[]⟩])) ∧ Below w.heap.size w w' := by
  have hbx := fun k : Int => (box3 (World.grownBy.refl (w.alloc (.cells #[.int .i64 k, .int .i64 0, .string ⟨#[]⟩] 48)) none) (by simp)).1
  by_cases k1 : kind = 1
  · subst k1
    obtain ⟨c0, c1, c2⟩ := hbx 1
    go_enter Try.func30, Try.ntmps30
    go_wp2_with (go_at_call 44; with_reducible refine (pack_Num_nil _).mono ?_; rintro e w1 ⟨rfl, rfl⟩)
    exact bodyPost_ret (v := .agg #[.int .i64 1, .int .i64 0, .string ⟨#[]⟩]) (by simp [results, Try.results30, go_sem, c0, c1, c2]) rfl ⟨⟨_, rfl⟩, by (repeat (first | assumption | exact Below.refl _ _ | refine below_step (by assumption) ?_ | refine below_alloc' _ ?_ | refine below_drewN ?_ _ | refine Below.drew ?_))⟩
  by_cases k2 : kind = 2
  · subst k2
    obtain ⟨c0, c1, c2⟩ := hbx 2
    go_enter Try.func30, Try.ntmps30
    go_wp2_with (go_at_call 71; with_reducible refine (pack_Signed_nil _).mono ?_; rintro e w1 ⟨rfl, rfl⟩)
    exact bodyPost_ret (v := .agg #[.int .i64 2, .int .i64 0, .string ⟨#[]⟩]) (by simp [results, Try.results30, go_sem, c0, c1, c2]) rfl ⟨⟨_, rfl⟩, by (repeat (first | assumption | exact Below.refl _ _ | refine below_step (by assumption) ?_ | refine below_alloc' _ ?_ | refine below_drewN ?_ _ | refine Below.drew ?_))⟩
  by_cases k3 : kind = 3
  · subst k3
    obtain ⟨c0, c1, c2⟩ := hbx 3
    go_enter Try.func30, Try.ntmps30
    go_wp2_with (go_at_call 65; with_reducible refine (pack_Text_nil _ _).mono ?_; rintro e w1 ⟨rfl, rfl⟩)
    exact bodyPost_ret (v := .agg #[.int .i64 3, .int .i64 0, .string ⟨#[]⟩]) (by simp [results, Try.results30, go_sem, c0, c1, c2]) rfl ⟨⟨_, rfl⟩, by (repeat (first | assumption | exact Below.refl _ _ | refine below_step (by assumption) ?_ | refine below_alloc' _ ?_ | refine below_drewN ?_ _ | refine Below.drew ?_))⟩
  by_cases k4 : kind = 4
  · subst k4
    obtain ⟨c0, c1, c2⟩ := hbx 4
    go_enter Try.func30, Try.ntmps30
    go_wp2_with (go_at_call 66; with_reducible refine (pack_Flag_nil _).mono ?_; rintro e w1 ⟨rfl, rfl⟩)
    exact bodyPost_ret (v := .agg #[.int .i64 4, .int .i64 0, .string ⟨#[]⟩]) (by simp [results, Try.results30, go_sem, c0, c1, c2]) rfl ⟨⟨_, rfl⟩, by (repeat (first | assumption | exact Below.refl _ _ | refine below_step (by assumption) ?_ | refine below_alloc' _ ?_ | refine below_drewN ?_ _ | refine Below.drew ?_))⟩
  have q1 : (kind == 1) = false := by rw [beq_eq_false_iff_ne]; exact k1
  have q2 : (kind == 2) = false := by rw [beq_eq_false_iff_ne]; exact k2
  have q3 : (kind == 3) = false := by rw [beq_eq_false_iff_ne]; exact k3
  have q4 : (kind == 4) = false := by rw [beq_eq_false_iff_ne]; exact k4
  obtain ⟨c0, c1, c2⟩ := hbx 0
  go_enter Try.func30, Try.ntmps30
  go_wp2_with fail
  exact bodyPost_ret (v := .agg #[.int .i64 0, .int .i64 0, .string ⟨#[]⟩]) (by simp [results, Try.results30, go_sem, c0, c1, c2]) rfl ⟨⟨_, rfl⟩, by (repeat (first | assumption | exact Below.refl _ _ | refine below_step (by assumption) ?_ | refine below_alloc' _ ?_ | refine below_drewN ?_ _ | refine Below.drew ?_))⟩
