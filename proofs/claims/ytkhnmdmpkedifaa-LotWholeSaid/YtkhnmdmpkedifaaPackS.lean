/- Walks of layer 5: flags, ends, parts written and read. -/
import Derived.Test.YtkhnmdmpkedifaaPackR
import Derived.Test.YtkhnmdmpkedifaaReads
namespace Go.Proofs.Ytkhnmdmpkedifaa
open Go.ChangeShapes Go.WideShapes Go.ChangeAt Go.RowKit Go.Deep

set_option maxRecDepth 100000 in
theorem ref5_Flag (b : Nat) (r : PackP.St) (hl : r.1.length ≤ 100000) (w : World) (h : Rdr 55 b r w) :
    Calls Try.prog 74 #[.pointer (some ⟨b, 0, none⟩)] w (RdPost 55 b (PackP.rFlag r).2 (.bool (PackP.rFlag r).1) w) := by
  obtain ⟨l, er⟩ := r
  simp only at hl
  have c0 := h.c0
  have c1 := h.c1
  have f0 := h.f 0
  have f1 := h.f 1
  simp only at c0 c1
  by_cases he : er = 0
  · subst he
    cases l with
    | nil =>
      have hP := Lib.hid (h.set1 3)
      clear h
      go_enter Try.func74, Try.ntmps74
      go_wp2_with fail
      go_ret
      exact ⟨rfl, hP.out, grown_set _ _ _ _⟩
    | cons x l =>
      have hsp : PackP.rFlag (x :: l, 0) = if 1 < x.toNat then (false, (x :: l, 2)) else (x.toNat == 1, (l, 0)) := rfl
      rw [hsp]
      have hne : (⟨(x :: l).toArray⟩ : ByteArray).toList.isEmpty = false := by
        rw [ByteArray.toList_eq]; rfl
      have hsz := bl_size (x :: l)
      rw [List.length_cons] at hsz
      have hx : (⟨(x :: l).toArray⟩ : ByteArray)[0]'(by rw [hsz]; omega) = x := rfl
      have hP2 := Lib.hid (h.set1 2)
      have hD := bl_drop (x :: l) 1 (l.length + 1) rfl
      have hP0 := h.set0 l
      rw [show (⟨l.toArray⟩ : ByteArray) = ⟨((x :: l).drop 1).toArray⟩ from rfl, ← hD] at hP0
      generalize hS : (⟨(x :: l).toArray⟩ : ByteArray) = S at c0 hne hsz hP0
      have hi : 0 < S.size := by omega
      have HX := Lib.hid hx
      have HP0 := Lib.hid hP0
      have hxx : S[0].toNat = x.toNat := by rw [HX.out]
      by_cases q : 1 < x.toNat
      · rw [if_pos q]
        clear h hS hx hP0 hD
        go_enter Try.func74, Try.ntmps74
        go_wp2_with fail
        go_ret
        exact ⟨rfl, hP2.out, grown_set _ _ _ _⟩
      · rw [if_neg q]
        have hi1 : (1 : Int) ≤ (S.size : Int) := by omega
        clear h hS hx hP0 hD
        have h01 : x.toNat = 0 ∨ x.toNat = 1 := by omega
        rcases h01 with h0 | h0
        · have hb : (x.toNat == 1) = false := by rw [h0]; rfl
          rw [hb]
          go_enter Try.func74, Try.ntmps74
          go_wp2_with fail
          go_ret
          exact ⟨rfl, HP0.out, grown_set _ _ _ _⟩
        · have hb : (x.toNat == 1) = true := by rw [h0]; rfl
          rw [hb]
          go_enter Try.func74, Try.ntmps74
          go_wp2_with fail
          go_ret
          exact ⟨rfl, HP0.out, grown_set _ _ _ _⟩
  · rw [PackP.rFlag_err _ he]
    have hne2 : (er != 0) = true := by rw [bne_iff_ne]; exact he
    have hr := h
    clear h
    go_enter Try.func74, Try.ntmps74
    go_wp2_with fail
    go_ret
    exact ⟨rfl, hr, World.grownBy.refl _ _⟩
theorem ref5_End (b : Nat) (r : PackP.St) (w : World) (h : Rdr 55 b r w) :
    Calls Try.prog 35 #[.pointer (some ⟨b, 0, none⟩)] w fun e w' => e = .returned (.int .i64 (PackP.rEnd r)) ∧ w = w' := by
  obtain ⟨l, er⟩ := r
  have c0 := h.c0
  have c1 := h.c1
  simp only at c0 c1
  unfold PackP.rEnd
  simp only
  clear h
  by_cases he : er = 0
  · subst he
    cases l with
    | nil =>
      rw [if_neg (by simp)]
      go_enter Try.func35, Try.ntmps35
      go_wp2_with fail
      go_ret
      exact ⟨rfl, rfl⟩
    | cons x l =>
      rw [if_pos ⟨rfl, by simp⟩]
      have hne : (⟨(x :: l).toArray⟩ : ByteArray).toList.isEmpty = false := by
        rw [ByteArray.toList_eq]; rfl
      generalize (⟨(x :: l).toArray⟩ : ByteArray) = S at c0 hne
      go_enter Try.func35, Try.ntmps35
      go_wp2_with fail
      go_ret
      exact ⟨rfl, rfl⟩
  · rw [if_neg (fun h => he h.1)]
    have hne : (er == 0) = false := by rw [beq_eq_false_iff_ne]; exact he
    go_enter Try.func35, Try.ntmps35
    go_wp2_with fail
    go_ret
    exact ⟨rfl, rfl⟩

/-- a part's value -/
def ptV (p : PackP.Part) : Value := .agg #[.int .i64 p.kind, .int .i64 p.n, .string ⟨p.s.toArray⟩]
def PtOk (p : PackP.Part) : Prop := I64 p.kind ∧ I64 p.n ∧ p.s.length ≤ 300
set_option maxRecDepth 100000 in
theorem ref5_Put (p : PackP.Part) (hp : PtOk p) (w : World) :
    Calls Try.prog 27 #[ptV p] w fun e w' => e = .returned (.string ⟨(PackP.pbytes p).toArray⟩) ∧ Below w.heap.size w w' := by
  obtain ⟨kd, n, s⟩ := p
  obtain ⟨hk, hn, hs⟩ := hp
  simp only at hk hn hs
  unfold ptV PackP.pbytes
  simp only
  by_cases k1 : kd = 1
  · subst k1
    rw [if_pos rfl]
    have hP := ref_Put n hn
    rw [show putB n = ⟨(VariP.putI n).toArray⟩ from rfl] at hP
    generalize (⟨(VariP.putI n).toArray⟩ : ByteArray) = P at hP ⊢
    have HP := Lib.hid hP
    clear hP
    go_enter Try.func27, Try.ntmps27
    go_wp2_with (go_at_call 68; with_reducible refine (HP.out _).mono ?_; rintro e w1 ⟨rfl, hb1⟩)
    go_ret
    exact ⟨rfl, by (repeat (first | assumption | exact Below.refl _ _ | refine below_step (by assumption) ?_ | refine below_alloc' _ ?_ | refine below_drewN ?_ _ | refine Below.drew ?_))⟩
  rw [if_neg k1]
  by_cases k2 : kd = 2
  · subst k2
    rw [if_pos rfl]
    have hP := ref_PutSigned n hn
    rw [show sigB n = ⟨(VariP.put (VariP.zig n)).toArray⟩ from rfl] at hP
    generalize (⟨(VariP.put (VariP.zig n)).toArray⟩ : ByteArray) = P at hP ⊢
    have HP := Lib.hid hP
    clear hP
    go_enter Try.func27, Try.ntmps27
    go_wp2_with (go_at_call 69; with_reducible refine (HP.out _).mono ?_; rintro e w1 ⟨rfl, hb1⟩)
    go_ret
    exact ⟨rfl, by (repeat (first | assumption | exact Below.refl _ _ | refine below_step (by assumption) ?_ | refine below_alloc' _ ?_ | refine below_drewN ?_ _ | refine Below.drew ?_))⟩
  rw [if_neg k2]
  by_cases k3 : kd = 3
  · subst k3
    rw [if_pos rfl]
    have hsz := bl_size s
    have hP := ref_Put (s.length : Int) (by unfold I64; omega)
    have hT : (⟨(PackP.text s).toArray⟩ : ByteArray) = putB (s.length : Int) ++ ⟨s.toArray⟩ := bl_ext (by
      rw [ByteArray.data_append, Array.toList_append, putB_pos _ (by omega)]; rfl)
    have hps : (putB (s.length : Int)).size ≤ 10 := putB_size _
    rw [hT]
    clear hT
    generalize putB (s.length : Int) = P at hP hps ⊢
    rw [← hsz] at hP hs
    generalize (⟨s.toArray⟩ : ByteArray) = S at hsz hP hs ⊢
    have HP := Lib.hid hP
    have hx := fun u : Later (w.heap.size + 1) (w.alloc (.cells #[.int .i64 3, .int .i64 n, .string S] 48)) => (later_row u 2).trans (show (#[Value.int .i64 3, .int .i64 n, .string S] : Array Value)[2]? = some (.string S) from rfl)
    clear hP hsz
    go_enter Try.func27, Try.ntmps27
    go_wp2_with fail
    refine wp_region_later (w.heap.size + 1) (by kernel_rfl) (by kernel_rfl) ?_
    repeat (go_big_quiet_step ((go_at_call 68; with_reducible exact later_of _ (by rw [World.size_alloc]; exact Nat.le_refl _) (HP.out _))))
    refine wpQuiet_nil ?_; intro _ hw'; obtain ⟨u, hw''⟩ := hw'; subst hw''
    go_wp2_with fail
    go_ret
    exact ⟨rfl, (below_alloc' _ (Below.refl _ _)).trans (u.h.mono (by omega))⟩
  rw [if_neg k3]
  by_cases k4 : kd = 4
  · subst k4
    rw [if_pos rfl]
    by_cases h1 : n = 1
    · subst h1
      go_enter Try.func27, Try.ntmps27
      go_wp2_with fail
      go_ret
      exact ⟨rfl, by (repeat (first | assumption | exact Below.refl _ _ | refine below_step (by assumption) ?_ | refine below_alloc' _ ?_ | refine below_drewN ?_ _ | refine Below.drew ?_))⟩
    · have hb : (n == 1) = false := by rw [beq_eq_false_iff_ne]; exact h1
      rw [hb]
      go_enter Try.func27, Try.ntmps27
      go_wp2_with fail
      go_ret
      exact ⟨rfl, by (repeat (first | assumption | exact Below.refl _ _ | refine below_step (by assumption) ?_ | refine below_alloc' _ ?_ | refine below_drewN ?_ _ | refine Below.drew ?_))⟩
  rw [if_neg k4]
  have q1 : (kd == 1) = false := by rw [beq_eq_false_iff_ne]; exact k1
  have q2 : (kd == 2) = false := by rw [beq_eq_false_iff_ne]; exact k2
  have q3 : (kd == 3) = false := by rw [beq_eq_false_iff_ne]; exact k3
  have q4 : (kd == 4) = false := by rw [beq_eq_false_iff_ne]; exact k4
  go_enter Try.func27, Try.ntmps27
  go_wp2_with fail
  go_ret
  exact ⟨rfl, by (repeat (first | assumption | exact Below.refl _ _ | refine below_step (by assumption) ?_ | refine below_alloc' _ ?_ | refine below_drewN ?_ _ | refine Below.drew ?_))⟩

/-! the law's own writing and reading of parts -/
theorem WrPost.behind {b : Nat} {l : List UInt8} {v : Value} {w : World} {e : Ending} {w' : World} (o : Obj) (hlt : b < w.heap.size) (h : WrPost b l v (w.alloc o) e w') : WrPost b l v w e w' :=
  WrPost.after hlt ((Below.refl _ w).alloc (Nat.le_refl _) o) h
set_option maxRecDepth 100000 in
theorem law5_write (b : Nat) (l : List UInt8) (p : PackP.Part) (hp : PtOk p) (w : World) (h : Wr b l w) (hlen : l.length ≤ 100000000) :
    Calls Try.prog 26 #[.pointer (some ⟨b, 0, none⟩), ptV p] w (WrPost b (l ++ PackP.pbytes p) (.tuple #[]) w) := by
  obtain ⟨kd, n, s⟩ := p
  obtain ⟨hk, hn, hs⟩ := hp
  simp only at hk hn hs
  unfold ptV PackP.pbytes
  simp only
  have hlt := h.lt
  have ha := fun o => h.below ((Below.refl _ w).alloc (Nat.le_refl _) o)
  by_cases k1 : kd = 1
  · subst k1
    rw [if_pos rfl]
    have HP := Lib.hid (fun o => pack_Num b l n hn _ (ha o) hlen)
    clear h ha
    go_enter Try.func26, Try.ntmps26
    go_wp2_with (go_at_call 42; with_reducible refine (HP.out _).mono ?_; rintro e w1 ⟨rfl, h1⟩)
    go_end0
    exact WrPost.behind _ hlt ⟨rfl, h1⟩
  rw [if_neg k1]
  by_cases k2 : kd = 2
  · subst k2
    rw [if_pos rfl]
    have HP := Lib.hid (fun o => pack_Signed b l n hn _ (ha o) hlen)
    clear h ha
    go_enter Try.func26, Try.ntmps26
    go_wp2_with (go_at_call 67; with_reducible refine (HP.out _).mono ?_; rintro e w1 ⟨rfl, h1⟩)
    go_end0
    exact WrPost.behind _ hlt ⟨rfl, h1⟩
  rw [if_neg k2]
  by_cases k3 : kd = 3
  · subst k3
    rw [if_pos rfl]
    have HP := Lib.hid (fun o => pack_Text b l ⟨s.toArray⟩ (by rw [bl_size]; omega) _ (ha o) hlen)
    rw [show (⟨s.toArray⟩ : ByteArray).data.toList = s from rfl] at HP
    generalize (⟨s.toArray⟩ : ByteArray) = S at HP ⊢
    clear h ha
    go_enter Try.func26, Try.ntmps26
    go_wp2_with (go_at_call 63; with_reducible refine (HP.out _).mono ?_; rintro e w1 ⟨rfl, h1⟩)
    go_end0
    exact WrPost.behind _ hlt ⟨rfl, h1⟩
  rw [if_neg k3]
  by_cases k4 : kd = 4
  · subst k4
    rw [if_pos rfl]
    have HP := Lib.hid (fun o => pack_Flag b l (n == 1) _ (ha o) hlen)
    clear h ha
    go_enter Try.func26, Try.ntmps26
    go_wp2_with (go_at_call 64; with_reducible refine (HP.out _).mono ?_; rintro e w1 ⟨rfl, h1⟩)
    go_end0
    exact WrPost.behind _ hlt ⟨rfl, h1⟩
  rw [if_neg k4, List.append_nil]
  have q1 : (kd == 1) = false := by rw [beq_eq_false_iff_ne]; exact k1
  have q2 : (kd == 2) = false := by rw [beq_eq_false_iff_ne]; exact k2
  have q3 : (kd == 3) = false := by rw [beq_eq_false_iff_ne]; exact k3
  have q4 : (kd == 4) = false := by rw [beq_eq_false_iff_ne]; exact k4
  have HA := Lib.hid ha
  clear ha h
  go_enter Try.func26, Try.ntmps26
  go_wp2_with fail
  go_end0
  exact WrPost.behind _ hlt ⟨rfl, HA.out _, Below.refl _ _, Lib.OthersKept.refl _ _ _⟩
