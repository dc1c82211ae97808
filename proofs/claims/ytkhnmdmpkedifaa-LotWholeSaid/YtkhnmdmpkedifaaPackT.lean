/- Walks of layer 5: parts read. -/
import Derived.Test.YtkhnmdmpkedifaaPackS
namespace Go.Proofs.Ytkhnmdmpkedifaa
open Go.ChangeShapes Go.WideShapes Go.ChangeAt Go.RowKit Go.Deep

/-- a box of three cells behind a call that turned another block alone -/
theorem box3 {w W : World} {t : TypeId} {x y z : Value} {row : Option Nat} (hg : (w.alloc (.cells #[x, y, z] t)).grownBy W row) (hne : some w.heap.size ≠ row) :
    (W.cell? ⟨w.heap.size, 0, none⟩ = some x ∧ W.cell? ⟨w.heap.size, 1, none⟩ = some y ∧ W.cell? ⟨w.heap.size, 2, none⟩ = some z) ∧ (W.frozen? ⟨w.heap.size, 0, none⟩ = false ∧ W.frozen? ⟨w.heap.size, 1, none⟩ = false ∧ W.frozen? ⟨w.heap.size, 2, none⟩ = false) := by
  have hk : W.heap[w.heap.size]? = some (.cells #[x, y, z] t (0, 0)) := (hg.block w.heap.size (by rw [World.size_alloc]; omega) hne).trans (heap_alloc_new w _)
  refine ⟨⟨?_, ?_, ?_⟩, Lib.frozen_of_heap hk 0, Lib.frozen_of_heap hk 1, Lib.frozen_of_heap hk 2⟩
  · rw [cell_of_row _ _ _ _ t _ hk]; rfl
  · rw [cell_of_row _ _ _ _ t _ hk]; rfl
  · rw [cell_of_row _ _ _ _ t _ hk]; rfl
theorem grown_box {w W : World} {o : Obj} {b : Nat} (hg : (w.alloc o).grownBy W (some b)) : w.grownBy W (some b) := grown_trans (World.grownBy_alloc _ _ _) hg
theorem grown_own {w W : World} {row : Option Nat} (hg : w.grownBy W row) (j : Nat) (v : Value) : w.grownBy (W.setCell ⟨w.heap.size, j, none⟩ v) row :=
  ⟨hg.os, hg.tape, hg.output, by simp [World.setCell]; exact hg.size, fun k hk hr => (Below.heap_setCell _ _ _ k (by show k ≠ w.heap.size; omega)).trans (hg.block k hk hr)⟩
theorem Rdr.other {T : TypeId} {b : Nat} {r : PackP.St} {w : World} (h : Rdr T b r w) (B j : Nat) (v : Value) (hne : b ≠ B) : Rdr T b r (w.setCell ⟨B, j, none⟩ v) := (Below.heap_setCell _ _ _ b hne).trans h

set_option maxRecDepth 100000 in
theorem law5_read1 (b : Nat) (most : Int) (r : PackP.St) (hl : r.1.length ≤ 100000) (w : World) (h : Rdr 59 b r w) :
    Calls Try.prog 30 #[.pointer (some ⟨b, 0, none⟩), .int .i64 1, .int .i64 most] w fun e w' => e = .returned (ptV (PackP.pread 1 most r).1) ∧ Rdr 59 b (PackP.pread 1 most r).2 w' ∧ w.grownBy w' (some b) := by
  have hlt := h.lt
  have hne : ¬ (b = w.heap.size) := by omega
  have HN := Lib.hid (fun o => pack_Num_at b r (by omega) (w.alloc o) (h.kept (World.grownBy_alloc w o none) (by simp)))
  clear h
  go_enter Try.func30, Try.ntmps30
  go_wp2_with (go_at_call 44; with_reducible refine (HN.out _).mono ?_; rintro e w1 ⟨rfl, h1, g1⟩; obtain ⟨⟨c0, c1, c2⟩, d0, d1, d2⟩ := box3 g1 (by simp; omega))
  refine bodyPost_ret (v := ptV ⟨1, (PackP.rNum r).1, []⟩) (by simp [results, Try.results30, go_sem, ptV, c0, c1, c2]) rfl ⟨rfl, ?_, grown_own (grown_own (grown_own (grown_box g1) _ _) _ _) _ _⟩
  exact ((h1.other _ _ _ hne).other _ _ _ hne).other _ _ _ hne

set_option maxRecDepth 100000 in
theorem law5_read2 (b : Nat) (most : Int) (r : PackP.St) (hl : r.1.length ≤ 100000) (w : World) (h : Rdr 59 b r w) :
    Calls Try.prog 30 #[.pointer (some ⟨b, 0, none⟩), .int .i64 2, .int .i64 most] w fun e w' => e = .returned (ptV (PackP.pread 2 most r).1) ∧ Rdr 59 b (PackP.pread 2 most r).2 w' ∧ w.grownBy w' (some b) := by
  have hlt := h.lt
  have hne : ¬ (b = w.heap.size) := by omega
  have HN := Lib.hid (fun o => pack_Signed_at b r (by omega) (w.alloc o) (h.kept (World.grownBy_alloc w o none) (by simp)))
  clear h
  go_enter Try.func30, Try.ntmps30
  go_wp2_with (go_at_call 71; with_reducible refine (HN.out _).mono ?_; rintro e w1 ⟨rfl, h1, g1⟩; obtain ⟨⟨c0, c1, c2⟩, d0, d1, d2⟩ := box3 g1 (by simp; omega))
  refine bodyPost_ret (v := ptV ⟨2, (PackP.rSigned r).1, []⟩) (by simp [results, Try.results30, go_sem, ptV, c0, c1, c2]) rfl ⟨rfl, ?_, grown_own (grown_own (grown_own (grown_box g1) _ _) _ _) _ _⟩
  exact ((h1.other _ _ _ hne).other _ _ _ hne).other _ _ _ hne

set_option maxRecDepth 100000 in
theorem law5_read3 (b : Nat) (most : Int) (r : PackP.St) (hl : r.1.length ≤ 100000) (w : World) (h : Rdr 59 b r w) :
    Calls Try.prog 30 #[.pointer (some ⟨b, 0, none⟩), .int .i64 3, .int .i64 most] w fun e w' => e = .returned (ptV (PackP.pread 3 most r).1) ∧ Rdr 59 b (PackP.pread 3 most r).2 w' ∧ w.grownBy w' (some b) := by
  have hlt := h.lt
  have hne : ¬ (b = w.heap.size) := by omega
  have HN := Lib.hid (fun o => pack_Text_at b most r (by omega) (w.alloc o) (h.kept (World.grownBy_alloc w o none) (by simp)))
  clear h
  go_enter Try.func30, Try.ntmps30
  go_wp2_with (go_at_call 65; with_reducible refine (HN.out _).mono ?_; rintro e w1 ⟨rfl, h1, g1⟩; obtain ⟨⟨c0, c1, c2⟩, d0, d1, d2⟩ := box3 g1 (by simp; omega))
  refine bodyPost_ret (v := ptV ⟨3, 0, (PackP.rText most r).1⟩) (by simp [results, Try.results30, go_sem, ptV, c0, c1, c2]) rfl ⟨rfl, ?_, grown_own (grown_own (grown_own (grown_box g1) _ _) _ _) _ _⟩
  exact ((h1.other _ _ _ hne).other _ _ _ hne).other _ _ _ hne

set_option maxRecDepth 100000 in
theorem law5_read4 (b : Nat) (most : Int) (r : PackP.St) (hl : r.1.length ≤ 100000) (w : World) (h : Rdr 59 b r w) :
    Calls Try.prog 30 #[.pointer (some ⟨b, 0, none⟩), .int .i64 4, .int .i64 most] w fun e w' => e = .returned (ptV (PackP.pread 4 most r).1) ∧ Rdr 59 b (PackP.pread 4 most r).2 w' ∧ w.grownBy w' (some b) := by
  have hlt := h.lt
  have hne : ¬ (b = w.heap.size) := by omega
  have hsp : PackP.pread 4 most r = (⟨4, if (PackP.rFlag r).1 then 1 else 0, []⟩, (PackP.rFlag r).2) := rfl
  rw [hsp]
  have HN := Lib.hid (fun o => pack_Flag_at b r (by omega) (w.alloc o) (h.kept (World.grownBy_alloc w o none) (by simp)))
  clear h hsp
  generalize PackP.rFlag r = fr at HN ⊢
  obtain ⟨is, r'⟩ := fr
  cases is with
  | true =>
    go_enter Try.func30, Try.ntmps30
    go_wp2_with (go_at_call 66; with_reducible refine (HN.out _).mono ?_; rintro e w1 ⟨rfl, h1, g1⟩; obtain ⟨⟨c0, c1, c2⟩, d0, d1, d2⟩ := box3 g1 (by simp; omega))
    refine bodyPost_ret (v := ptV ⟨4, 1, []⟩) (by simp [results, Try.results30, go_sem, ptV, c0, c1, c2]) rfl ⟨rfl, ?_, grown_own (grown_own (grown_own (grown_box g1) _ _) _ _) _ _⟩
    exact ((h1.other _ _ _ hne).other _ _ _ hne).other _ _ _ hne
  | false =>
    go_enter Try.func30, Try.ntmps30
    go_wp2_with (go_at_call 66; with_reducible refine (HN.out _).mono ?_; rintro e w1 ⟨rfl, h1, g1⟩; obtain ⟨⟨c0, c1, c2⟩, d0, d1, d2⟩ := box3 g1 (by simp; omega))
    refine bodyPost_ret (v := ptV ⟨4, 0, []⟩) (by simp [results, Try.results30, go_sem, ptV, c0, c1, c2]) rfl ⟨rfl, ?_, grown_own (grown_own (grown_own (grown_box g1) _ _) _ _) _ _⟩
    exact ((h1.other _ _ _ hne).other _ _ _ hne).other _ _ _ hne

set_option maxRecDepth 100000 in
theorem law5_read0 (kind : Int) (k1 : kind ≠ 1) (k2 : kind ≠ 2) (k3 : kind ≠ 3) (k4 : kind ≠ 4) (b : Nat) (most : Int) (r : PackP.St) (w : World) (h : Rdr 59 b r w) :
    Calls Try.prog 30 #[.pointer (some ⟨b, 0, none⟩), .int .i64 kind, .int .i64 most] w fun e w' => e = .returned (ptV PackP.Part.zero) ∧ Rdr 59 b r w' ∧ w.grownBy w' (some b) := by
  have hlt := h.lt
  have hne : ¬ (b = w.heap.size) := by omega
  have q1 : (kind == 1) = false := by rw [beq_eq_false_iff_ne]; exact k1
  have q2 : (kind == 2) = false := by rw [beq_eq_false_iff_ne]; exact k2
  have q3 : (kind == 3) = false := by rw [beq_eq_false_iff_ne]; exact k3
  have q4 : (kind == 4) = false := by rw [beq_eq_false_iff_ne]; exact k4
  have HR := Lib.hid (fun o => h.kept (World.grownBy_alloc w o none) (by simp))
  clear h k1 k2 k3 k4
  go_enter Try.func30, Try.ntmps30
  go_wp2_with fail
  obtain ⟨⟨c0, c1, c2⟩, _⟩ := box3 (World.grownBy.refl (w.alloc (.cells #[.int .i64 0, .int .i64 0, .string ⟨#[]⟩] 48)) none) (by simp)
  refine bodyPost_ret (v := ptV PackP.Part.zero) (by simp [results, Try.results30, go_sem, ptV, PackP.Part.zero, c0, c1, c2]) rfl ⟨rfl, HR.out _, World.grownBy_alloc _ _ _⟩
theorem law5_read (kind most : Int) (b : Nat) (r : PackP.St) (hl : r.1.length ≤ 100000) (w : World) (h : Rdr 59 b r w) :
    Calls Try.prog 30 #[.pointer (some ⟨b, 0, none⟩), .int .i64 kind, .int .i64 most] w fun e w' => e = .returned (ptV (PackP.pread kind most r).1) ∧ Rdr 59 b (PackP.pread kind most r).2 w' ∧ w.grownBy w' (some b) := by
  by_cases k1 : kind = 1
  · subst k1; exact law5_read1 b most r hl w h
  by_cases k2 : kind = 2
  · subst k2; exact law5_read2 b most r hl w h
  by_cases k3 : kind = 3
  · subst k3; exact law5_read3 b most r hl w h
  by_cases k4 : kind = 4
  · subst k4; exact law5_read4 b most r hl w h
  rw [show PackP.pread kind most r = (PackP.Part.zero, r) by unfold PackP.pread; rw [if_neg k1, if_neg k2, if_neg k3, if_neg k4]]
  exact law5_read0 kind k1 k2 k3 k4 b most r w h

set_option maxRecDepth 100000 in
theorem ref5_read1 (b : Nat) (most : Int) (r : PackP.St) (hl : r.1.length ≤ 100000) (w : World) (h : Rdr 55 b r w) :
    Calls Try.prog 31 #[.pointer (some ⟨b, 0, none⟩), .int .i64 1, .int .i64 most] w fun e w' => e = .returned (ptV (PackP.pread 1 most r).1) ∧ Rdr 55 b (PackP.pread 1 most r).2 w' ∧ w.grownBy w' (some b) := by
  have hlt := h.lt
  have hne : ¬ (b = w.heap.size) := by omega
  have HN := Lib.hid (fun o => ref5_Num b r (by omega) (w.alloc o) (h.kept (World.grownBy_alloc w o none) (by simp)))
  clear h
  go_enter Try.func31, Try.ntmps31
  go_wp2_with (go_at_call 45; with_reducible refine (HN.out _).mono ?_; rintro e w1 ⟨rfl, h1, g1⟩; obtain ⟨⟨c0, c1, c2⟩, d0, d1, d2⟩ := box3 g1 (by simp; omega))
  refine bodyPost_ret (v := ptV ⟨1, (PackP.rNum r).1, []⟩) (by simp [results, Try.results31, go_sem, ptV, c0, c1, c2]) rfl ⟨rfl, ?_, grown_own (grown_own (grown_own (grown_box g1) _ _) _ _) _ _⟩
  exact ((h1.other _ _ _ hne).other _ _ _ hne).other _ _ _ hne

set_option maxRecDepth 100000 in
theorem ref5_read2 (b : Nat) (most : Int) (r : PackP.St) (hl : r.1.length ≤ 100000) (w : World) (h : Rdr 55 b r w) :
    Calls Try.prog 31 #[.pointer (some ⟨b, 0, none⟩), .int .i64 2, .int .i64 most] w fun e w' => e = .returned (ptV (PackP.pread 2 most r).1) ∧ Rdr 55 b (PackP.pread 2 most r).2 w' ∧ w.grownBy w' (some b) := by
  have hlt := h.lt
  have hne : ¬ (b = w.heap.size) := by omega
  have HN := Lib.hid (fun o => ref5_Signed b r (by omega) (w.alloc o) (h.kept (World.grownBy_alloc w o none) (by simp)))
  clear h
  go_enter Try.func31, Try.ntmps31
  go_wp2_with (go_at_call 72; with_reducible refine (HN.out _).mono ?_; rintro e w1 ⟨rfl, h1, g1⟩; obtain ⟨⟨c0, c1, c2⟩, d0, d1, d2⟩ := box3 g1 (by simp; omega))
  refine bodyPost_ret (v := ptV ⟨2, (PackP.rSigned r).1, []⟩) (by simp [results, Try.results31, go_sem, ptV, c0, c1, c2]) rfl ⟨rfl, ?_, grown_own (grown_own (grown_own (grown_box g1) _ _) _ _) _ _⟩
  exact ((h1.other _ _ _ hne).other _ _ _ hne).other _ _ _ hne

set_option maxRecDepth 100000 in
theorem ref5_read3 (b : Nat) (most : Int) (r : PackP.St) (hl : r.1.length ≤ 100000) (w : World) (h : Rdr 55 b r w) :
    Calls Try.prog 31 #[.pointer (some ⟨b, 0, none⟩), .int .i64 3, .int .i64 most] w fun e w' => e = .returned (ptV (PackP.pread 3 most r).1) ∧ Rdr 55 b (PackP.pread 3 most r).2 w' ∧ w.grownBy w' (some b) := by
  have hlt := h.lt
  have hne : ¬ (b = w.heap.size) := by omega
  have HN := Lib.hid (fun o => ref5_Text b most r (by omega) (w.alloc o) (h.kept (World.grownBy_alloc w o none) (by simp)))
  clear h
  go_enter Try.func31, Try.ntmps31
  go_wp2_with (go_at_call 73; with_reducible refine (HN.out _).mono ?_; rintro e w1 ⟨rfl, h1, g1⟩; obtain ⟨⟨c0, c1, c2⟩, d0, d1, d2⟩ := box3 g1 (by simp; omega))
  refine bodyPost_ret (v := ptV ⟨3, 0, (PackP.rText most r).1⟩) (by simp [results, Try.results31, go_sem, ptV, c0, c1, c2]) rfl ⟨rfl, ?_, grown_own (grown_own (grown_own (grown_box g1) _ _) _ _) _ _⟩
  exact ((h1.other _ _ _ hne).other _ _ _ hne).other _ _ _ hne

set_option maxRecDepth 100000 in
theorem ref5_read4 (b : Nat) (most : Int) (r : PackP.St) (hl : r.1.length ≤ 100000) (w : World) (h : Rdr 55 b r w) :
    Calls Try.prog 31 #[.pointer (some ⟨b, 0, none⟩), .int .i64 4, .int .i64 most] w fun e w' => e = .returned (ptV (PackP.pread 4 most r).1) ∧ Rdr 55 b (PackP.pread 4 most r).2 w' ∧ w.grownBy w' (some b) := by
  have hlt := h.lt
  have hne : ¬ (b = w.heap.size) := by omega
  have hsp : PackP.pread 4 most r = (⟨4, if (PackP.rFlag r).1 then 1 else 0, []⟩, (PackP.rFlag r).2) := rfl
  rw [hsp]
  have HN := Lib.hid (fun o => ref5_Flag b r (by omega) (w.alloc o) (h.kept (World.grownBy_alloc w o none) (by simp)))
  clear h hsp
  generalize PackP.rFlag r = fr at HN ⊢
  obtain ⟨is, r'⟩ := fr
  cases is with
  | true =>
    go_enter Try.func31, Try.ntmps31
    go_wp2_with (go_at_call 74; with_reducible refine (HN.out _).mono ?_; rintro e w1 ⟨rfl, h1, g1⟩; obtain ⟨⟨c0, c1, c2⟩, d0, d1, d2⟩ := box3 g1 (by simp; omega))
    refine bodyPost_ret (v := ptV ⟨4, 1, []⟩) (by simp [results, Try.results31, go_sem, ptV, c0, c1, c2]) rfl ⟨rfl, ?_, grown_own (grown_own (grown_own (grown_box g1) _ _) _ _) _ _⟩
    exact ((h1.other _ _ _ hne).other _ _ _ hne).other _ _ _ hne
  | false =>
    go_enter Try.func31, Try.ntmps31
    go_wp2_with (go_at_call 74; with_reducible refine (HN.out _).mono ?_; rintro e w1 ⟨rfl, h1, g1⟩; obtain ⟨⟨c0, c1, c2⟩, d0, d1, d2⟩ := box3 g1 (by simp; omega))
    refine bodyPost_ret (v := ptV ⟨4, 0, []⟩) (by simp [results, Try.results31, go_sem, ptV, c0, c1, c2]) rfl ⟨rfl, ?_, grown_own (grown_own (grown_own (grown_box g1) _ _) _ _) _ _⟩
    exact ((h1.other _ _ _ hne).other _ _ _ hne).other _ _ _ hne

set_option maxRecDepth 100000 in
theorem ref5_read0 (kind : Int) (k1 : kind ≠ 1) (k2 : kind ≠ 2) (k3 : kind ≠ 3) (k4 : kind ≠ 4) (b : Nat) (most : Int) (r : PackP.St) (w : World) (h : Rdr 55 b r w) :
    Calls Try.prog 31 #[.pointer (some ⟨b, 0, none⟩), .int .i64 kind, .int .i64 most] w fun e w' => e = .returned (ptV PackP.Part.zero) ∧ Rdr 55 b r w' ∧ w.grownBy w' (some b) := by
  have hlt := h.lt
  have hne : ¬ (b = w.heap.size) := by omega
  have q1 : (kind == 1) = false := by rw [beq_eq_false_iff_ne]; exact k1
  have q2 : (kind == 2) = false := by rw [beq_eq_false_iff_ne]; exact k2
  have q3 : (kind == 3) = false := by rw [beq_eq_false_iff_ne]; exact k3
  have q4 : (kind == 4) = false := by rw [beq_eq_false_iff_ne]; exact k4
  have HR := Lib.hid (fun o => h.kept (World.grownBy_alloc w o none) (by simp))
  clear h k1 k2 k3 k4
  go_enter Try.func31, Try.ntmps31
  go_wp2_with fail
  obtain ⟨⟨c0, c1, c2⟩, _⟩ := box3 (World.grownBy.refl (w.alloc (.cells #[.int .i64 0, .int .i64 0, .string ⟨#[]⟩] 48)) none) (by simp)
  refine bodyPost_ret (v := ptV PackP.Part.zero) (by simp [results, Try.results31, go_sem, ptV, PackP.Part.zero, c0, c1, c2]) rfl ⟨rfl, HR.out _, World.grownBy_alloc _ _ _⟩
theorem ref5_read (kind most : Int) (b : Nat) (r : PackP.St) (hl : r.1.length ≤ 100000) (w : World) (h : Rdr 55 b r w) :
    Calls Try.prog 31 #[.pointer (some ⟨b, 0, none⟩), .int .i64 kind, .int .i64 most] w fun e w' => e = .returned (ptV (PackP.pread kind most r).1) ∧ Rdr 55 b (PackP.pread kind most r).2 w' ∧ w.grownBy w' (some b) := by
  by_cases k1 : kind = 1
  · subst k1; exact ref5_read1 b most r hl w h
  by_cases k2 : kind = 2
  · subst k2; exact ref5_read2 b most r hl w h
  by_cases k3 : kind = 3
  · subst k3; exact ref5_read3 b most r hl w h
  by_cases k4 : kind = 4
  · subst k4; exact ref5_read4 b most r hl w h
  rw [show PackP.pread kind most r = (PackP.Part.zero, r) by unfold PackP.pread; rw [if_neg k1, if_neg k2, if_neg k3, if_neg k4]]
  exact ref5_read0 kind k1 k2 k3 k4 b most r w h
