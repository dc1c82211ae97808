/- Walks of the document's answer for layer 34: Read, Write · Layer 34: the disk and the document's disk beside each other; two texts that come in. -/
import Derived.Test.YtabccphcoojbjaaGreatDoorPAq
import Derived.Test.YtabccphcoojbjaaGreatDoorPBd
import Derived.Test.YtabccphcoojbjaaGreatDoorPBl
import Derived.Test.YtabccphcoojbjaaGreatDoorPBj
namespace Go.Proofs.YtabccphcoojbjaaGreatDoor
open Go.ChangeShapes Go.WideShapes Go.ChangeAt Go.RowKit Go.Deep DiskP ManP


theorem readX_size (S : DS) (nm : ByteArray) : (readX S nm).1.size ≤ used S.fs := by
  unfold readX
  split
  · exact Nat.zero_le _
  · split
    · rename_i f hf
      exact used_mem hf
    · exact Nat.zero_le _
theorem rpost_from {x : Nat} {S : DS} {v : Value} {w X : World} {e : Ending} {w' : World} (hb : Below w.heap.size w X) (hx : x ≤ w.heap.size) (h : RPost x S v X e w') : RPost x S v w e w' := by
  obtain ⟨h1, A, c, h2, h3⟩ := h
  exact ⟨h1, A, c, h2, (TKeep.of_below hb hx).trans h3⟩

set_option maxRecDepth 100000 in
theorem ref34_Read (x : Nat) (A : Option Addr) (c : Nat) (S : DS) (hS : OkX S) (hu : used S.fs ≤ 100000) (w : World) (h : Rk x A c S w) :
    Calls Tryz.prog 24 #[.pointer (some ⟨x, 0, none⟩)] w fun e w' => e = .returned (mV (readMX S)) ∧ Below w.heap.size w w' := by
  have hl : S.fs.length ≤ 1000 := by have := hS.many; omega
  have hdl := h.lt
  have hb0 : Below w.heap.size w (w.alloc (.cells #[.int .i64 0, .int .i64 0] 23)) := (Below.refl _ w).alloc (Nat.le_refl _) _
  have HR' : Calls Tryz.prog 26 #[.pointer (some ⟨x, 0, none⟩), .string ⟨#[109, 97, 105, 110]⟩] (w.alloc (.cells #[.int .i64 0, .int .i64 0] 23)) fun e w' => e = .returned (.tuple #[.string (readX S mainB).1, .int .i64 (readX S mainB).2]) ∧ w.alloc (.cells #[.int .i64 0, .int .i64 0] 23) = w' := ref7_Read x A c S mainB hl _ (h.kept hb0)
  have HR := Lib.hid HR'
  have hsz := readX_size S mainB
  have HT := Lib.hid (fun W => ref34_Take (readX S mainB).1 (by omega) W)
  have HE := Lib.hid (show readMX S = if (readX S mainB).2 ≠ 0 then ((0, 0), (readX S mainB).2) else takeM (readX S mainB).1.data.toList from rfl)
  have HK := Lib.hid (fun (W : World) (hb : Below (w.alloc (.cells #[.int .i64 0, .int .i64 0] 23)).heap.size (w.alloc (.cells #[.int .i64 0, .int .i64 0] 23)) W) => (by rw [World.size_alloc] at hb; exact ⟨mbox_cells (mbox_of hb), mbox_free (mbox_of hb), ((Below.refl _ w).alloc (Nat.le_refl _) _).trans (hb.mono (by omega))⟩ : (∀ j, W.cell? ⟨w.heap.size, j, none⟩ = #[Value.int .i64 0, .int .i64 0][j]?) ∧ (∀ j, W.frozen? ⟨w.heap.size, j, none⟩ = false) ∧ Below w.heap.size w W))
  clear h hS hu hsz hl hb0 HR'
  generalize readMX S = res at *
  generalize (readX S mainB).1 = s at *
  generalize (readX S mainB).2 = er at *
  by_cases he : er = 0
  · subst he
    have HE2 := HE.out
    rw [if_neg (by simp)] at HE2
    rw [HE2]
    clear HE HE2
    generalize takeM s.data.toList = tm at *
    obtain ⟨⟨ta, tb⟩, te⟩ := tm
    simp only at *
    unfold mV
    go_enter Tryz.func24, Tryz.ntmps24
    go_wp2_with (first
      | (go_at_call 26; (with_reducible refine (HR.out).mono ?_); rintro e x2 ⟨rfl, rfl⟩)
      | (go_at_call 9; (with_reducible refine (HT.out _).mono ?_); rintro e x3 ⟨rfl, b3⟩; obtain ⟨cA, fA, bA⟩ := HK.out _ b3))
    refine bodyPost_ret (v := .tuple #[.agg #[.int .i64 ta, .int .i64 tb], .int .i64 te]) (by simp [results, Tryz.results24, go_sem, cA]) rfl ⟨rfl, ?_⟩
    repeat (with_reducible refine mbelow_own ?_ _ _)
    exact bA
  · have HE2 := HE.out
    rw [if_pos he] at HE2
    have hee : (er != 0) = true := by rw [bne_iff_ne]; exact he
    rw [HE2]
    clear HE HE2 he HT
    obtain ⟨cA, fA, bA⟩ := HK.out _ (Below.refl _ _)
    unfold mV
    go_enter Tryz.func24, Tryz.ntmps24
    go_wp2_with (first
      | (go_at_call 26; (with_reducible refine (HR.out).mono ?_); rintro e x2 ⟨rfl, rfl⟩))
    refine bodyPost_ret (v := .tuple #[.agg #[.int .i64 0, .int .i64 0], .int .i64 er]) (by simp [results, Tryz.results24, go_sem, cA]) rfl ⟨rfl, ?_⟩
    repeat (with_reducible refine mbelow_own ?_ _ _)
    exact bA

set_option maxRecDepth 100000 in
set_option maxHeartbeats 2000000 in
theorem ref34_Write (x : Nat) (A : Option Addr) (c : Nat) (S X : DS) (R : Int) (i j : Nat) (hS : DInv R i j S) (hij : i ≤ 900 ∧ j ≤ 900) (hs : Sim S X) (m : Mn) (i1 : I64 m.1) (i2 : I64 m.2) (w : World) (h : Rk x A c X w) :
    Calls Tryz.prog 16 #[.pointer (some ⟨x, 0, none⟩), .agg #[.int .i64 m.1, .int .i64 m.2]] w (RPost x (writeX X m).1 (.int .i64 (writeX X m).2) w) := by
  have hdl := h.lt
  have HP := Lib.hid (ref34_Put m i1 i2)
  have hb1 : Below w.heap.size w (w.alloc (.cells #[.int .i64 m.1, .int .i64 m.2] 23)) := (Below.refl _ w).alloc (Nat.le_refl _) _
  by_cases hm : mayM m = true
  · have e : writeX X m = writeXB X (bytesM m) := by unfold writeX; rw [if_pos hm]
    have e2 : putM m = (bodyM m ++ crc4 (bodyM m), 0) := by unfold putM; rw [if_pos hm]
    rw [e]
    rw [e2] at HP
    have hbe : tx (bodyM m ++ crc4 (bodyM m)) = bytesM m := rfl
    simp only [hbe] at HP
    have hb : (bytesM m).size ≤ 100 := by have := bytesM_len m; omega
    have C1' : ∀ A c W, Rk x A c X W → Calls Tryz.prog 59 #[.pointer (some ⟨x, 0, none⟩), .int .i64 4, .string ⟨#[109, 97, 105, 110, 46, 110, 101, 119]⟩, .string ⟨#[]⟩, .int .i64 0] W (RPost x (doX X 4 newB ⟨#[]⟩ 0).1 (.int .i64 (doX X 4 newB ⟨#[]⟩ 0).2) W) := fun A c W h => ref7_Do x A c X (okx_of hs hS (by omega) (by omega)) 4 (by omega) newB ⟨#[]⟩ (by decide) 0 W h
    have C2' : ∀ A c W, Rk x A c (v1 X).1 W → Calls Tryz.prog 13 #[.pointer (some ⟨x, 0, none⟩), .string ⟨#[109, 97, 105, 110, 46, 110, 101, 119]⟩, .string (bytesM m)] W (RPost x (v2 X (bytesM m)).1 (.int .i64 (v2 X (bytesM m)).2) W) := fun A c W h => ref7_Append x A c (v1 X).1 (v1_ok hs hS hij.1 hij.2) newB (bytesM m) (by decide) (by omega) W h
    have C3' : ∀ A c W, Rk x A c (v2 X (bytesM m)).1 W → Calls Tryz.prog 59 #[.pointer (some ⟨x, 0, none⟩), .int .i64 2, .string ⟨#[109, 97, 105, 110, 46, 110, 101, 119]⟩, .string ⟨#[]⟩, .int .i64 0] W (RPost x (v3 X (bytesM m)).1 (.int .i64 (v3 X (bytesM m)).2) W) := fun A c W h => ref7_Do x A c _ (v2_ok hs hS hij.1 hij.2 hb) 2 (by omega) newB ⟨#[]⟩ (by decide) 0 W h
    have C4' : ∀ A c W, Rk x A c (v3 X (bytesM m)).1 W → Calls Tryz.prog 59 #[.pointer (some ⟨x, 0, none⟩), .int .i64 3, .string ⟨#[109, 97, 105, 110, 46, 110, 101, 119]⟩, .string ⟨#[109, 97, 105, 110]⟩, .int .i64 0] W (RPost x (v4 X (bytesM m)).1 (.int .i64 (v4 X (bytesM m)).2) W) := fun A c W h => ref7_Do x A c _ (v3_ok hs hS hij.1 hij.2 hb) 3 (by omega) newB mainB (by decide) 0 W h
    have hl : X.fs.length ≤ 1000 := by have := (okx_of hs hS (by omega) (by omega)).many; omega
    have CF' : ∀ W, Rk x A c X W → Calls Tryz.prog 44 #[.pointer (some ⟨x, 0, none⟩), .string ⟨#[109, 97, 105, 110, 46, 110, 101, 119]⟩] W fun e w' => e = .returned (.int .i64 (fndI X.fs newB)) ∧ W = w' := fun W h => ref7_Find x A c X newB hl W h
    have hv1 : v1 X = if 0 ≤ fndI X.fs newB then doX X 4 newB ⟨#[]⟩ 0 else (X, 0) := rfl
    have hres : writeXB X (bytesM m) = if (v1 X).2 ≠ 0 then v1 X else if (v2 X (bytesM m)).2 ≠ 0 then v2 X (bytesM m) else if (v3 X (bytesM m)).2 ≠ 0 then v3 X (bytesM m) else v4 X (bytesM m) := rfl
    have HKX := Lib.hid (fun (W : World) (b : Below w.heap.size w W) => h.kept b)
    have C1 := Lib.hid C1'
    have C2 := Lib.hid C2'
    have C3 := Lib.hid C3'
    have C4 := Lib.hid C4'
    have CF := Lib.hid CF'
    clear C1' C2' C3' C4' CF' e e2 hm hbe h hs hS hl i1 i2
    generalize writeXB X (bytesM m) = res at *
    generalize v4 X (bytesM m) = y4 at *
    generalize v3 X (bytesM m) = y3 at *
    generalize v2 X (bytesM m) = y2 at *
    generalize bytesM m = by_ at *
    generalize v1 X = y1 at *
    generalize doX X 4 newB ⟨#[]⟩ 0 = y0 at *
    generalize fndI X.fs newB = fi at *
    obtain ⟨Y4, r4⟩ := y4
    obtain ⟨Y3, r3⟩ := y3
    obtain ⟨Y2, r2⟩ := y2
    obtain ⟨a, b⟩ := m
    simp only at *
    by_cases hf : 0 ≤ fi
    · rw [if_pos hf] at hv1
      subst hv1
      obtain ⟨Y1, r1⟩ := y1
      simp only at *
      by_cases e1 : r1 = 0
      · subst e1
        by_cases e2 : r2 = 0
        · subst e2
          by_cases e3 : r3 = 0
          · subst e3
            simp only [ne_eq, not_true_eq_false, if_false] at hres
            subst hres
            go_enter Tryz.func16, Tryz.ntmps16; (go_wp2_with (first | (go_at_call 7; (with_reducible refine (HP.out _).mono ?_); rintro e q1 ⟨rfl, b1⟩; have bT := below_step b1 hb1; have hx1 := HKX.out _ bT) | (go_at_call 44; (with_reducible refine (CF.out _ hx1).mono ?_); rintro e q2 ⟨rfl, rfl⟩) | (go_at_call 59; (with_reducible refine (C1.out _ _ _ hx1).mono ?_); rintro e q3 ⟨rfl, A3, c3, hx3, k3⟩) | (go_at_call 13; (with_reducible refine (C2.out _ _ _ hx3).mono ?_); rintro e q4 ⟨rfl, A4, c4, hx4, k4⟩) | (go_at_call 59; (with_reducible refine (C3.out _ _ _ hx4).mono ?_); rintro e q5 ⟨rfl, A5, c5, hx5, k5⟩) | (go_at_call 59; (with_reducible refine (C4.out _ _ _ hx5).mono ?_); rintro e q6 ⟨rfl, A6, c6, hx6, k6⟩))); go_ret; have kT := TKeep.of_below (T := 84) bT (Nat.le_of_lt hdl); first | exact ⟨rfl, A6, c6, hx6, (((kT.trans k3).trans k4).trans k5).trans k6⟩ | exact ⟨rfl, A5, c5, hx5, ((kT.trans k3).trans k4).trans k5⟩ | exact ⟨rfl, A4, c4, hx4, (kT.trans k3).trans k4⟩ | exact ⟨rfl, A3, c3, hx3, kT.trans k3⟩
          · have g3 : (r3 != 0) = true := by simp [e3]
            simp only [ne_eq, not_true_eq_false, if_false, e3, not_false_eq_true, if_true] at hres
            subst hres
            clear e3
            go_enter Tryz.func16, Tryz.ntmps16; (go_wp2_with (first | (go_at_call 7; (with_reducible refine (HP.out _).mono ?_); rintro e q1 ⟨rfl, b1⟩; have bT := below_step b1 hb1; have hx1 := HKX.out _ bT) | (go_at_call 44; (with_reducible refine (CF.out _ hx1).mono ?_); rintro e q2 ⟨rfl, rfl⟩) | (go_at_call 59; (with_reducible refine (C1.out _ _ _ hx1).mono ?_); rintro e q3 ⟨rfl, A3, c3, hx3, k3⟩) | (go_at_call 13; (with_reducible refine (C2.out _ _ _ hx3).mono ?_); rintro e q4 ⟨rfl, A4, c4, hx4, k4⟩) | (go_at_call 59; (with_reducible refine (C3.out _ _ _ hx4).mono ?_); rintro e q5 ⟨rfl, A5, c5, hx5, k5⟩) | (go_at_call 59; (with_reducible refine (C4.out _ _ _ hx5).mono ?_); rintro e q6 ⟨rfl, A6, c6, hx6, k6⟩))); go_ret; have kT := TKeep.of_below (T := 84) bT (Nat.le_of_lt hdl); first | exact ⟨rfl, A6, c6, hx6, (((kT.trans k3).trans k4).trans k5).trans k6⟩ | exact ⟨rfl, A5, c5, hx5, ((kT.trans k3).trans k4).trans k5⟩ | exact ⟨rfl, A4, c4, hx4, (kT.trans k3).trans k4⟩ | exact ⟨rfl, A3, c3, hx3, kT.trans k3⟩
        · have g2 : (r2 != 0) = true := by simp [e2]
          simp only [ne_eq, not_true_eq_false, if_false, e2, not_false_eq_true, if_true] at hres
          subst hres
          clear e2
          go_enter Tryz.func16, Tryz.ntmps16; (go_wp2_with (first | (go_at_call 7; (with_reducible refine (HP.out _).mono ?_); rintro e q1 ⟨rfl, b1⟩; have bT := below_step b1 hb1; have hx1 := HKX.out _ bT) | (go_at_call 44; (with_reducible refine (CF.out _ hx1).mono ?_); rintro e q2 ⟨rfl, rfl⟩) | (go_at_call 59; (with_reducible refine (C1.out _ _ _ hx1).mono ?_); rintro e q3 ⟨rfl, A3, c3, hx3, k3⟩) | (go_at_call 13; (with_reducible refine (C2.out _ _ _ hx3).mono ?_); rintro e q4 ⟨rfl, A4, c4, hx4, k4⟩) | (go_at_call 59; (with_reducible refine (C3.out _ _ _ hx4).mono ?_); rintro e q5 ⟨rfl, A5, c5, hx5, k5⟩) | (go_at_call 59; (with_reducible refine (C4.out _ _ _ hx5).mono ?_); rintro e q6 ⟨rfl, A6, c6, hx6, k6⟩))); go_ret; have kT := TKeep.of_below (T := 84) bT (Nat.le_of_lt hdl); first | exact ⟨rfl, A6, c6, hx6, (((kT.trans k3).trans k4).trans k5).trans k6⟩ | exact ⟨rfl, A5, c5, hx5, ((kT.trans k3).trans k4).trans k5⟩ | exact ⟨rfl, A4, c4, hx4, (kT.trans k3).trans k4⟩ | exact ⟨rfl, A3, c3, hx3, kT.trans k3⟩
      · have g1 : (r1 != 0) = true := by simp [e1]
        simp only [ne_eq, e1, not_false_eq_true, if_true] at hres
        subst hres
        clear e1
        go_enter Tryz.func16, Tryz.ntmps16; (go_wp2_with (first | (go_at_call 7; (with_reducible refine (HP.out _).mono ?_); rintro e q1 ⟨rfl, b1⟩; have bT := below_step b1 hb1; have hx1 := HKX.out _ bT) | (go_at_call 44; (with_reducible refine (CF.out _ hx1).mono ?_); rintro e q2 ⟨rfl, rfl⟩) | (go_at_call 59; (with_reducible refine (C1.out _ _ _ hx1).mono ?_); rintro e q3 ⟨rfl, A3, c3, hx3, k3⟩) | (go_at_call 13; (with_reducible refine (C2.out _ _ _ hx3).mono ?_); rintro e q4 ⟨rfl, A4, c4, hx4, k4⟩) | (go_at_call 59; (with_reducible refine (C3.out _ _ _ hx4).mono ?_); rintro e q5 ⟨rfl, A5, c5, hx5, k5⟩) | (go_at_call 59; (with_reducible refine (C4.out _ _ _ hx5).mono ?_); rintro e q6 ⟨rfl, A6, c6, hx6, k6⟩))); go_ret; have kT := TKeep.of_below (T := 84) bT (Nat.le_of_lt hdl); first | exact ⟨rfl, A6, c6, hx6, (((kT.trans k3).trans k4).trans k5).trans k6⟩ | exact ⟨rfl, A5, c5, hx5, ((kT.trans k3).trans k4).trans k5⟩ | exact ⟨rfl, A4, c4, hx4, (kT.trans k3).trans k4⟩ | exact ⟨rfl, A3, c3, hx3, kT.trans k3⟩
    · rw [if_neg hf] at hv1
      subst hv1
      clear C1
      simp only at *
      by_cases e2 : r2 = 0
      · subst e2
        by_cases e3 : r3 = 0
        · subst e3
          simp only [ne_eq, not_true_eq_false, if_false] at hres
          subst hres
          go_enter Tryz.func16, Tryz.ntmps16; (go_wp2_with (first | (go_at_call 7; (with_reducible refine (HP.out _).mono ?_); rintro e q1 ⟨rfl, b1⟩; have bT := below_step b1 hb1; have hx1 := HKX.out _ bT) | (go_at_call 44; (with_reducible refine (CF.out _ hx1).mono ?_); rintro e q2 ⟨rfl, rfl⟩) | (go_at_call 13; (with_reducible refine (C2.out _ _ _ hx1).mono ?_); rintro e q4 ⟨rfl, A4, c4, hx4, k4⟩) | (go_at_call 59; (with_reducible refine (C3.out _ _ _ hx4).mono ?_); rintro e q5 ⟨rfl, A5, c5, hx5, k5⟩) | (go_at_call 59; (with_reducible refine (C4.out _ _ _ hx5).mono ?_); rintro e q6 ⟨rfl, A6, c6, hx6, k6⟩))); go_ret; have kT := TKeep.of_below (T := 84) bT (Nat.le_of_lt hdl); first | exact ⟨rfl, A6, c6, hx6, ((kT.trans k4).trans k5).trans k6⟩ | exact ⟨rfl, A5, c5, hx5, (kT.trans k4).trans k5⟩ | exact ⟨rfl, A4, c4, hx4, kT.trans k4⟩
        · have g3 : (r3 != 0) = true := by simp [e3]
          simp only [ne_eq, not_true_eq_false, if_false, e3, not_false_eq_true, if_true] at hres
          subst hres
          clear e3
          go_enter Tryz.func16, Tryz.ntmps16; (go_wp2_with (first | (go_at_call 7; (with_reducible refine (HP.out _).mono ?_); rintro e q1 ⟨rfl, b1⟩; have bT := below_step b1 hb1; have hx1 := HKX.out _ bT) | (go_at_call 44; (with_reducible refine (CF.out _ hx1).mono ?_); rintro e q2 ⟨rfl, rfl⟩) | (go_at_call 13; (with_reducible refine (C2.out _ _ _ hx1).mono ?_); rintro e q4 ⟨rfl, A4, c4, hx4, k4⟩) | (go_at_call 59; (with_reducible refine (C3.out _ _ _ hx4).mono ?_); rintro e q5 ⟨rfl, A5, c5, hx5, k5⟩) | (go_at_call 59; (with_reducible refine (C4.out _ _ _ hx5).mono ?_); rintro e q6 ⟨rfl, A6, c6, hx6, k6⟩))); go_ret; have kT := TKeep.of_below (T := 84) bT (Nat.le_of_lt hdl); first | exact ⟨rfl, A6, c6, hx6, ((kT.trans k4).trans k5).trans k6⟩ | exact ⟨rfl, A5, c5, hx5, (kT.trans k4).trans k5⟩ | exact ⟨rfl, A4, c4, hx4, kT.trans k4⟩
      · have g2 : (r2 != 0) = true := by simp [e2]
        simp only [ne_eq, not_true_eq_false, if_false, e2, not_false_eq_true, if_true] at hres
        subst hres
        clear e2
        go_enter Tryz.func16, Tryz.ntmps16; (go_wp2_with (first | (go_at_call 7; (with_reducible refine (HP.out _).mono ?_); rintro e q1 ⟨rfl, b1⟩; have bT := below_step b1 hb1; have hx1 := HKX.out _ bT) | (go_at_call 44; (with_reducible refine (CF.out _ hx1).mono ?_); rintro e q2 ⟨rfl, rfl⟩) | (go_at_call 13; (with_reducible refine (C2.out _ _ _ hx1).mono ?_); rintro e q4 ⟨rfl, A4, c4, hx4, k4⟩) | (go_at_call 59; (with_reducible refine (C3.out _ _ _ hx4).mono ?_); rintro e q5 ⟨rfl, A5, c5, hx5, k5⟩) | (go_at_call 59; (with_reducible refine (C4.out _ _ _ hx5).mono ?_); rintro e q6 ⟨rfl, A6, c6, hx6, k6⟩))); go_ret; have kT := TKeep.of_below (T := 84) bT (Nat.le_of_lt hdl); first | exact ⟨rfl, A6, c6, hx6, ((kT.trans k4).trans k5).trans k6⟩ | exact ⟨rfl, A5, c5, hx5, (kT.trans k4).trans k5⟩ | exact ⟨rfl, A4, c4, hx4, kT.trans k4⟩
  · have e : writeX X m = (X, 1) := by unfold writeX; rw [if_neg hm]
    have e2 : putM m = ([], 1) := by unfold putM; rw [if_neg hm]
    rw [e]
    rw [e2] at HP
    clear e e2 hm
    obtain ⟨a, b⟩ := m
    simp only at *
    go_enter Tryz.func16, Tryz.ntmps16
    go_wp2_with (go_at_call 7; (with_reducible refine (HP.out _).mono ?_); rintro e q1 ⟨rfl, b1⟩)
    go_ret
    have bT := below_step b1 hb1
    exact ⟨rfl, A, c, h.kept bT, TKeep.of_below bT (Nat.le_of_lt hdl)⟩
end Go.Proofs.YtabccphcoojbjaaGreatDoor

namespace Go.Proofs.YtabccphcoojbjaaGreatDoor
open Go.ChangeShapes Go.WideShapes Go.ChangeAt Go.RowKit Go.Deep DiskP ManP



theorem tkboxM {T t : TypeId} {d b : Nat} {w w' : World} {cs : Array Value} {fr : Nat × Nat} (h : TKeep T d w w') (hb : w.heap[b]? = some (.cells cs t fr)) (hd : b ≠ d) (ht : t ≠ T) : w'.heap[b]? = some (.cells cs t fr) := by
  rcases Nat.lt_or_ge b d with h1 | h1
  · exact (h.below.block b h1).trans hb
  · exact (h.others b (by omega) (bx_lt hb) (fun cs' z e => by rw [hb] at e; simp at e; exact ht e.2.1)).trans hb
theorem Dk.rkeptM {d x c c2 : Nat} {A A2 : Option Addr} {S X : DS} {w w' : World} (h : Dk d A c S w) (hx : Rk x A2 c2 X w) (hk : TKeep 84 x w w') (hd : d < x) : Dk d A c S w' := by
  refine ⟨tkboxM hk h.box (by omega) (by decide), own_at h.row fun g hg => ?_⟩
  obtain ⟨cur, hc⟩ := own_type h.row hg
  refine (tkboxM hk hc (fun e => ?_) (by decide)).trans hc.symm
  subst e
  have := hx.box
  rw [hc] at this
  simp at this
theorem Rk.dkeptM {d x c : Nat} {A : Option Addr} {X : DS} {w w' : World} (h : Rk x A c X w) (hk : DKeep d w w') (hd : d < x) : Rk x A c X w' := by
  refine ⟨dkeep_box hk h.box (by omega) (by decide), own_at h.row fun g hg => ?_⟩
  obtain ⟨cur, hc⟩ := own_type h.row hg
  have h1 := h.row.lt g hg
  exact (dkeep_box hk hc (by omega) (by decide)).trans hc.symm
/-- both disks -/
structure PlayM (d x : Nat) (S X : DS) (w : World) : Prop where
  dk : ∃ A c, Dk d A c S w
  rk : ∃ A c, Rk x A c X w
section
variable {d x : Nat} {S X : DS} {w w' : World}
theorem PlayM.below (h : PlayM d x S X w) (hb : Below w.heap.size w w') : PlayM d x S X w' := by
  obtain ⟨⟨A, c, h1⟩, ⟨A2, c2, h2⟩⟩ := h
  exact ⟨⟨A, c, h1.kept hb⟩, ⟨A2, c2, h2.kept hb⟩⟩
theorem PlayM.dstep {S' : DS} (h : PlayM d x S X w) (hk : DKeep d w w') (hd : ∃ A c, Dk d A c S' w') (hdx : d < x) : PlayM d x S' X w' := by
  obtain ⟨_, ⟨A2, c2, h2⟩⟩ := h
  exact ⟨hd, ⟨A2, c2, h2.dkeptM hk hdx⟩⟩
theorem PlayM.rstep {X' : DS} (h : PlayM d x S X w) (hk : TKeep 84 x w w') (hx : ∃ A c, Rk x A c X' w') (hdx : d < x) : PlayM d x S X' w' := by
  obtain ⟨⟨A, c, h1⟩, ⟨A2, c2, h2⟩⟩ := h
  exact ⟨⟨A, c, h1.rkeptM h2 hk hdx⟩, hx⟩
theorem PlayM.lt (h : PlayM d x S X w) : d < w.heap.size ∧ x < w.heap.size := by
  obtain ⟨⟨A, c, h1⟩, ⟨A2, c2, h2⟩⟩ := h
  exact ⟨h1.lt, h2.lt⟩
end
theorem up_both {R : Int} {i j : Nat} {S X : DS} (hI : DInv R i j S) (h : Sim S X) (ks : List Int) : Sim (upD S ks) (upX X ks) := by
  have hp := (up_sim hI.sorted hI.sure h.perm ks S.fs.length (Nat.le_refl _)).1
  have hn := names_sim hI.sorted h.perm
  have hu : upAt S.fs ks S.fs.length = (upL S.fs ks).1 := by unfold upAt; rw [List.take_length, List.drop_length, List.append_nil]
  rw [hu, List.take_of_length_le (by unfold names; rw [List.length_map]; exact Nat.le_refl _), ← hn] at hp
  exact ⟨h.room, h.made, rfl, rfl, h.ops, hp⟩
theorem fuse_both {S X : DS} (h : Sim S X) (n : Int) : Sim { S with fuse := n } { X with fuse := n } := ⟨h.room, h.made, h.on, rfl, h.ops, h.perm⟩

theorem Tryz.cells_strarr2 : Tryz.prog.cellsOf 32 = 2 := by kernel_rfl
theorem Tryz.cells_string2 : Tryz.prog.cellsOf 9 = 1 := by kernel_rfl
set_option maxRecDepth 100000 in
theorem open_strarr2 {H : Type} {enc : TypeId × Value → H} {w : World} {base : Nat} {spare : Nat → Bool} {held : Bool} {r : Reach} {b0 : Nat} {v : Value} {d : DataW H} {p : List MemPlace}
    (hv : Value.okWide Tryz.prog w r b0 32 v) (h : DataW.Trod enc Tryz.prog w base spare held 32 v d p) : ∃ a : ByteArray × ByteArray, v = .agg #[.string a.1, .string a.2] ∧ a.1.size ≤ maxLen ∧ a.2.size ≤ maxLen := by
  obtain ⟨⟨l⟩, rfl, hsz, hg⟩ := open_array Tryz.underlying32 Tryz.cells_strarr2 Tryz.cells_string2 hv h
  match l, hsz with
  | [c0, c1], _ =>
    obtain ⟨c, y, n, hc, h0⟩ := hg 0 (by omega)
    obtain rfl : c0 = c := by simpa using hc
    obtain ⟨a0, rfl, w0⟩ := cell_string Tryz.underlying9 h0
    obtain ⟨c, y, n, hc, h1⟩ := hg 1 (by omega)
    obtain rfl : c1 = c := by simpa using hc
    obtain ⟨a1, rfl, w1⟩ := cell_string Tryz.underlying9 h1
    exact ⟨(a0, a1), rfl, w0, w1⟩
end Go.Proofs.YtabccphcoojbjaaGreatDoor
