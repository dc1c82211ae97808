/- Layer 33: a disk that has some files, all of whose bytes are sure (laid). -/
import Derived.Test.YtcpmicinibfepaaGreatDoorWBq
import Derived.Test.YtcpmicinibfepaaGreatDoorWBj
import Derived.Test.YtcpmicinibfepaaGreatDoorWAk
namespace Go.Proofs.YtcpmicinibfepaaGreatDoor
open Go.ChangeShapes Go.WideShapes Go.ChangeAt Go.RowKit Go.Deep DiskP NameP


/-- files are appended, one by one -/
def laidD (S : DS) (l : List Rf) : DS := l.foldl (fun S f => (appendD S f.nm f.s).1) S
theorem laidD_snoc (S : DS) (l : List Rf) (f : Rf) : laidD S (l ++ [f]) = (appendD (laidD S l) f.nm f.s).1 := by unfold laidD; rw [List.foldl_append]; rfl
def sureKs : List Int := List.replicate 64 65536
def d0 : DS := ⟨[], 65536, true, true, -1, 0⟩
theorem laidD_inv (l : List Rf) (hs : ∀ f ∈ l, f.s.size ≤ 400) : ∀ (i j : Nat) (S : DS), DInv 65536 i j S → DInv 65536 (i + l.length) (j + 4 * l.length) (laidD S l) := by
  induction l with
  | nil => intro i j S h; exact h
  | cons f l ih =>
    intro i j S h
    have h1 := appendD_invM h f.nm f.s 4 (by have := hs f List.mem_cons_self; omega)
    have := ih (fun g hg => hs g (List.mem_cons_of_mem _ hg)) _ _ _ h1
    rw [List.length_cons, show i + (l.length + 1) = i + 1 + l.length by omega, show j + 4 * (l.length + 1) = j + 4 + 4 * l.length by omega]
    exact this
theorem d0_inv : DInv 65536 0 0 d0 := ⟨by simp [Sorted, d0], by simp [d0], by simp [d0], by simp [d0, used], by simp [d0], rfl, by simp [d0, used], by simp [d0], by simp [d0]⟩
/-- the disk that laid hands back -/
def laidS (l : List Rf) : DS := upD { laidD d0 l with on := false, fuse := -1 } sureKs

/-- a disk beside a row of numbers that grows -/
theorem Dk.grownInt {d c n : Nat} {A : Option Addr} {S : DS} {w w' : World} {v : Value} {xs : List Value} (h : Dk d A c S w) (ho : w.ownsRow (d + 1) 3 1 v n xs) (hg : w.grownBy w' v.ownBlock) : Dk d A c S w' := by
  have hf : ∀ (b : Nat) (cs : Array Value) (T : TypeId), w.heap[b]? = some (Obj.cells cs T (0, 0)) → (b ≤ d ∨ T ≠ 3) → w'.heap[b]? = w.heap[b]? := fun b cs T hb hor => by
    refine hg.block b (bx_lt hb) (fun e => ?_)
    have h1 := (ho.lt b e.symm).1
    rcases hor with h2 | h2
    · omega
    · obtain ⟨cur, hc⟩ := own_type ho e.symm
      rw [hb] at hc
      simp at hc
      exact h2 hc.2
  exact ⟨(hf d _ _ h.box (.inl (Nat.le_refl _))).trans h.box, own_at h.row fun g hgg => by obtain ⟨cur, hc⟩ := own_type h.row hgg; exact hf g _ _ hc (.inr (by decide))⟩
set_option maxRecDepth 100000 in
set_option maxHeartbeats 4000000 in
theorem law33_laid (A : Option Addr) (c : Nat) (l : List Rf) (hf : fewR l) (w : World) (hr : RdRf w w.heap.size A l) :
    Calls Tryz.prog 26 #[.slice A l.length c] w fun e w' => e = .returned (.pointer (some ⟨w.heap.size, 0, none⟩)) ∧ (∃ A' c', Dk w.heap.size A' c' (laidS l) w') ∧ Below w.heap.size w w' := by
  have HR := Lib.hid hr
  have HF := Lib.hid hf
  have h12 := hf.1
  have H1' : Calls Tryz.prog 9 #[.int .i64 65536] w fun e w' => e = .returned (.pointer (some ⟨w.heap.size, 0, none⟩)) ∧ Dk w.heap.size none 0 d0 w' ∧ Below w.heap.size w w' := disk_New 65536 w
  have H1 := Lib.hid H1'
  obtain ⟨i0, hi, hz0, hz1, hz2⟩ := info_parts' info_int
  have HI := Lib.hid (And.intro hi (And.intro hz0 (And.intro hz1 hz2)))
  clear hi hz0 hz1 hz2 hr hf H1'
  go_enter Tryz.func26, Tryz.ntmps26
  go_wp2_with (go_at_call 9; (with_reducible refine (H1.out).mono ?_); rintro e w1 ⟨rfl, d1, b1⟩)
  go_loopw [4] (fun vi wr => ∃ (k : Nat) (A' : Option Addr) (c' : Nat), k ≤ l.length ∧ vi = .int .i64 k ∧ Hid (Dk w.heap.size A' c' (laidD d0 (l.take k)) wr) ∧ Below w.heap.size w wr) (fun vi _ => l.length - (intOf vi).toNat)
  case atStart => exact ⟨0, none, 0, by omega, rfl, Lib.hid d1, b1⟩
  case round =>
    obtain ⟨k, A', c', hk, rfl, HD, hb⟩ := hrel
    clear d1 b1
    by_cases hlt : k < l.length
    · obtain ⟨f, hk'⟩ : ∃ f, l[k]? = some f := ⟨l[k], List.getElem?_eq_getElem hlt⟩
      obtain ⟨ad, rfl, hadl, z0, z1⟩ := HR.out.below hb k f hk'
      obtain ⟨hle, hle2⟩ := HF.out.2 f (List.mem_of_getElem? hk')
      have hinv := laidD_inv (l.take k) (fun g hg => (HF.out.2 g (List.mem_of_mem_take hg)).2) 0 0 d0 d0_inv
      have hls : (l.take k).length ≤ 12 := by rw [List.length_take]; omega
      have HTS := Lib.hid (show laidD d0 (l.take (k + 1)) = (appendD (laidD d0 (l.take k)) f.nm f.s).1 by rw [wtake_snoc l k f hk', laidD_snoc])
      have CA := Lib.hid (fun (W : World) (hd : Dk w.heap.size A' c' (laidD d0 (l.take k)) W) => disk_Append w.heap.size A' c' (laidD d0 (l.take k)) (hinv.ok (by omega) (by omega)) f.nm f.s (by omega) (by omega) W hd)
      have hi1 : (k : Int) < (l.length : Int) := by omega
      clear hk' hinv
      go_wp2_with fail
      go_still_tail 11, (by kernel_rfl)
      change wpList _ _ _ _ _ wr.drew
      have hd2 := HD.out.kept ((Below.refl wr.heap.size wr).drew)
      have hb2 : Below w.heap.size w wr.drew := hb.drew
      generalize wr.drew = w2 at hd2 hb2 ⊢
      clear z0 z1
      go_wp2_with (go_at_call 39; (with_reducible refine (CA.out _ hd2).mono ?_); rintro e w3 ⟨rfl, A4, c4, d4, k4⟩)
      exact ⟨⟨k + 1, A4, c4, by omega, by go_num, Lib.hid (by rw [HTS.out]; exact d4), hb2.trans k4.below⟩, by show l.length - ((k : Int) + 1).toNat < l.length - ((k : Int)).toNat; omega⟩
    · have hi1 : ¬ (k : Int) < (l.length : Int) := by omega
      obtain rfl : k = l.length := by omega
      rw [List.take_length] at HD
      have hinv := laidD_inv l (fun g hg => (HF.out.2 g hg).2) 0 0 d0 d0_inv
      have hinv1 : DInv 65536 (0 + l.length) (0 + 4 * l.length) { laidD d0 l with on := false, fuse := -1 } := { hinv with fuse := by simp only; omega }
      have CCR := Lib.hid (disk_Crash w.heap.size A' c' (laidD d0 l) wr HD.out)
      have CUP' : ∀ (Ak : Option Addr) (ck : Nat) (W : World), Dk w.heap.size A' c' { laidD d0 l with on := false, fuse := -1 } W → W.ownsRow (w.heap.size + 1) 3 1 (.slice Ak 64 ck) 64 (sureKs.map (Value.int .i64)) → Calls Tryz.prog 23 #[.pointer (some ⟨w.heap.size, 0, none⟩), .slice Ak 64 ck] W (DPost w.heap.size (laidS l) (.tuple #[]) W) := fun Ak ck W hd ho =>
        disk_Up w.heap.size A' c' _ (hinv1.ok (by omega) (by omega)) hinv1.made Ak ck sureKs (own_cap ho) (by decide) W hd (fun X hX => Rd.own (own_lkeep ho (LKeep.of_d (a := w.heap.size) hX) (by omega) (fun g hg => by have := (ho.lt g hg).1; omega) (by decide)))
      have CUP := Lib.hid CUP'
      clear hlt hk hinv hinv1 CUP' H1 HR HF
      go_wp2_with (go_at_call 22; (with_reducible refine (CCR.out).mono ?_); rintro e w2 ⟨rfl, d2, k2⟩; have hb2 := hb.trans k2.below)
      have hd2l := d2.lt
      clear CCR HD k2 hb
      go_loopw [5, 6] (fun vo vi wx => ∃ k : Nat, k ≤ 64 ∧ vi = .int .i64 k ∧ wx.ownsRow (w.heap.size + 1) 3 1 vo k ((List.replicate k (65536 : Int)).map (Value.int .i64)) ∧ Dk w.heap.size A' c' { laidD d0 l with on := false, fuse := -1 } wx ∧ Below w.heap.size w wx) (fun _ vi _ => 64 - (intOf vi).toNat)
      case atStart => exact ⟨0, by omega, rfl, World.ownsRow_nil _ _ _ _, d2, hb2⟩
      case round =>
        obtain ⟨k, hk, rfl, ho, hd, hb⟩ := hrel
        clear d2 hb2
        obtain ⟨Ak, ck, rfl⟩ := own_slice ho
        have HO := Lib.hid ho
        have HD := Lib.hid hd
        have hdl := hd.lt
        clear ho hd
        by_cases hlt : k < 64
        · have hi2 : (k : Int) < 64 := by omega
          have HTS := Lib.hid (show (List.replicate (k + 1) (65536 : Int)).map (Value.int .i64) = (List.replicate k (65536 : Int)).map (Value.int .i64) ++ [.int .i64 65536] by rw [List.replicate_succ', List.map_append]; rfl)
          go_wp2_with (at_builtin; refine wpList_append_twoN rfl _ _ _ (by rfl) (w.heap.size + 1) 3 i0 _ 1 8 Tryz.underlying34 HI.out.1 HI.out.2.1 HI.out.2.2.1 HI.out.2.2.2 rfl (by decide) (by decide) _ _ _ (by rfl) wr HO.out _ _ rfl (by rfl) (by rfl) (by simp [Value.oneCell']) (by omega) (by omega) ?_; intro g2 cap2 w8 hA; have q8 := app_belowN hb HO.out (by omega) (by omega) hA)
          refine ⟨⟨k + 1, by omega, by go_num, ?_, ?_, q8⟩, by show 64 - ((k : Int) + 1).toNat < 64 - ((k : Int)).toNat; omega⟩
          · rw [HTS.out]; exact hA.own
          · exact HD.out.grownInt HO.out hA.gb
        · have hi2 : ¬ (k : Int) < 64 := by omega
          obtain rfl : k = 64 := by omega
          go_wp2_with (go_at_call 23; (with_reducible refine (CUP.out _ _ _ HD.out HO.out).mono ?_); rintro e w9 ⟨rfl, A9, c9, d9, k9⟩)
          go_ret
          exact ⟨rfl, ⟨A9, c9, d9⟩, hb.trans k9.below⟩
end Go.Proofs.YtcpmicinibfepaaGreatDoor
