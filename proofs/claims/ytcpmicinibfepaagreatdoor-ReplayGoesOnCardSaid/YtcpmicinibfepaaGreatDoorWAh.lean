/- Walks of layer 6 (frame) and of its reference: a frame put, and taken · Walks of layer 6's reference: a frame taken. -/
import Derived.Test.YtcpmicinibfepaaGreatDoorWAg
import Derived.Deep.RegionHeld3
namespace Go.Proofs.YtcpmicinibfepaaGreatDoor
open Go.ChangeShapes Go.WideShapes Go.ChangeAt Go.RowKit Go.Deep BigP


theorem crcN_crc (l : List UInt8) : crcN l = (FrameP.crc l : Int) := rfl
theorem ba_size4 (u : Nat) : (⟨(big 4 u).toArray⟩ : ByteArray).size = 4 := by show (big 4 u).toArray.size = 4; rw [List.size_toArray, big_length]
theorem ba_size8 (u : Nat) : (⟨(big 8 u).toArray⟩ : ByteArray).size = 8 := by show (big 8 u).toArray.size = 8; rw [List.size_toArray, big_length]
theorem ba_tl (a b : ByteArray) : (a ++ b).data.toList = a.data.toList ++ b.data.toList := by rw [ByteArray.data_append, Array.toList_append]
theorem ba_ext' {a b : ByteArray} (h : a.data.toList = b.data.toList) : a = b := by
  cases a; cases b; simp only [ByteArray.mk.injEq]; exact Array.toList_inj.1 h
theorem ex_list (s : ByteArray) (a b : Nat) : (s.extract a b).data.toList = (s.data.toList.drop a).take (b - a) := by
  rw [ByteArray.data_extract, Array.toList_extract, List.extract]
/-- what a putting tells -/
def pfV (r : List UInt8 × Int) : Value := .tuple #[.string ⟨r.1.toArray⟩, .int .i64 r.2]
/-- a frame as a value; what a taking tells -/
def frV (f : FrameP.Fr) : Value := .agg #[.int .i64 f.1, .string ⟨f.2.toArray⟩]
def tfV (r : FrameP.Fr × Nat × Int) : Value := .tuple #[.agg #[.int .i64 r.1.1, .string ⟨r.1.2.toArray⟩], .int .i64 (r.2.1 : Int), .int .i64 r.2.2]

set_option maxRecDepth 100000 in
theorem frame_Put (seq : Int) (data : ByteArray) (hq : I64 seq) (hd : data.size ≤ maxLen) (w : World) :
    Calls Tryz.prog 37 #[.int .i64 seq, .string data] w fun e w' => e = .returned (pfV (FrameP.put seq data.data.toList)) ∧ Below w.heap.size w w' := by
  have hz : data.data.toList.length = data.size := rfl
  unfold FrameP.put
  rw [hz]
  clear hz
  by_cases h1 : seq < 1
  · rw [if_pos h1]
    go_enter Tryz.func37, Tryz.ntmps37
    go_wp2_with fail
    go_ret2
    exact ⟨rfl, by (repeat (first | assumption | exact Below.refl _ _ | refine below_step (by assumption) ?_ | refine below_alloc' _ ?_ | refine below_drewN ?_ _ | refine Below.drew ?_))⟩
  · rw [if_neg h1]
    by_cases h2 : 65536 < data.size
    · rw [if_pos h2]
      unfold maxLen at hd
      go_enter Tryz.func37, Tryz.ntmps37
      go_wp2_with fail
      go_ret2
      exact ⟨rfl, by (repeat (first | assumption | exact Below.refl _ _ | refine below_step (by assumption) ?_ | refine below_alloc' _ ?_ | refine below_drewN ?_ _ | refine Below.drew ?_))⟩
    · rw [if_neg h2]
      obtain ⟨q, rfl⟩ := Int.eq_ofNat_of_zero_le (show 0 ≤ seq by omega)
      have hq2 : q < 9223372036854775808 := by unfold I64 at hq; omega
      have s4 := ba_size4 data.size
      have s8 := ba_size8 q
      have hs1 := Lib.hid (frame_big4 data.size (by omega))
      have hs2 := Lib.hid (frame_big8 q hq2)
      have hs3 := Lib.hid (crc_Sum2 ⟨(big 4 data.size).toArray⟩ (⟨(big 8 q).toArray⟩ ++ data) (by rw [s4]; unfold maxLen; omega) (by rw [ByteArray.size_append, s8]; unfold maxLen; omega))
      have hs4 := Lib.hid (frame_big4 (FrameP.crc ((⟨(big 4 data.size).toArray⟩ : ByteArray).data.toList ++ ((⟨(big 8 q).toArray⟩ : ByteArray) ++ data).data.toList)) (by have := FrameP.crc_lt ((⟨(big 4 data.size).toArray⟩ : ByteArray).data.toList ++ ((⟨(big 8 q).toArray⟩ : ByteArray) ++ data).data.toList); omega))
      have s4c := ba_size4 (FrameP.crc ((⟨(big 4 data.size).toArray⟩ : ByteArray).data.toList ++ ((⟨(big 8 q).toArray⟩ : ByteArray) ++ data).data.toList))
      have HE := Lib.hid (show (⟨(big 4 data.size).toArray⟩ : ByteArray) ++ (⟨(big 4 (FrameP.crc ((⟨(big 4 data.size).toArray⟩ : ByteArray).data.toList ++ ((⟨(big 8 q).toArray⟩ : ByteArray) ++ data).data.toList))).toArray⟩ : ByteArray) ++ (⟨(big 8 q).toArray⟩ ++ data) = ⟨(FrameP.enc q data.data.toList).toArray⟩ by
        apply ba_ext'
        rw [ba_tl, ba_tl, ba_tl]
        show big 4 data.size ++ big 4 (FrameP.crc (big 4 data.size ++ (⟨(big 8 q).toArray⟩ ++ data : ByteArray).data.toList)) ++ (big 8 q ++ data.data.toList) = FrameP.enc q data.data.toList
        rw [ba_tl]
        unfold FrameP.enc FrameP.body
        rw [List.append_assoc]
        rfl)
      rw [crcN_crc] at hs3
      rw [Int.toNat_natCast]
      unfold pfV
      simp only
      rw [← HE.out]
      generalize FrameP.crc ((⟨(big 4 data.size).toArray⟩ : ByteArray).data.toList ++ ((⟨(big 8 q).toArray⟩ : ByteArray) ++ data).data.toList) = cc at hs3 hs4 s4c ⊢
      generalize (⟨(big 4 cc).toArray⟩ : ByteArray) = bc at hs4 s4c ⊢
      generalize (⟨(big 4 data.size).toArray⟩ : ByteArray) = b4 at hs1 hs3 s4 ⊢
      generalize (⟨(big 8 q).toArray⟩ : ByteArray) = b8 at hs2 hs3 s8 ⊢
      have t4 : b4.size ≤ 4 := by omega
      have t8 : b8.size ≤ 8 := by omega
      have tc : bc.size ≤ 4 := by omega
      clear s4 s8 s4c HE
      go_enter Tryz.func37, Tryz.ntmps37
      go_wp2_with fail
      refine (hs1.out _).mono ?_
      rintro e w1 ⟨rfl, hb1⟩
      go_wp2_with fail
      refine (hs2.out _).mono ?_
      rintro e w2 ⟨rfl, hb2⟩
      go_wp2_with fail
      refine (hs3.out _).mono ?_
      rintro e w3 ⟨rfl, hb3⟩
      go_wp2_with fail
      refine (hs4.out _).mono ?_
      rintro e w4 ⟨rfl, hb4⟩
      go_wp2_with fail
      go_ret2
      exact ⟨rfl, by (repeat (first | assumption | exact Below.refl _ _ | refine below_step (by assumption) ?_ | refine below_alloc' _ ?_ | refine below_drewN ?_ _ | refine Below.drew ?_))⟩

/-- a box of two cells, laid ahead, in a later world -/
theorem box2 {w W : World} {t : TypeId} {a b : Value} (hb : Below (w.alloc (.cells #[a, b] t)).heap.size (w.alloc (.cells #[a, b] t)) W) :
    W.cell? ⟨w.heap.size, 0, none⟩ = some a ∧ W.cell? ⟨w.heap.size, 1, none⟩ = some b ∧ W.frozen? ⟨w.heap.size, 0, none⟩ = false ∧ W.frozen? ⟨w.heap.size, 1, none⟩ = false ∧ Below w.heap.size w W := by
  have h0 : w.heap.size < (w.alloc (.cells #[a, b] t)).heap.size := by rw [World.size_alloc]; omega
  refine ⟨?_, ?_, ?_, ?_, (below_alloc' _ (Below.refl _ _)).trans (hb.mono (by rw [World.size_alloc]; omega))⟩
  · rw [hb.cell (p := ⟨w.heap.size, 0, none⟩) h0, cell_of_row _ _ _ #[a, b] t _ (heap_alloc_new w _)]; rfl
  · rw [hb.cell (p := ⟨w.heap.size, 1, none⟩) h0, cell_of_row _ _ _ #[a, b] t _ (heap_alloc_new w _)]; rfl
  · rw [hb.frozen (p := ⟨w.heap.size, 0, none⟩) h0]; simp
  · rw [hb.frozen (p := ⟨w.heap.size, 1, none⟩) h0]; simp
theorem sgn4 (l : List UInt8) (n : Nat) (h : num 0 (l.take 4) = n) : n < 4294967296 := by
  have := num_lt (l.take 4)
  rw [h] at this
  have h5 : (256 : Nat) ^ (l.take 4).length ≤ 256 ^ 4 := Nat.pow_le_pow_right (by omega) (by rw [List.length_take]; omega)
  omega

set_option maxRecDepth 100000 in
theorem frame_Take_a (s : ByteArray) (h1 : s.size < 16) (w : World) :
    Calls Tryz.prog 74 #[.string s] w fun e w' => e = .returned (tfV ((0, []), 0, 3)) ∧ Below w.heap.size w w' := by
  go_enter Tryz.func74, Tryz.ntmps74
  go_wp2_with fail
  refine bodyPost_ret (v := tfV ((0, []), 0, 3)) (by simp [results, Tryz.results74, go_sem, tfV]) rfl ⟨rfl, by (repeat (first | assumption | exact Below.refl _ _ | refine below_step (by assumption) ?_ | refine below_alloc' _ ?_ | refine below_drewN ?_ _ | refine Below.drew ?_))⟩
theorem frame_num4 (s : ByteArray) (n : Nat) (h1 : 16 ≤ s.size) (h2 : num 0 (s.data.toList.take 4) = n) (w : World) :
    Calls Tryz.prog 91 #[.string (s.extract 0 4)] w fun e w' => e = .returned (.int .i64 (n : Int)) ∧ Below w.heap.size w w' := by
  have hn := frame_number (s.extract 0 4) (by rw [ByteArray.size_extract]; omega) w
  have hlt := sgn4 _ _ h2
  rw [ex_list] at hn
  simpa only [List.drop_zero, Nat.sub_zero, h2, FrameP.sgn_of n (by omega)] using hn
set_option maxRecDepth 100000 in
theorem frame_Take_b (s : ByteArray) (n : Nat) (hs : s.size ≤ maxLen) (h1 : 16 ≤ s.size) (h2 : num 0 (s.data.toList.take 4) = n) (h3 : 65536 < n) (w : World) :
    Calls Tryz.prog 74 #[.string s] w fun e w' => e = .returned (tfV ((0, []), 0, 12)) ∧ Below w.heap.size w w' := by
  have hn := Lib.hid (frame_num4 s n h1 h2)
  unfold maxLen at hs
  clear h2
  go_enter Tryz.func74, Tryz.ntmps74
  go_wp2_with fail
  refine (hn.out _).mono ?_
  rintro e w1 ⟨rfl, hb1⟩
  obtain ⟨c0, c1, f0, f1, hbw⟩ := box2 hb1
  clear hb1
  go_wp2_with fail
  refine bodyPost_ret (v := tfV ((0, []), 0, 12)) (by simp [results, Tryz.results74, go_sem, tfV, c0, c1]) rfl ⟨rfl, (hbw.setCell (Nat.le_refl _) _).setCell (Nat.le_refl _) _⟩
set_option maxRecDepth 100000 in
theorem frame_Take_c (s : ByteArray) (n : Nat) (hs : s.size ≤ maxLen) (h1 : 16 ≤ s.size) (h2 : num 0 (s.data.toList.take 4) = n) (h3 : n ≤ 65536) (h4 : s.size < 16 + n) (w : World) :
    Calls Tryz.prog 74 #[.string s] w fun e w' => e = .returned (tfV ((0, []), 0, 3)) ∧ Below w.heap.size w w' := by
  have hn := Lib.hid (frame_num4 s n h1 h2)
  unfold maxLen at hs
  clear h2
  go_enter Tryz.func74, Tryz.ntmps74
  go_wp2_with fail
  refine (hn.out _).mono ?_
  rintro e w1 ⟨rfl, hb1⟩
  obtain ⟨c0, c1, f0, f1, hbw⟩ := box2 hb1
  clear hb1
  go_wp2_with fail
  refine bodyPost_ret (v := tfV ((0, []), 0, 3)) (by simp [results, Tryz.results74, go_sem, tfV, c0, c1]) rfl ⟨rfl, (hbw.setCell (Nat.le_refl _) _).setCell (Nat.le_refl _) _⟩

/-- a sum of two parts, wherever they lie -/
theorem sum2_at (s t : ByteArray) (b c : Nat) (n : Int) (hs : s.size ≤ maxLen) (ht : t.size ≤ maxLen) (hn : crcN (s.data.toList ++ t.data.toList) = n) {W : World}
    (hlt : b < W.heap.size) (h0 : W.cell? ⟨b, 0, none⟩ = some (.string s)) (h1 : W.cell? ⟨b, 1, none⟩ = some (.string t)) :
    Calls Tryz.prog 57 #[.slice (some ⟨b, 0, none⟩) 2 c] W fun e w' => e = .returned (.int .i64 n) ∧ Below W.heap.size W w' := by
  refine (crc_Sum [s, t] b c (by simp) (by simpa using ⟨hs, ht⟩) W hlt (fun k x hk => ?_)).mono fun e w' ⟨he, hb⟩ => ⟨?_, hb⟩
  · obtain ⟨h2, h3⟩ := List.getElem?_eq_some_iff.1 hk
    simp at h2
    have h4 : k = 0 ∨ k = 1 := by omega
    rcases h4 with rfl | rfl <;> simp at h3 <;> subst h3 <;> assumption
  · rw [he, ← hn]; simp [catL]
theorem sgn8 (l : List UInt8) : I64 (FrameP.sgn (num 0 ((l.drop 8).take 8))) := by
  have := num_lt8 ((l.drop 8).take 8) (by rw [List.length_take]; omega)
  unfold FrameP.sgn I64; split <;> omega
set_option maxRecDepth 100000 in
set_option maxHeartbeats 4000000 in
theorem frame_Take_d (s : ByteArray) (n : Nat) (hs : s.size ≤ maxLen) (h1 : 16 ≤ s.size) (h2 : num 0 (s.data.toList.take 4) = n) (h3 : n ≤ 65536) (h4 : 16 + n ≤ s.size)
    (h5 : FrameP.crc (s.data.toList.take 4 ++ (s.data.toList.drop 8).take (8 + n)) ≠ num 0 ((s.data.toList.drop 4).take 4)) (w : World) :
    Calls Tryz.prog 74 #[.string s] w fun e w' => e = .returned (tfV ((0, []), 0, 4)) ∧ Below w.heap.size w w' := by
  have hn := Lib.hid (frame_num4 s n h1 h2)
  have hn2 := frame_number (s.extract 8 16) (by rw [ByteArray.size_extract]; omega)
  rw [ex_list] at hn2
  have hI := sgn8 s.data.toList
  have hn3 := frame_number (s.extract 4 8) (by rw [ByteArray.size_extract]; omega)
  have h48 : num 0 ((s.data.toList.drop 4).take 4) < 4294967296 := by
    have := num_lt ((s.data.toList.drop 4).take 4)
    have h5 : (256 : Nat) ^ ((s.data.toList.drop 4).take 4).length ≤ 256 ^ 4 := Nat.pow_le_pow_right (by omega) (by rw [List.length_take]; omega)
    omega
  rw [ex_list, show 8 - 4 = 4 from rfl, FrameP.sgn_of _ (by omega)] at hn3
  have hsum : crcN ((s.extract 0 4).data.toList ++ (s.extract 8 (16 + n)).data.toList) = (FrameP.crc (s.data.toList.take 4 ++ (s.data.toList.drop 8).take (8 + n)) : Int) := by
    rw [crcN_crc, ex_list, ex_list, List.drop_zero, Nat.sub_zero, show 16 + n - 8 = 8 + n by omega]
  have hz1 := Lib.hid (show (s.extract 0 4).size ≤ maxLen by rw [ByteArray.size_extract]; unfold maxLen; omega)
  have hz2 := Lib.hid (show (s.extract 8 (16 + n)).size ≤ maxLen by rw [ByteArray.size_extract]; unfold maxLen at hs ⊢; omega)
  unfold maxLen at hs
  generalize FrameP.sgn (num 0 ((s.data.toList.drop 8).take (16 - 8))) = q at hn2 hI
  generalize FrameP.crc (s.data.toList.take 4 ++ (s.data.toList.drop 8).take (8 + n)) = cc at h5 hsum
  generalize num 0 ((s.data.toList.drop 4).take 4) = c2 at h5 hn3
  have hne : ((cc : Int) != (c2 : Int)) = true := by rw [bne_iff_ne]; omega
  have HN2 := Lib.hid hn2
  have HN3 := Lib.hid hn3
  have HSUM := Lib.hid hsum
  clear h2 h5 h48 hn2 hn3 hsum
  have g1 : (4 : Int) ≤ (s.size : Int) := by omega
  have g2 : (8 : Int) ≤ (s.size : Int) := by omega
  have g3 : (0 : Int) ≤ 16 + (n : Int) := by omega
  have g4 : (8 : Int) ≤ 16 + (n : Int) := by omega
  have g5 : 16 + (n : Int) ≤ (s.size : Int) := by omega
  have gtn : (16 + (n : Int)).toNat = 16 + n := by omega
  go_enter Tryz.func74, Tryz.ntmps74
  go_wp2_with fail
  refine (hn.out _).mono ?_
  rintro e w1 ⟨rfl, hb1⟩
  go_wp2_with fail
  refine (HN2.out _).mono ?_
  rintro e w2 ⟨rfl, hb2⟩
  have hb3 := hb2.mono hb1.size
  have hb4 := hb1.trans hb3
  clear hb1 hb2 hb3
  go_wp2_with fail
  go_region_held3 (fun _ => True) (trivial)
    (first
      | (go_at_call 91; refine (HN3.out _).mono ?_; rintro e w3 ⟨rfl, hb5⟩)
      | (go_at_call 57; refine (sum2_at _ _ _ _ _ hz1.out hz2.out HSUM.out (by first | (simp; done) | (have := hb5.size; simp at this ⊢; omega))
          (by first | exact cell_of_row _ _ _ _ _ _ (heap_alloc_new _ _) | exact (hb5.cell (p := ⟨_, 0, none⟩) (by simp)).trans (cell_of_row _ _ _ _ _ _ (heap_alloc_new _ _)))
          (by first | exact cell_of_row _ _ _ _ _ _ (heap_alloc_new _ _) | exact (hb5.cell (p := ⟨_, 1, none⟩) (by simp)).trans (cell_of_row _ _ _ _ _ _ (heap_alloc_new _ _)))).mono ?_; rintro e w4 ⟨rfl, hb6⟩))
  have hbN : Below (w.alloc (.cells #[.int .i64 0, .string ⟨#[]⟩] 46)).heap.size (w.alloc (.cells #[.int .i64 0, .string ⟨#[]⟩] 46)) w3 := by (repeat (first | assumption | exact Below.refl _ _ | refine below_step (by assumption) ?_ | refine below_alloc' _ ?_ | refine below_drewN ?_ _ | refine Below.drew ?_))
  obtain ⟨c0, c1, f0, f1, hbw⟩ := box2 hbN
  clear hbN hb4 hb5 hb6
  go_wp2_with fail
  refine bodyPost_ret (v := tfV ((0, []), 0, 4)) (by simp [results, Tryz.results74, go_sem, tfV, c0, c1]) rfl ⟨rfl, (hbw.setCell (Nat.le_refl _) _).setCell (Nat.le_refl _) _⟩
set_option maxRecDepth 100000 in
set_option maxHeartbeats 4000000 in
theorem frame_Take_e (s : ByteArray) (n : Nat) (hs : s.size ≤ maxLen) (h1 : 16 ≤ s.size) (h2 : num 0 (s.data.toList.take 4) = n) (h3 : n ≤ 65536) (h4 : 16 + n ≤ s.size)
    (h5 : FrameP.crc (s.data.toList.take 4 ++ (s.data.toList.drop 8).take (8 + n)) = num 0 ((s.data.toList.drop 4).take 4))
    (h6 : FrameP.sgn (num 0 ((s.data.toList.drop 8).take 8)) < 1) (w : World) :
    Calls Tryz.prog 74 #[.string s] w fun e w' => e = .returned (tfV ((0, []), 0, 2)) ∧ Below w.heap.size w w' := by
  have hn := Lib.hid (frame_num4 s n h1 h2)
  have hn2 := frame_number (s.extract 8 16) (by rw [ByteArray.size_extract]; omega)
  rw [ex_list] at hn2
  have hI := sgn8 s.data.toList
  have hn3 := frame_number (s.extract 4 8) (by rw [ByteArray.size_extract]; omega)
  have h48 : num 0 ((s.data.toList.drop 4).take 4) < 4294967296 := by
    have := num_lt ((s.data.toList.drop 4).take 4)
    have h5 : (256 : Nat) ^ ((s.data.toList.drop 4).take 4).length ≤ 256 ^ 4 := Nat.pow_le_pow_right (by omega) (by rw [List.length_take]; omega)
    omega
  rw [ex_list, show 8 - 4 = 4 from rfl, FrameP.sgn_of _ (by omega)] at hn3
  have hsum : crcN ((s.extract 0 4).data.toList ++ (s.extract 8 (16 + n)).data.toList) = (FrameP.crc (s.data.toList.take 4 ++ (s.data.toList.drop 8).take (8 + n)) : Int) := by
    rw [crcN_crc, ex_list, ex_list, List.drop_zero, Nat.sub_zero, show 16 + n - 8 = 8 + n by omega]
  have hz1 := Lib.hid (show (s.extract 0 4).size ≤ maxLen by rw [ByteArray.size_extract]; unfold maxLen; omega)
  have hz2 := Lib.hid (show (s.extract 8 (16 + n)).size ≤ maxLen by rw [ByteArray.size_extract]; unfold maxLen at hs ⊢; omega)
  unfold maxLen at hs
  generalize FrameP.sgn (num 0 ((s.data.toList.drop 8).take (16 - 8))) = q at hn2 hI h6
  generalize FrameP.crc (s.data.toList.take 4 ++ (s.data.toList.drop 8).take (8 + n)) = cc at h5 hsum
  generalize num 0 ((s.data.toList.drop 4).take 4) = c2 at h5 hn3
  have hne : ((cc : Int) != (c2 : Int)) = false := by rw [bne_eq_false_iff_eq]; omega
  have HN2 := Lib.hid hn2
  have HN3 := Lib.hid hn3
  have HSUM := Lib.hid hsum
  clear h2 h5 h48 hn2 hn3 hsum
  have g1 : (4 : Int) ≤ (s.size : Int) := by omega
  have g2 : (8 : Int) ≤ (s.size : Int) := by omega
  have g3 : (0 : Int) ≤ 16 + (n : Int) := by omega
  have g4 : (8 : Int) ≤ 16 + (n : Int) := by omega
  have g5 : 16 + (n : Int) ≤ (s.size : Int) := by omega
  have gtn : (16 + (n : Int)).toNat = 16 + n := by omega
  go_enter Tryz.func74, Tryz.ntmps74
  go_wp2_with fail
  refine (hn.out _).mono ?_
  rintro e w1 ⟨rfl, hb1⟩
  go_wp2_with fail
  refine (HN2.out _).mono ?_
  rintro e w2 ⟨rfl, hb2⟩
  have hb3 := hb2.mono hb1.size
  have hb4 := hb1.trans hb3
  clear hb1 hb2 hb3
  go_wp2_with fail
  go_region_held3 (fun _ => True) (trivial)
    (first
      | (go_at_call 91; refine (HN3.out _).mono ?_; rintro e w3 ⟨rfl, hb5⟩)
      | (go_at_call 57; refine (sum2_at _ _ _ _ _ hz1.out hz2.out HSUM.out (by first | (simp; done) | (have := hb5.size; simp at this ⊢; omega))
          (by first | exact cell_of_row _ _ _ _ _ _ (heap_alloc_new _ _) | exact (hb5.cell (p := ⟨_, 0, none⟩) (by simp)).trans (cell_of_row _ _ _ _ _ _ (heap_alloc_new _ _)))
          (by first | exact cell_of_row _ _ _ _ _ _ (heap_alloc_new _ _) | exact (hb5.cell (p := ⟨_, 1, none⟩) (by simp)).trans (cell_of_row _ _ _ _ _ _ (heap_alloc_new _ _)))).mono ?_; rintro e w4 ⟨rfl, hb6⟩))
  have hbN : Below (w.alloc (.cells #[.int .i64 0, .string ⟨#[]⟩] 46)).heap.size (w.alloc (.cells #[.int .i64 0, .string ⟨#[]⟩] 46)) w3 := by (repeat (first | assumption | exact Below.refl _ _ | refine below_step (by assumption) ?_ | refine below_alloc' _ ?_ | refine below_drewN ?_ _ | refine Below.drew ?_))
  obtain ⟨c0, c1, f0, f1, hbw⟩ := box2 hbN
  clear hbN hb4 hb5 hb6
  go_wp2_with fail
  refine bodyPost_ret (v := tfV ((0, []), 0, 2)) (by simp [results, Tryz.results74, go_sem, tfV, c0, c1]) rfl ⟨rfl, (hbw.setCell (Nat.le_refl _) _).setCell (Nat.le_refl _) _⟩
set_option maxRecDepth 100000 in
set_option maxHeartbeats 4000000 in
theorem frame_Take_f (s : ByteArray) (n : Nat) (hs : s.size ≤ maxLen) (h1 : 16 ≤ s.size) (h2 : num 0 (s.data.toList.take 4) = n) (h3 : n ≤ 65536) (h4 : 16 + n ≤ s.size)
    (h5 : FrameP.crc (s.data.toList.take 4 ++ (s.data.toList.drop 8).take (8 + n)) = num 0 ((s.data.toList.drop 4).take 4))
    (h6 : ¬ FrameP.sgn (num 0 ((s.data.toList.drop 8).take 8)) < 1) (w : World) :
    Calls Tryz.prog 74 #[.string s] w fun e w' => e = .returned (tfV ((FrameP.sgn (num 0 ((s.data.toList.drop 8).take 8)), (s.data.toList.drop 16).take n), 16 + n, 0)) ∧ Below w.heap.size w w' := by
  have hn := Lib.hid (frame_num4 s n h1 h2)
  have hn2 := frame_number (s.extract 8 16) (by rw [ByteArray.size_extract]; omega)
  rw [ex_list] at hn2
  have hI := sgn8 s.data.toList
  have hn3 := frame_number (s.extract 4 8) (by rw [ByteArray.size_extract]; omega)
  have h48 : num 0 ((s.data.toList.drop 4).take 4) < 4294967296 := by
    have := num_lt ((s.data.toList.drop 4).take 4)
    have h5 : (256 : Nat) ^ ((s.data.toList.drop 4).take 4).length ≤ 256 ^ 4 := Nat.pow_le_pow_right (by omega) (by rw [List.length_take]; omega)
    omega
  rw [ex_list, show 8 - 4 = 4 from rfl, FrameP.sgn_of _ (by omega)] at hn3
  have hsum : crcN ((s.extract 0 4).data.toList ++ (s.extract 8 (16 + n)).data.toList) = (FrameP.crc (s.data.toList.take 4 ++ (s.data.toList.drop 8).take (8 + n)) : Int) := by
    rw [crcN_crc, ex_list, ex_list, List.drop_zero, Nat.sub_zero, show 16 + n - 8 = 8 + n by omega]
  have hz1 := Lib.hid (show (s.extract 0 4).size ≤ maxLen by rw [ByteArray.size_extract]; unfold maxLen; omega)
  have hz2 := Lib.hid (show (s.extract 8 (16 + n)).size ≤ maxLen by rw [ByteArray.size_extract]; unfold maxLen at hs ⊢; omega)
  have HB := Lib.hid (show (⟨((s.data.toList.drop 16).take n).toArray⟩ : ByteArray) = s.extract 16 (16 + n) from ba_ext' (by rw [ex_list, show 16 + n - 16 = n by omega]))
  unfold maxLen at hs
  unfold tfV
  simp only
  rw [HB.out]
  generalize FrameP.sgn (num 0 ((s.data.toList.drop 8).take (16 - 8))) = q at hn2 hI h6 ⊢
  generalize FrameP.crc (s.data.toList.take 4 ++ (s.data.toList.drop 8).take (8 + n)) = cc at h5 hsum
  generalize num 0 ((s.data.toList.drop 4).take 4) = c2 at h5 hn3
  have hne : ((cc : Int) != (c2 : Int)) = false := by rw [bne_eq_false_iff_eq]; omega
  have HN2 := Lib.hid hn2
  have HN3 := Lib.hid hn3
  have HSUM := Lib.hid hsum
  clear h2 h5 h48 hn2 hn3 hsum
  have g1 : (4 : Int) ≤ (s.size : Int) := by omega
  have g2 : (8 : Int) ≤ (s.size : Int) := by omega
  have g3 : (0 : Int) ≤ 16 + (n : Int) := by omega
  have g4 : (8 : Int) ≤ 16 + (n : Int) := by omega
  have g5 : 16 + (n : Int) ≤ (s.size : Int) := by omega
  have gtn : (16 + (n : Int)).toNat = 16 + n := by omega
  have g6 : (16 : Int) ≤ 16 + (n : Int) := by omega
  go_enter Tryz.func74, Tryz.ntmps74
  go_wp2_with fail
  refine (hn.out _).mono ?_
  rintro e w1 ⟨rfl, hb1⟩
  go_wp2_with fail
  refine (HN2.out _).mono ?_
  rintro e w2 ⟨rfl, hb2⟩
  have hb3 := hb2.mono hb1.size
  have hb4 := hb1.trans hb3
  clear hb1 hb2 hb3
  go_wp2_with fail
  go_region_held3 (fun _ => True) (trivial)
    (first
      | (go_at_call 91; refine (HN3.out _).mono ?_; rintro e w3 ⟨rfl, hb5⟩)
      | (go_at_call 57; refine (sum2_at _ _ _ _ _ hz1.out hz2.out HSUM.out (by first | (simp; done) | (have := hb5.size; simp at this ⊢; omega))
          (by first | exact cell_of_row _ _ _ _ _ _ (heap_alloc_new _ _) | exact (hb5.cell (p := ⟨_, 0, none⟩) (by simp)).trans (cell_of_row _ _ _ _ _ _ (heap_alloc_new _ _)))
          (by first | exact cell_of_row _ _ _ _ _ _ (heap_alloc_new _ _) | exact (hb5.cell (p := ⟨_, 1, none⟩) (by simp)).trans (cell_of_row _ _ _ _ _ _ (heap_alloc_new _ _)))).mono ?_; rintro e w4 ⟨rfl, hb6⟩))
  have hbN : Below (w.alloc (.cells #[.int .i64 0, .string ⟨#[]⟩] 46)).heap.size (w.alloc (.cells #[.int .i64 0, .string ⟨#[]⟩] 46)) w3 := by (repeat (first | assumption | exact Below.refl _ _ | refine below_step (by assumption) ?_ | refine below_alloc' _ ?_ | refine below_drewN ?_ _ | refine Below.drew ?_))
  obtain ⟨c0, c1, f0, f1, hbw⟩ := box2 hbN
  clear hbN hb4 hb5 hb6
  go_wp2_with fail
  rw [show ((16 + n : Nat) : Int) = 16 + (n : Int) by omega]
  refine bodyPost_ret (v := .tuple #[.agg #[.int .i64 q, .string (s.extract 16 (16 + n))], .int .i64 (16 + (n : Int)), .int .i64 0]) (by simp [results, Tryz.results74, go_sem, c0, c1]) rfl ⟨rfl, (hbw.setCell (Nat.le_refl _) _).setCell (Nat.le_refl _) _⟩

theorem frame_Take (s : ByteArray) (hs : s.size ≤ maxLen) (w : World) :
    Calls Tryz.prog 74 #[.string s] w fun e w' => e = .returned (tfV (FrameP.take s.data.toList)) ∧ Below w.heap.size w w' := by
  have hz : s.data.toList.length = s.size := rfl
  unfold FrameP.take
  rw [hz]
  by_cases h1 : s.size < 16
  · rw [if_pos h1]; exact frame_Take_a s h1 w
  rw [if_neg h1]
  by_cases h2 : 65536 < num 0 (s.data.toList.take 4)
  · rw [if_pos h2]; exact frame_Take_b s _ hs (by omega) rfl h2 w
  rw [if_neg h2]
  by_cases h3 : s.size < 16 + num 0 (s.data.toList.take 4)
  · rw [if_pos h3]; exact frame_Take_c s _ hs (by omega) rfl (by omega) h3 w
  rw [if_neg h3]
  by_cases h4 : FrameP.crc (s.data.toList.take 4 ++ (s.data.toList.drop 8).take (8 + num 0 (s.data.toList.take 4))) ≠ num 0 ((s.data.toList.drop 4).take 4)
  · rw [if_pos h4]; exact frame_Take_d s _ hs (by omega) rfl (by omega) (by omega) h4 w
  rw [if_neg h4]
  have h4' : FrameP.crc (s.data.toList.take 4 ++ (s.data.toList.drop 8).take (8 + num 0 (s.data.toList.take 4))) = num 0 ((s.data.toList.drop 4).take 4) := Decidable.not_not.1 h4
  by_cases h5 : FrameP.sgn (num 0 ((s.data.toList.drop 8).take 8)) < 1
  · rw [if_pos h5]; exact frame_Take_e s _ hs (by omega) rfl (by omega) (by omega) h4' h5 w
  · rw [if_neg h5]; exact frame_Take_f s _ hs (by omega) rfl (by omega) (by omega) h4' h5 w
end Go.Proofs.YtcpmicinibfepaaGreatDoor

namespace Go.Proofs.YtcpmicinibfepaaGreatDoor
open Go.ChangeShapes Go.WideShapes Go.ChangeAt Go.RowKit Go.Deep BigP


theorem ref_num4 (s : ByteArray) (n : Nat) (h1 : 16 ≤ s.size) (h2 : num 0 (s.data.toList.take 4) = n) (w : World) :
    Calls Tryz.prog 72 #[.string (s.extract 0 4)] w fun e w' => e = .returned (.int .i64 (n : Int)) ∧ w = w' := by
  have hn := ref_back6 (s.extract 0 4) (by rw [ByteArray.size_extract]; omega) w
  have hlt := sgn4 _ _ h2
  rw [ex_list] at hn
  simpa only [List.drop_zero, Nat.sub_zero, h2, FrameP.sgn_of n (by omega)] using hn
set_option maxRecDepth 100000 in
theorem ref_Take6_a (s : ByteArray) (h1 : s.size < 16) (w : World) :
    Calls Tryz.prog 46 #[.string s] w fun e w' => e = .returned (tfV ((0, []), 0, 3)) ∧ Below w.heap.size w w' := by
  go_enter Tryz.func46, Tryz.ntmps46
  go_wp2_with fail
  refine bodyPost_ret (v := tfV ((0, []), 0, 3)) (by simp [results, Tryz.results46, go_sem, tfV]) rfl ⟨rfl, by (repeat (first | assumption | exact Below.refl _ _ | refine below_step (by assumption) ?_ | refine below_alloc' _ ?_ | refine below_drewN ?_ _ | refine Below.drew ?_))⟩
set_option maxRecDepth 100000 in
theorem ref_Take6_b (s : ByteArray) (n : Nat) (hs : s.size ≤ maxLen) (h1 : 16 ≤ s.size) (h2 : num 0 (s.data.toList.take 4) = n) (h3 : 65536 < n) (w : World) :
    Calls Tryz.prog 46 #[.string s] w fun e w' => e = .returned (tfV ((0, []), 0, 12)) ∧ Below w.heap.size w w' := by
  have hn := Lib.hid (ref_num4 s n h1 h2)
  unfold maxLen at hs
  clear h2
  go_enter Tryz.func46, Tryz.ntmps46
  go_wp2_with fail
  refine (hn.out _).mono ?_
  rintro e w1 ⟨rfl, rfl⟩
  go_wp2_with fail
  refine bodyPost_ret (v := tfV ((0, []), 0, 12)) (by simp [results, Tryz.results46, go_sem, tfV]) rfl ⟨rfl, by (repeat (first | assumption | exact Below.refl _ _ | refine below_step (by assumption) ?_ | refine below_alloc' _ ?_ | refine below_drewN ?_ _ | refine Below.drew ?_))⟩
set_option maxRecDepth 100000 in
theorem ref_Take6_c (s : ByteArray) (n : Nat) (hs : s.size ≤ maxLen) (h1 : 16 ≤ s.size) (h2 : num 0 (s.data.toList.take 4) = n) (h3 : n ≤ 65536) (h4 : s.size < 16 + n) (w : World) :
    Calls Tryz.prog 46 #[.string s] w fun e w' => e = .returned (tfV ((0, []), 0, 3)) ∧ Below w.heap.size w w' := by
  have hn := Lib.hid (ref_num4 s n h1 h2)
  unfold maxLen at hs
  clear h2
  go_enter Tryz.func46, Tryz.ntmps46
  go_wp2_with fail
  refine (hn.out _).mono ?_
  rintro e w1 ⟨rfl, rfl⟩
  go_wp2_with fail
  refine bodyPost_ret (v := tfV ((0, []), 0, 3)) (by simp [results, Tryz.results46, go_sem, tfV]) rfl ⟨rfl, by (repeat (first | assumption | exact Below.refl _ _ | refine below_step (by assumption) ?_ | refine below_alloc' _ ?_ | refine below_drewN ?_ _ | refine Below.drew ?_))⟩

theorem ex48 (s : ByteArray) (n : Nat) : (s.extract 0 4 ++ s.extract 8 (16 + n)).data.toList = s.data.toList.take 4 ++ (s.data.toList.drop 8).take (8 + n) := by
  rw [ba_tl, ex_list, ex_list, List.drop_zero, Nat.sub_zero, show 16 + n - 8 = 8 + n by omega]
set_option maxRecDepth 100000 in
set_option maxHeartbeats 4000000 in
theorem ref_Take6_d (s : ByteArray) (n : Nat) (hs : s.size ≤ maxLen) (h1 : 16 ≤ s.size) (h2 : num 0 (s.data.toList.take 4) = n) (h3 : n ≤ 65536) (h4 : 16 + n ≤ s.size)
    (h5 : FrameP.crc (s.data.toList.take 4 ++ (s.data.toList.drop 8).take (8 + n)) ≠ num 0 ((s.data.toList.drop 4).take 4)) (w : World) :
    Calls Tryz.prog 46 #[.string s] w fun e w' => e = .returned (tfV ((0, []), 0, 4)) ∧ Below w.heap.size w w' := by
  have hn := Lib.hid (ref_num4 s n h1 h2)
  have hn2 := ref_back6 (s.extract 8 16) (by rw [ByteArray.size_extract]; omega)
  rw [ex_list] at hn2
  have hI := sgn8 s.data.toList
  have hn3 := ref_back6 (s.extract 4 8) (by rw [ByteArray.size_extract]; omega)
  have h48 : num 0 ((s.data.toList.drop 4).take 4) < 4294967296 := by
    have := num_lt ((s.data.toList.drop 4).take 4)
    have h5 : (256 : Nat) ^ ((s.data.toList.drop 4).take 4).length ≤ 256 ^ 4 := Nat.pow_le_pow_right (by omega) (by rw [List.length_take]; omega)
    omega
  rw [ex_list, show 8 - 4 = 4 from rfl, FrameP.sgn_of _ (by omega)] at hn3
  have hsum := gossamerref02_Sum (s.extract 0 4 ++ s.extract 8 (16 + n)) (by rw [ByteArray.size_append, ByteArray.size_extract, ByteArray.size_extract]; unfold maxLen; omega)
  rw [ex48 s n, crcN_crc] at hsum
  have zz : (s.extract 0 4).size ≤ 4 := by rw [ByteArray.size_extract]; omega
  have zz2 : (s.extract 8 (16 + n)).size ≤ 65544 := by rw [ByteArray.size_extract]; omega
  unfold maxLen at hs
  generalize FrameP.sgn (num 0 ((s.data.toList.drop 8).take (16 - 8))) = q at hn2 hI
  generalize FrameP.crc (s.data.toList.take 4 ++ (s.data.toList.drop 8).take (8 + n)) = cc at h5 hsum
  generalize num 0 ((s.data.toList.drop 4).take 4) = c2 at h5 hn3
  have hne : ((c2 : Int) != (cc : Int)) = true := by rw [bne_iff_ne]; omega
  have HN2 := Lib.hid hn2
  have HN3 := Lib.hid hn3
  have HSUM := Lib.hid hsum
  clear h2 h5 h48 hn2 hn3 hsum
  have g1 : (4 : Int) ≤ (s.size : Int) := by omega
  have g2 : (8 : Int) ≤ (s.size : Int) := by omega
  have g3 : (0 : Int) ≤ 16 + (n : Int) := by omega
  have g4 : (8 : Int) ≤ 16 + (n : Int) := by omega
  have g5 : 16 + (n : Int) ≤ (s.size : Int) := by omega
  have g6 : (16 : Int) ≤ 16 + (n : Int) := by omega
  have g7 : (16 : Int) ≤ (s.size : Int) := by omega
  have g8 : (0 : Int) ≤ (n : Int) := by omega
  have gtn : (16 + (n : Int)).toNat = 16 + n := by omega
  go_enter Tryz.func46, Tryz.ntmps46
  go_wp2_with fail
  refine (hn.out _).mono ?_
  rintro e w1 ⟨rfl, rfl⟩
  go_wp2_with fail
  refine wp_region_later (w.heap.size + 1) (by kernel_rfl) (by kernel_rfl) ?_
  repeat (go_big_quiet_step ((first
    | (go_at_call 72; with_reducible exact later_of_same _ (HN3.out _))
    | (go_at_call 73; with_reducible exact later_of_same _ (HSUM.out _)))))
  refine wpQuiet_nil ?_; intro _ hw'; obtain ⟨u, hw''⟩ := hw'; subst hw''
  have hbN : Below (w.alloc (.cells #[.int .i64 0, .string ⟨#[]⟩] 46)).heap.size (w.alloc (.cells #[.int .i64 0, .string ⟨#[]⟩] 46)) u.w := by rw [World.size_alloc]; exact u.h
  obtain ⟨c0, c1, f0, f1, hbw⟩ := box2 hbN
  clear hbN
  go_wp2_with fail
  refine bodyPost_ret (v := tfV ((0, []), 0, 4)) (by simp [results, Tryz.results46, go_sem, tfV, c0, c1]) rfl ⟨rfl, (hbw.setCell (Nat.le_refl _) _).setCell (Nat.le_refl _) _⟩
set_option maxRecDepth 100000 in
set_option maxHeartbeats 4000000 in
theorem ref_Take6_e (s : ByteArray) (n : Nat) (hs : s.size ≤ maxLen) (h1 : 16 ≤ s.size) (h2 : num 0 (s.data.toList.take 4) = n) (h3 : n ≤ 65536) (h4 : 16 + n ≤ s.size)
    (h5 : FrameP.crc (s.data.toList.take 4 ++ (s.data.toList.drop 8).take (8 + n)) = num 0 ((s.data.toList.drop 4).take 4))
    (h6 : FrameP.sgn (num 0 ((s.data.toList.drop 8).take 8)) < 1) (w : World) :
    Calls Tryz.prog 46 #[.string s] w fun e w' => e = .returned (tfV ((0, []), 0, 2)) ∧ Below w.heap.size w w' := by
  have hn := Lib.hid (ref_num4 s n h1 h2)
  have hn2 := ref_back6 (s.extract 8 16) (by rw [ByteArray.size_extract]; omega)
  rw [ex_list] at hn2
  have hI := sgn8 s.data.toList
  have hn3 := ref_back6 (s.extract 4 8) (by rw [ByteArray.size_extract]; omega)
  have h48 : num 0 ((s.data.toList.drop 4).take 4) < 4294967296 := by
    have := num_lt ((s.data.toList.drop 4).take 4)
    have h5 : (256 : Nat) ^ ((s.data.toList.drop 4).take 4).length ≤ 256 ^ 4 := Nat.pow_le_pow_right (by omega) (by rw [List.length_take]; omega)
    omega
  rw [ex_list, show 8 - 4 = 4 from rfl, FrameP.sgn_of _ (by omega)] at hn3
  have hsum := gossamerref02_Sum (s.extract 0 4 ++ s.extract 8 (16 + n)) (by rw [ByteArray.size_append, ByteArray.size_extract, ByteArray.size_extract]; unfold maxLen; omega)
  rw [ex48 s n, crcN_crc] at hsum
  have zz : (s.extract 0 4).size ≤ 4 := by rw [ByteArray.size_extract]; omega
  have zz2 : (s.extract 8 (16 + n)).size ≤ 65544 := by rw [ByteArray.size_extract]; omega
  unfold maxLen at hs
  generalize FrameP.sgn (num 0 ((s.data.toList.drop 8).take (16 - 8))) = q at hn2 hI h6
  generalize FrameP.crc (s.data.toList.take 4 ++ (s.data.toList.drop 8).take (8 + n)) = cc at h5 hsum
  generalize num 0 ((s.data.toList.drop 4).take 4) = c2 at h5 hn3
  have hne : ((c2 : Int) != (cc : Int)) = false := by rw [bne_eq_false_iff_eq]; omega
  have HN2 := Lib.hid hn2
  have HN3 := Lib.hid hn3
  have HSUM := Lib.hid hsum
  clear h2 h5 h48 hn2 hn3 hsum
  have g1 : (4 : Int) ≤ (s.size : Int) := by omega
  have g2 : (8 : Int) ≤ (s.size : Int) := by omega
  have g3 : (0 : Int) ≤ 16 + (n : Int) := by omega
  have g4 : (8 : Int) ≤ 16 + (n : Int) := by omega
  have g5 : 16 + (n : Int) ≤ (s.size : Int) := by omega
  have g6 : (16 : Int) ≤ 16 + (n : Int) := by omega
  have g7 : (16 : Int) ≤ (s.size : Int) := by omega
  have g8 : (0 : Int) ≤ (n : Int) := by omega
  have gtn : (16 + (n : Int)).toNat = 16 + n := by omega
  go_enter Tryz.func46, Tryz.ntmps46
  go_wp2_with fail
  refine (hn.out _).mono ?_
  rintro e w1 ⟨rfl, rfl⟩
  go_wp2_with fail
  refine wp_region_later (w.heap.size + 1) (by kernel_rfl) (by kernel_rfl) ?_
  repeat (go_big_quiet_step ((first
    | (go_at_call 72; with_reducible exact later_of_same _ (HN3.out _))
    | (go_at_call 73; with_reducible exact later_of_same _ (HSUM.out _)))))
  refine wpQuiet_nil ?_; intro _ hw'; obtain ⟨u, hw''⟩ := hw'; subst hw''
  have hbN : Below (w.alloc (.cells #[.int .i64 0, .string ⟨#[]⟩] 46)).heap.size (w.alloc (.cells #[.int .i64 0, .string ⟨#[]⟩] 46)) u.w := by rw [World.size_alloc]; exact u.h
  obtain ⟨c0, c1, f0, f1, hbw⟩ := box2 hbN
  clear hbN
  go_wp2_with (go_at_call 72; with_reducible refine (HN2.out _).mono ?_; rintro e w1 ⟨rfl, rfl⟩)
  refine bodyPost_ret (v := tfV ((0, []), 0, 2)) (by simp [results, Tryz.results46, go_sem, tfV, c0, c1]) rfl ⟨rfl, (hbw.setCell (Nat.le_refl _) _).setCell (Nat.le_refl _) _⟩
set_option maxRecDepth 100000 in
set_option maxHeartbeats 4000000 in
theorem ref_Take6_f (s : ByteArray) (n : Nat) (hs : s.size ≤ maxLen) (h1 : 16 ≤ s.size) (h2 : num 0 (s.data.toList.take 4) = n) (h3 : n ≤ 65536) (h4 : 16 + n ≤ s.size)
    (h5 : FrameP.crc (s.data.toList.take 4 ++ (s.data.toList.drop 8).take (8 + n)) = num 0 ((s.data.toList.drop 4).take 4))
    (h6 : ¬ FrameP.sgn (num 0 ((s.data.toList.drop 8).take 8)) < 1) (w : World) :
    Calls Tryz.prog 46 #[.string s] w fun e w' => e = .returned (tfV ((FrameP.sgn (num 0 ((s.data.toList.drop 8).take 8)), (s.data.toList.drop 16).take n), 16 + n, 0)) ∧ Below w.heap.size w w' := by
  have hn := Lib.hid (ref_num4 s n h1 h2)
  have hn2 := ref_back6 (s.extract 8 16) (by rw [ByteArray.size_extract]; omega)
  rw [ex_list] at hn2
  have hI := sgn8 s.data.toList
  have hn3 := ref_back6 (s.extract 4 8) (by rw [ByteArray.size_extract]; omega)
  have h48 : num 0 ((s.data.toList.drop 4).take 4) < 4294967296 := by
    have := num_lt ((s.data.toList.drop 4).take 4)
    have h5 : (256 : Nat) ^ ((s.data.toList.drop 4).take 4).length ≤ 256 ^ 4 := Nat.pow_le_pow_right (by omega) (by rw [List.length_take]; omega)
    omega
  rw [ex_list, show 8 - 4 = 4 from rfl, FrameP.sgn_of _ (by omega)] at hn3
  have hsum := gossamerref02_Sum (s.extract 0 4 ++ s.extract 8 (16 + n)) (by rw [ByteArray.size_append, ByteArray.size_extract, ByteArray.size_extract]; unfold maxLen; omega)
  rw [ex48 s n, crcN_crc] at hsum
  have zz : (s.extract 0 4).size ≤ 4 := by rw [ByteArray.size_extract]; omega
  have zz2 : (s.extract 8 (16 + n)).size ≤ 65544 := by rw [ByteArray.size_extract]; omega
  have HB := Lib.hid (show (⟨((s.data.toList.drop 16).take n).toArray⟩ : ByteArray) = s.extract 16 (16 + n) from ba_ext' (by rw [ex_list, show 16 + n - 16 = n by omega]))
  unfold tfV
  simp only
  rw [HB.out]
  unfold maxLen at hs
  generalize FrameP.sgn (num 0 ((s.data.toList.drop 8).take (16 - 8))) = q at hn2 hI h6 ⊢
  generalize FrameP.crc (s.data.toList.take 4 ++ (s.data.toList.drop 8).take (8 + n)) = cc at h5 hsum
  generalize num 0 ((s.data.toList.drop 4).take 4) = c2 at h5 hn3
  have hne : ((c2 : Int) != (cc : Int)) = false := by rw [bne_eq_false_iff_eq]; omega
  have HN2 := Lib.hid hn2
  have HN3 := Lib.hid hn3
  have HSUM := Lib.hid hsum
  clear h2 h5 h48 hn2 hn3 hsum
  have g1 : (4 : Int) ≤ (s.size : Int) := by omega
  have g2 : (8 : Int) ≤ (s.size : Int) := by omega
  have g3 : (0 : Int) ≤ 16 + (n : Int) := by omega
  have g4 : (8 : Int) ≤ 16 + (n : Int) := by omega
  have g5 : 16 + (n : Int) ≤ (s.size : Int) := by omega
  have g6 : (16 : Int) ≤ 16 + (n : Int) := by omega
  have g7 : (16 : Int) ≤ (s.size : Int) := by omega
  have g8 : (0 : Int) ≤ (n : Int) := by omega
  have gtn : (16 + (n : Int)).toNat = 16 + n := by omega
  go_enter Tryz.func46, Tryz.ntmps46
  go_wp2_with fail
  refine (hn.out _).mono ?_
  rintro e w1 ⟨rfl, rfl⟩
  go_wp2_with fail
  refine wp_region_later (w.heap.size + 1) (by kernel_rfl) (by kernel_rfl) ?_
  repeat (go_big_quiet_step ((first
    | (go_at_call 72; with_reducible exact later_of_same _ (HN3.out _))
    | (go_at_call 73; with_reducible exact later_of_same _ (HSUM.out _)))))
  refine wpQuiet_nil ?_; intro _ hw'; obtain ⟨u, hw''⟩ := hw'; subst hw''
  have hbN : Below (w.alloc (.cells #[.int .i64 0, .string ⟨#[]⟩] 46)).heap.size (w.alloc (.cells #[.int .i64 0, .string ⟨#[]⟩] 46)) u.w := by rw [World.size_alloc]; exact u.h
  obtain ⟨c0, c1, f0, f1, hbw⟩ := box2 hbN
  clear hbN
  go_wp2_with (go_at_call 72; with_reducible refine (HN2.out _).mono ?_; rintro e w1 ⟨rfl, rfl⟩)
  have gw : IntKind.i64.wrap (16 + (n : Int)) = 16 + (n : Int) := IntWalk.i64_in _ (by omega)
  go_region_held3 (fun _ => True) (trivial) (first | (go_at_call 72; refine (HN2.out _).mono ?_; rintro e w3 ⟨rfl, rfl⟩))
  clear gw
  go_wp2_with fail
  rw [show ((16 + n : Nat) : Int) = 16 + (n : Int) by omega]
  refine bodyPost_ret (v := .tuple #[.agg #[.int .i64 q, .string (s.extract 16 (16 + n))], .int .i64 (16 + (n : Int)), .int .i64 0]) (by simp [results, Tryz.results46, go_sem, c0, c1]) rfl ⟨rfl, ((hbw.setCell (Nat.le_refl _) _).setCell (Nat.le_refl _) _).drew⟩

theorem ref_Take6 (s : ByteArray) (hs : s.size ≤ maxLen) (w : World) :
    Calls Tryz.prog 46 #[.string s] w fun e w' => e = .returned (tfV (FrameP.take s.data.toList)) ∧ Below w.heap.size w w' := by
  have hz : s.data.toList.length = s.size := rfl
  unfold FrameP.take
  rw [hz]
  by_cases h1 : s.size < 16
  · rw [if_pos h1]; exact ref_Take6_a s h1 w
  rw [if_neg h1]
  by_cases h2 : 65536 < num 0 (s.data.toList.take 4)
  · rw [if_pos h2]; exact ref_Take6_b s _ hs (by omega) rfl h2 w
  rw [if_neg h2]
  by_cases h3 : s.size < 16 + num 0 (s.data.toList.take 4)
  · rw [if_pos h3]; exact ref_Take6_c s _ hs (by omega) rfl (by omega) h3 w
  rw [if_neg h3]
  by_cases h4 : FrameP.crc (s.data.toList.take 4 ++ (s.data.toList.drop 8).take (8 + num 0 (s.data.toList.take 4))) ≠ num 0 ((s.data.toList.drop 4).take 4)
  · rw [if_pos h4]; exact ref_Take6_d s _ hs (by omega) rfl (by omega) (by omega) h4 w
  rw [if_neg h4]
  have h4' : FrameP.crc (s.data.toList.take 4 ++ (s.data.toList.drop 8).take (8 + num 0 (s.data.toList.take 4))) = num 0 ((s.data.toList.drop 4).take 4) := Decidable.not_not.1 h4
  by_cases h5 : FrameP.sgn (num 0 ((s.data.toList.drop 8).take 8)) < 1
  · rw [if_pos h5]; exact ref_Take6_e s _ hs (by omega) rfl (by omega) (by omega) h4' h5 w
  · rw [if_neg h5]; exact ref_Take6_f s _ hs (by omega) rfl (by omega) (by omega) h4' h5 w
end Go.Proofs.YtcpmicinibfepaaGreatDoor
