/- The statements of layer 2 (crc): the walk of CrcFinds. -/
import Derived.Test.YtaocmepffhochaaLaw02
namespace Go.Proofs.Ytaocmepffhochaa
open Go.ChangeShapes Go.WideShapes Go.ChangeAt Go.RowKit Go.Deep

/-- block B holds these bytes, and they may be written -/
def HasBytes (w : World) (B : Nat) (l : List UInt8) : Prop :=
  (∀ j b, l[j]? = some b → w.cell? ⟨B, j, none⟩ = some (.int .u8 (b.toNat : Int))) ∧ (∀ j, j < l.length → w.frozen? ⟨B, j, none⟩ = false)
theorem HasBytes.new (w : World) (e : TypeId) (s : ByteArray) : HasBytes (Lib.bytesWorld w e s) w.heap.size s.data.toList := by
  refine ⟨fun j b hb => ?_, fun j hj => ?_⟩
  · have hlt : j < s.size := (List.getElem?_eq_some_iff.1 hb).1
    rw [Lib.bytesWorld_cell w e s j hlt, List.getD_eq_getElem?_getD, hb]; rfl
  · have hs : (Lib.bytesCells w e s).size = s.size + (grownCap w s.size 0 e - s.size) := by simp [Lib.bytesCells]
    have hlt : j < s.size := hj
    simp [World.frozen?, Lib.bytesWorld_at_new]; omega
theorem HasBytes.set {w : World} {B : Nat} {l : List UInt8} (h : HasBytes w B l) (k : Nat) (c : UInt8) (hk : k < l.length) : HasBytes (w.setCell ⟨B, k, none⟩ (.int .u8 (c.toNat : Int))) B (l.set k c) := by
  refine ⟨fun j b hb => ?_, fun j hj => ?_⟩
  · by_cases hjk : j = k
    · subst hjk
      rw [List.getElem?_set_self hk] at hb
      obtain rfl := Option.some.inj hb
      exact World.cell?_setCell_same w _ _ (h.1 j l[j] (List.getElem?_eq_getElem hk))
    · rw [List.getElem?_set_ne (Ne.symm hjk)] at hb
      rw [World.cell?_setCell_other w _ _ _ (by intro e; injection e with _ e _; exact hjk e.symm)]
      exact h.1 j b hb
  · rw [List.length_set] at hj
    rw [World.frozen?_setCell]
    exact h.2 j hj
theorem HasBytes.drewN {w : World} {B : Nat} {l : List UInt8} (h : HasBytes w B l) (n : Nat) : HasBytes (w.drewN n) B l := h

def xset (l : List UInt8) (k : Nat) (c : UInt8) : List UInt8 := l.set k (l.getD k 0 ^^^ c)
theorem xset_length (l : List UInt8) (k : Nat) (c : UInt8) : (xset l k c).length = l.length := by simp [xset]
theorem xset_same (l : List UInt8) (k : Nat) (c : UInt8) (h : k < l.length) : (xset l k c)[k]? = some (l.getD k 0 ^^^ c) := by unfold xset; rw [List.getElem?_set_self h]
theorem xset_other (l : List UInt8) (k j : Nat) (c : UInt8) (h : j ≠ k) : (xset l k c)[j]? = l[j]? := by unfold xset; rw [List.getElem?_set_ne (Ne.symm h)]
theorem xset_getD (l : List UInt8) (k j : Nat) (c : UInt8) (h : j ≠ k) : (xset l k c).getD j 0 = l.getD j 0 := by rw [List.getD_eq_getElem?_getD, xset_other l k j c h, List.getD_eq_getElem?_getD]
def xset4 (l : List UInt8) (k : Nat) (v : BitVec 32) : List UInt8 := xset (xset (xset (xset l k (CrcP.byteOf v 0)) (k + 1) (CrcP.byteOf v 1)) (k + 2) (CrcP.byteOf v 2)) (k + 3) (CrcP.byteOf v 3)
theorem xset4_length (l : List UInt8) (k : Nat) (v : BitVec 32) : (xset4 l k v).length = l.length := by simp [xset4, xset_length]
theorem burst_get (v : BitVec 32) (k m j : Nat) (h : j < k + 4 + m) : (CrcP.burst v k m)[j]? = some (if j = k then CrcP.byteOf v 0 else if j = k + 1 then CrcP.byteOf v 1 else if j = k + 2 then CrcP.byteOf v 2 else if j = k + 3 then CrcP.byteOf v 3 else 0) := by
  unfold CrcP.burst
  rcases Nat.lt_or_ge j k with h1 | h1
  · rw [List.append_assoc, List.getElem?_append_left (by simpa using h1), List.getElem?_replicate, if_pos h1]
    rw [if_neg (by omega), if_neg (by omega), if_neg (by omega), if_neg (by omega)]
  · rcases Nat.lt_or_ge j (k + 4) with h2 | h2
    · rw [List.getElem?_append_left (by simp; omega), List.getElem?_append_right (by simpa using h1), List.length_replicate]
      have h3 : j = k ∨ j = k + 1 ∨ j = k + 2 ∨ j = k + 3 := by omega
      rcases h3 with rfl | rfl | rfl | rfl
      · simp
      · rw [show k + 1 - k = 1 by omega]; simp
      · rw [show k + 2 - k = 2 by omega]; simp
      · rw [show k + 3 - k = 3 by omega]; simp
    · rw [List.getElem?_append_right (by simp; omega), List.getElem?_replicate, if_pos (by simp; omega)]
      rw [if_neg (by omega), if_neg (by omega), if_neg (by omega), if_neg (by omega)]
theorem xset4_burst (l : List UInt8) (k m : Nat) (v : BitVec 32) (hl : l.length = k + 4 + m) : xset4 l k v = List.zipWith (· ^^^ ·) l (CrcP.burst v k m) := by
  apply List.ext_getElem?
  intro j
  rcases Nat.lt_or_ge j l.length with hj | hj
  · rw [List.getElem?_zipWith, burst_get v k m j (by omega), List.getElem?_eq_getElem hj]
    have hd : l.getD j 0 = l[j] := by rw [List.getD_eq_getElem?_getD, List.getElem?_eq_getElem hj]; rfl
    unfold xset4
    by_cases h0 : j = k
    · subst h0
      rw [xset_other _ _ _ _ (by omega), xset_other _ _ _ _ (by omega), xset_other _ _ _ _ (by omega), xset_same _ _ _ hj, hd, if_pos rfl]
    · by_cases h1 : j = k + 1
      · subst h1
        rw [xset_other _ _ _ _ (by omega), xset_other _ _ _ _ (by omega), xset_same _ _ _ (by rw [xset_length]; exact hj), xset_getD _ _ _ _ (by omega), hd, if_neg (by omega), if_pos rfl]
      · by_cases h2 : j = k + 2
        · subst h2
          rw [xset_other _ _ _ _ (by omega), xset_same _ _ _ (by rw [xset_length, xset_length]; exact hj), xset_getD _ _ _ _ (by omega), xset_getD _ _ _ _ (by omega), hd, if_neg (by omega), if_neg (by omega), if_pos rfl]
        · by_cases h3 : j = k + 3
          · subst h3
            rw [xset_same _ _ _ (by rw [xset_length, xset_length, xset_length]; exact hj), xset_getD _ _ _ _ (by omega), xset_getD _ _ _ _ (by omega), xset_getD _ _ _ _ (by omega), hd, if_neg (by omega), if_neg (by omega), if_neg (by omega), if_pos rfl]
          · rw [xset_other _ _ _ _ h3, xset_other _ _ _ _ h2, xset_other _ _ _ _ h1, xset_other _ _ _ _ h0, if_neg h0, if_neg h1, if_neg h2, if_neg h3, List.getElem?_eq_getElem hj]
            simp
  · rw [List.getElem?_eq_none (by rw [xset4_length]; exact hj), List.getElem?_eq_none (by rw [List.length_zipWith]; omega)]
theorem xor_u8 (c d : UInt8) : bits .xor .u8 (c.toNat : Int) (d.toNat : Int) = ((c ^^^ d).toNat : Int) := by
  rw [u8_xor_nat _ _ c.toNat_lt d.toNat_lt, UInt8.toNat_xor]
theorem byteOf_int (v : BitVec 32) (i : Nat) : ((CrcP.byteOf v i).toNat : Int) = (v.toNat : Int) / (2 ^ (8 * i) : Nat) % 256 := by
  unfold CrcP.byteOf
  rw [UInt8.toNat_ofNat_of_lt' (by show _ < 256; omega), Nat.shiftRight_eq_div_pow]
  omega
theorem getD_get (l : List UInt8) (k : Nat) (h : k < l.length) : l[k]? = some (l.getD k 0) := by
  rw [List.getD_eq_getElem?_getD, List.getElem?_eq_getElem h]; rfl
theorem mod_at (a n : Nat) (hn : 4 ≤ n) : ∃ k : Nat, (a : Int) % ((n : Int) - 3) = (k : Int) ∧ k + 4 ≤ n := by
  refine ⟨a % (n - 3), ?_, ?_⟩
  · have : (n : Int) - 3 = ((n - 3 : Nat) : Int) := by omega
    rw [this]; rfl
  · have := Nat.mod_lt a (show 0 < n - 3 by omega)
    omega

theorem crcN_finds (l : List UInt8) (k : Nat) (v : BitVec 32) (hk : k + 4 ≤ l.length) (hv : v ≠ 0#32) : crcN (xset4 l k v) ≠ crcN l := by
  rw [xset4_burst l k (l.length - k - 4) v (by omega)]
  unfold crcN CrcP.sum CrcP.more
  intro h
  have h2 : CrcP.run (0#32 ^^^ CrcP.all) (List.zipWith (· ^^^ ·) l (CrcP.burst v k (l.length - k - 4))) ^^^ CrcP.all = CrcP.run (0#32 ^^^ CrcP.all) l ^^^ CrcP.all := BitVec.eq_of_toNat_eq (Int.ofNat.inj h)
  have h3 := congrArg (fun y => y ^^^ CrcP.all) h2
  simp only [BitVec.xor_assoc, BitVec.xor_self, BitVec.xor_zero] at h3
  exact CrcP.finds l v k (l.length - k - 4) (by omega) hv _ h3

theorem law02_CrcFinds_off (s : ByteArray) (a v : Int) (h : 1024 < s.size ∨ s.size < 4 ∨ v = 0) (w : World) :
    Calls Try.prog 5 #[.string s, .int .u16 a, .int .u32 v] w fun e w' => e = .returned (.bool true) ∧ Below w.heap.size w w' := by
  by_cases h1 : 1024 < s.size
  · clear h
    go_enter Try.func5, Try.ntmps5
    go_wp2_with (go_at_call 19; refine (law02_awake _).mono ?_; rintro e w1 ⟨rfl, hb1⟩)
    go_ret
    exact ⟨rfl, by (repeat (first | assumption | exact Below.refl _ _ | refine below_step (by assumption) ?_ | refine below_alloc' _ ?_ | refine below_drewN ?_ _ | refine Below.drew ?_))⟩
  · by_cases h2 : s.size < 4
    · clear h
      go_enter Try.func5, Try.ntmps5
      go_wp2_with (go_at_call 19; refine (law02_awake _).mono ?_; rintro e w1 ⟨rfl, hb1⟩)
      go_ret
      exact ⟨rfl, by (repeat (first | assumption | exact Below.refl _ _ | refine below_step (by assumption) ?_ | refine below_alloc' _ ?_ | refine below_drewN ?_ _ | refine Below.drew ?_))⟩
    · have h3 : v = 0 := by omega
      subst h3
      clear h
      go_enter Try.func5, Try.ntmps5
      go_wp2_with (go_at_call 19; refine (law02_awake _).mono ?_; rintro e w1 ⟨rfl, hb1⟩)
      go_ret
      exact ⟨rfl, by (repeat (first | assumption | exact Below.refl _ _ | refine below_step (by assumption) ?_ | refine below_alloc' _ ?_ | refine below_drewN ?_ _ | refine Below.drew ?_))⟩

set_option maxHeartbeats 2000000 in
theorem law02_CrcFinds_on (s : ByteArray) (a : Nat) (v : BitVec 32) (ha : a < 65536) (h1 : s.size ≤ 1024) (h2 : 4 ≤ s.size) (hv : v ≠ 0#32) (w : World) :
    Calls Try.prog 5 #[.string s, .int .u16 (a : Int), .int .u32 (v.toNat : Int)] w fun e w' => e = .returned (.bool true) ∧ Below w.heap.size w w' := by
  have hv0 : ((v.toNat : Int) == 0) = false := by
    rw [beq_eq_false_iff_ne]; intro e
    exact hv (BitVec.eq_of_toNat_eq (by simpa using (show v.toNat = 0 by omega)))
  obtain ⟨k, hk, hk4⟩ := mod_at a s.size h2
  have hvl := v.isLt
  go_enter Try.func5, Try.ntmps5
  go_wp2
  rw [hk]
  have HK := Lib.hid hk
  clear hk
  have hh := HasBytes.new w 5 s
  have hb := bytesWorld_below w 5 s
  have hn : s.data.toList.length = s.size := rfl
  generalize hl0 : s.data.toList = l0 at hh hn
  have HL0 := Lib.hid hl0
  clear hl0
  generalize Lib.bytesWorld w 5 s = w1 at hh hb ⊢
  refine wp_loop_rounds 5 ?_
  have hc := hh.1 k (l0.getD k 0) (getD_get _ _ (by omega))
  have hf := hh.2 k (by omega)
  have hs := hh.set k (l0.getD k 0 ^^^ CrcP.byteOf v 0) (by omega)
  have hy : (v.toNat : Int) % 256 = ((CrcP.byteOf v 0).toNat : Int) := by rw [byteOf_int]; simp
  have hq := Lib.hid (show l0.set k (l0.getD k 0 ^^^ CrcP.byteOf v 0) = xset l0 k (CrcP.byteOf v 0) from rfl)
  have hn2 : (l0.set k (l0.getD k 0 ^^^ CrcP.byteOf v 0)).length = s.size := by rw [List.length_set]; exact hn
  generalize hl1 : l0.set k (l0.getD k 0 ^^^ CrcP.byteOf v 0) = l1 at hs hq hn2
  clear hl1
  have HS := Lib.hid hs
  have HQ0 := Lib.hid hq.out
  clear hs hq hh hn
  have b1 := (l0.getD k 0).toNat_lt
  have b2 := (CrcP.byteOf v 0).toNat_lt
  generalize l0.getD k 0 = x at hc HS b1
  generalize hcv : CrcP.byteOf v 0 = y at hy HS b2
  have HCV0 := Lib.hid hcv
  clear hcv
  have hi0 : (0 : Int) ≤ (k : Int) := by omega
  have hi1 : (k : Int) < (s.size : Int) := by omega
  rw [rounds_succ]
  go_wp2
  refine wp_region_quiet_tail 17 (by kernel_rfl) (by kernel_rfl) ?_
  simp only [List.take_succ_cons, List.take_zero, List.drop_succ_cons, List.drop_zero]
  repeat (go_big_quiet_step (fail))
  refine wpQuiet_nil ?_; intro _ hw'; obtain ⟨u, hw''⟩ := hw'; subst hw''
  go_wp2
  rw [xor_u8]
  have hh := HS.out.drewN u
  have hb' : Below w.heap.size w ((w1.setCell ⟨w.heap.size, k, none⟩ (.int .u8 ((x ^^^ y).toNat : Int))).drewN u) := below_drewN (hb.setCell (Nat.le_refl _) _) u
  generalize (w1.setCell ⟨w.heap.size, k, none⟩ (.int .u8 ((x ^^^ y).toNat : Int))).drewN u = w2_1 at hh hb' ⊢
  clear hb hc hf HS b1 b2 hy hi0 hi1
  have hb := hb'
  have hn := hn2
  clear hb' hn2
  have hc := hh.1 (k + 1) (l1.getD (k + 1) 0) (getD_get _ _ (by omega))
  have hf := hh.2 (k + 1) (by omega)
  have hs := hh.set (k + 1) (l1.getD (k + 1) 0 ^^^ CrcP.byteOf v 1) (by omega)
  have hy : (v.toNat : Int) / (256 : Int) % 256 = ((CrcP.byteOf v 1).toNat : Int) := by rw [byteOf_int]; simp
  have hq := Lib.hid (show l1.set (k + 1) (l1.getD (k + 1) 0 ^^^ CrcP.byteOf v 1) = xset l1 (k + 1) (CrcP.byteOf v 1) from rfl)
  have hn2 : (l1.set (k + 1) (l1.getD (k + 1) 0 ^^^ CrcP.byteOf v 1)).length = s.size := by rw [List.length_set]; exact hn
  generalize hl2 : l1.set (k + 1) (l1.getD (k + 1) 0 ^^^ CrcP.byteOf v 1) = l2 at hs hq hn2
  clear hl2
  have HS := Lib.hid hs
  have HQ1 := Lib.hid hq.out
  clear hs hq hh hn
  have b1 := (l1.getD (k + 1) 0).toNat_lt
  have b2 := (CrcP.byteOf v 1).toNat_lt
  generalize l1.getD (k + 1) 0 = x at hc HS b1
  generalize hcv : CrcP.byteOf v 1 = y at hy HS b2
  have HCV1 := Lib.hid hcv
  clear hcv
  have hi0 : (0 : Int) ≤ ((k : Int) + 1) := by omega
  have hi1 : ((k : Int) + 1) < (s.size : Int) := by omega
  rw [rounds_succ]
  go_wp2
  refine wp_region_quiet_tail 17 (by kernel_rfl) (by kernel_rfl) ?_
  simp only [List.take_succ_cons, List.take_zero, List.drop_succ_cons, List.drop_zero]
  repeat (go_big_quiet_step (fail))
  refine wpQuiet_nil ?_; intro _ hw'; obtain ⟨u, hw''⟩ := hw'; subst hw''
  go_wp2
  rw [xor_u8]
  have hh := HS.out.drewN u
  have hb' : Below w.heap.size w ((w2_1.setCell ⟨w.heap.size, (k + 1), none⟩ (.int .u8 ((x ^^^ y).toNat : Int))).drewN u) := below_drewN (hb.setCell (Nat.le_refl _) _) u
  generalize (w2_1.setCell ⟨w.heap.size, (k + 1), none⟩ (.int .u8 ((x ^^^ y).toNat : Int))).drewN u = w2_2 at hh hb' ⊢
  clear hb hc hf HS b1 b2 hy hi0 hi1
  have hb := hb'
  have hn := hn2
  clear hb' hn2
  have hc := hh.1 (k + 2) (l2.getD (k + 2) 0) (getD_get _ _ (by omega))
  have hf := hh.2 (k + 2) (by omega)
  have hs := hh.set (k + 2) (l2.getD (k + 2) 0 ^^^ CrcP.byteOf v 2) (by omega)
  have hy : (v.toNat : Int) / (65536 : Int) % 256 = ((CrcP.byteOf v 2).toNat : Int) := by rw [byteOf_int]; simp
  have hq := Lib.hid (show l2.set (k + 2) (l2.getD (k + 2) 0 ^^^ CrcP.byteOf v 2) = xset l2 (k + 2) (CrcP.byteOf v 2) from rfl)
  have hn2 : (l2.set (k + 2) (l2.getD (k + 2) 0 ^^^ CrcP.byteOf v 2)).length = s.size := by rw [List.length_set]; exact hn
  generalize hl3 : l2.set (k + 2) (l2.getD (k + 2) 0 ^^^ CrcP.byteOf v 2) = l3 at hs hq hn2
  clear hl3
  have HS := Lib.hid hs
  have HQ2 := Lib.hid hq.out
  clear hs hq hh hn
  have b1 := (l2.getD (k + 2) 0).toNat_lt
  have b2 := (CrcP.byteOf v 2).toNat_lt
  generalize l2.getD (k + 2) 0 = x at hc HS b1
  generalize hcv : CrcP.byteOf v 2 = y at hy HS b2
  have HCV2 := Lib.hid hcv
  clear hcv
  have hi0 : (0 : Int) ≤ ((k : Int) + 2) := by omega
  have hi1 : ((k : Int) + 2) < (s.size : Int) := by omega
  rw [rounds_succ]
  go_wp2
  refine wp_region_quiet_tail 17 (by kernel_rfl) (by kernel_rfl) ?_
  simp only [List.take_succ_cons, List.take_zero, List.drop_succ_cons, List.drop_zero]
  repeat (go_big_quiet_step (fail))
  refine wpQuiet_nil ?_; intro _ hw'; obtain ⟨u, hw''⟩ := hw'; subst hw''
  go_wp2
  rw [xor_u8]
  have hh := HS.out.drewN u
  have hb' : Below w.heap.size w ((w2_2.setCell ⟨w.heap.size, (k + 2), none⟩ (.int .u8 ((x ^^^ y).toNat : Int))).drewN u) := below_drewN (hb.setCell (Nat.le_refl _) _) u
  generalize (w2_2.setCell ⟨w.heap.size, (k + 2), none⟩ (.int .u8 ((x ^^^ y).toNat : Int))).drewN u = w2_3 at hh hb' ⊢
  clear hb hc hf HS b1 b2 hy hi0 hi1
  have hb := hb'
  have hn := hn2
  clear hb' hn2
  have hc := hh.1 (k + 3) (l3.getD (k + 3) 0) (getD_get _ _ (by omega))
  have hf := hh.2 (k + 3) (by omega)
  have hs := hh.set (k + 3) (l3.getD (k + 3) 0 ^^^ CrcP.byteOf v 3) (by omega)
  have hy : (v.toNat : Int) / (16777216 : Int) % 256 = ((CrcP.byteOf v 3).toNat : Int) := by rw [byteOf_int]; simp
  have hy' : (v.toNat : Int) / (16777216 : Int) = ((CrcP.byteOf v 3).toNat : Int) := by rw [← hy]; omega
  have hq := Lib.hid (show l3.set (k + 3) (l3.getD (k + 3) 0 ^^^ CrcP.byteOf v 3) = xset l3 (k + 3) (CrcP.byteOf v 3) from rfl)
  have hn2 : (l3.set (k + 3) (l3.getD (k + 3) 0 ^^^ CrcP.byteOf v 3)).length = s.size := by rw [List.length_set]; exact hn
  generalize hl4 : l3.set (k + 3) (l3.getD (k + 3) 0 ^^^ CrcP.byteOf v 3) = l4 at hs hq hn2
  clear hl4
  have HS := Lib.hid hs
  have HQ3 := Lib.hid hq.out
  clear hs hq hh hn
  have b1 := (l3.getD (k + 3) 0).toNat_lt
  have b2 := (CrcP.byteOf v 3).toNat_lt
  generalize l3.getD (k + 3) 0 = x at hc HS b1
  generalize hcv : CrcP.byteOf v 3 = y at hy hy' HS b2
  have HCV3 := Lib.hid hcv
  clear hcv
  have hi0 : (0 : Int) ≤ ((k : Int) + 3) := by omega
  have hi1 : ((k : Int) + 3) < (s.size : Int) := by omega
  rw [rounds_succ]
  go_wp2
  refine wp_region_quiet_tail 17 (by kernel_rfl) (by kernel_rfl) ?_
  simp only [List.take_succ_cons, List.take_zero, List.drop_succ_cons, List.drop_zero]
  repeat (go_big_quiet_step (fail))
  refine wpQuiet_nil ?_; intro _ hw'; obtain ⟨u, hw''⟩ := hw'; subst hw''
  go_wp2
  rw [xor_u8]
  have hh := HS.out.drewN u
  have hb' : Below w.heap.size w ((w2_3.setCell ⟨w.heap.size, (k + 3), none⟩ (.int .u8 ((x ^^^ y).toNat : Int))).drewN u) := below_drewN (hb.setCell (Nat.le_refl _) _) u
  generalize (w2_3.setCell ⟨w.heap.size, (k + 3), none⟩ (.int .u8 ((x ^^^ y).toNat : Int))).drewN u = w2_4 at hh hb' ⊢
  clear hb hc hf HS b1 b2 hy hy' hi0 hi1
  have hb := hb'
  have hn := hn2
  clear hb' hn2
  have hcv : (convert 30 9 (.slice (some ⟨w.heap.size, 0, none⟩) s.size (grownCap w s.size 0 5))).run Try.prog w2_4 = .ok (.string ⟨l4.toArray⟩) w2_4 := by
    rw [← hn]
    refine run_string_of _ Try.underlying30 Try.underlying5 Try.underlying9 _ _ l4 (fun j b hj => ?_)
    have e1 : (⟨w.heap.size, 0, none⟩ : Addr).add j = ⟨w.heap.size, j, none⟩ := by unfold Addr.add; split <;> simp_all
    rw [e1]
    exact hh.1 j b hj
  have h5 : ∀ w, Calls Try.prog 14 #[.slice (some ⟨w.heap.size, 0, none⟩) 1 1] (w.alloc (.cells #[.string ⟨l4.toArray⟩] 9)) fun e w' => e = .returned (.int .i64 (crcN l4)) ∧ Below w.heap.size w w' :=
    fun w => crc_Sum1 ⟨l4.toArray⟩ (by show l4.toArray.size ≤ maxLen; rw [List.size_toArray, hn]; unfold maxLen; omega) w
  have h6 : ∀ w, Calls Try.prog 14 #[.slice (some ⟨w.heap.size, 0, none⟩) 1 1] (w.alloc (.cells #[.string s] 9)) fun e w' => e = .returned (.int .i64 (crcN l0)) ∧ Below w.heap.size w w' := by
    rw [← HL0.out]
    exact fun w => crc_Sum1 s (by unfold maxLen; omega) w
  have hl4 : l4 = xset4 l0 k v := by rw [HQ3.out, HQ2.out, HQ1.out, HQ0.out]; rfl
  have hne : crcN l4 ≠ crcN l0 := by
    rw [hl4]
    exact crcN_finds l0 k v (by rw [← HL0.out]; exact hk4) hv
  clear hl4 hh hn
  generalize crcN l4 = n4 at h5 hne
  generalize crcN l0 = n0 at h6 hne
  have hb1 : (n4 == n0) = false := by rw [beq_eq_false_iff_ne]; exact hne
  have hb2 : (n4 != n0) = true := by rw [bne_iff_ne]; exact hne
  have H5 := Lib.hid h5
  have H6 := Lib.hid h6
  clear h5 h6 hne
  rw [rounds_succ]
  go_wp2_with fail
  refine (H5.out _).mono ?_
  rintro e w5 ⟨rfl, hb5⟩
  go_wp2_with fail
  refine (H6.out _).mono ?_
  rintro e w6 ⟨rfl, hb6⟩
  go_wp2_with fail
  refine (law02_awake _).mono ?_
  rintro e w7 ⟨rfl, hb7⟩
  go_wp2_with fail
  go_ret
  exact ⟨rfl, by (repeat (first | assumption | exact Below.refl _ _ | refine below_step (by assumption) ?_ | refine below_alloc' _ ?_ | refine below_drewN ?_ _ | refine Below.drew ?_))⟩
theorem law02_CrcFinds (s : ByteArray) (a v : Int) (ha : (Lit.int .u16 a).wf = true) (hv : (Lit.int .u32 v).wf = true) (w : World) :
    Calls Try.prog 5 #[.string s, .int .u16 a, .int .u32 v] w fun e w' => e = .returned (.bool true) ∧ Below w.heap.size w w' := by
  have ha' : 0 ≤ a ∧ a ≤ 65535 := by simpa [Lit.wf, IntKind.min, IntKind.max, IntKind.signed, IntKind.bits] using ha
  have hv' : 0 ≤ v ∧ v ≤ 4294967295 := by simpa [Lit.wf, IntKind.min, IntKind.max, IntKind.signed, IntKind.bits] using hv
  by_cases h : 1024 < s.size ∨ s.size < 4 ∨ v = 0
  · exact law02_CrcFinds_off s a v h w
  · obtain ⟨n, rfl⟩ := Int.eq_ofNat_of_zero_le ha'.1
    obtain ⟨m, rfl⟩ := Int.eq_ofNat_of_zero_le hv'.1
    have e : (m : Int) = ((BitVec.ofNat 32 m).toNat : Int) := by rw [BitVec.toNat_ofNat, Nat.mod_eq_of_lt (by omega)]
    have hne : BitVec.ofNat 32 m ≠ 0#32 := by
      intro hz
      rw [hz] at e
      simp at e
      omega
    rw [e]
    exact law02_CrcFinds_on s n (BitVec.ofNat 32 m) (by omega) (by omega) (by omega) hne w
end Go.Proofs.Ytaocmepffhochaa
