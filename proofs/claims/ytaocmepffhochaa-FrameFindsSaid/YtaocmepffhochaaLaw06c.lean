/- The statements of layer 6 (frame): the walk of FrameFinds. -/
import Derived.Test.YtaocmepffhochaaLaw06b
import Derived.Test.YtaocmepffhochaaLaw02c
namespace Go.Proofs.Ytaocmepffhochaa
open Go.ChangeShapes Go.WideShapes Go.ChangeAt Go.RowKit Go.Deep BigP

theorem xset_append (A B : List UInt8) (k : Nat) (c : UInt8) : xset (A ++ B) (A.length + k) c = A ++ xset B k c := by
  unfold xset
  rw [List.set_append_right _ _ (by omega), List.getD_eq_getElem?_getD, List.getElem?_append_right (by omega), List.getD_eq_getElem?_getD]
  simp
theorem xset4_append (A B : List UInt8) (k : Nat) (v : BitVec 32) : xset4 (A ++ B) (A.length + k) v = A ++ xset4 B k v := by
  unfold xset4
  rw [xset_append, Nat.add_assoc, xset_append, Nat.add_assoc, xset_append, Nat.add_assoc, xset_append]
theorem enc_burst (q : Nat) (d : List UInt8) (hd : d.length ≤ 65536) (v : BitVec 32) (k : Nat) (h8 : 8 ≤ k) (hk : k + 4 ≤ 16 + d.length) (hv : v ≠ 0#32) :
    FrameP.take (xset4 (FrameP.enc q d) k v) = ((0, []), 0, 4) := by
  unfold FrameP.enc
  have h1 : k = (big 4 d.length ++ big 4 (FrameP.crc (big 4 d.length ++ FrameP.body q d))).length + (k - 8) := by simp [big_length]; omega
  rw [← List.append_assoc, h1, xset4_append, xset4_burst (FrameP.body q d) (k - 8) (8 + d.length - (k - 8) - 4) v (by rw [FrameP.body_length]; omega), List.append_assoc]
  exact FrameP.take_burst q d hd v (k - 8) _ (by omega) hv
theorem mod_at11 (a n : Nat) (hn : 16 ≤ n) : ∃ k : Nat, 8 + (a : Int) % ((n : Int) - 11) = (k : Int) ∧ 8 ≤ k ∧ k + 4 ≤ n := by
  refine ⟨8 + a % (n - 11), ?_, by omega, ?_⟩
  · have : (n : Int) - 11 = ((n - 11 : Nat) : Int) := by omega
    rw [this]; rfl
  · have := Nat.mod_lt a (show 0 < n - 11 by omega)
    omega

theorem law06_FrameFinds_off (q : Int) (d : ByteArray) (a v : Int) (h : 200 < d.size ∨ q < 1 ∨ v = 0) (w : World) :
    Calls Try.prog 12 #[.agg #[.int .i64 q, .string d], .int .u16 a, .int .u32 v] w fun e w' => e = .returned (.bool true) ∧ Below w.heap.size w w' := by
  by_cases h1 : 200 < d.size
  · clear h
    go_enter Try.func12, Try.ntmps12
    go_wp2_with (go_at_call 31; refine (law06_awake _).mono ?_; rintro e w1 ⟨rfl, hb1⟩)
    go_ret
    exact ⟨rfl, by (repeat (first | assumption | exact Below.refl _ _ | refine below_step (by assumption) ?_ | refine below_alloc' _ ?_ | refine below_drewN ?_ _ | refine Below.drew ?_))⟩
  · by_cases h2 : q < 1
    · clear h
      go_enter Try.func12, Try.ntmps12
      go_wp2_with (go_at_call 31; refine (law06_awake _).mono ?_; rintro e w1 ⟨rfl, hb1⟩)
      go_ret
      exact ⟨rfl, by (repeat (first | assumption | exact Below.refl _ _ | refine below_step (by assumption) ?_ | refine below_alloc' _ ?_ | refine below_drewN ?_ _ | refine Below.drew ?_))⟩
    · have h3 : v = 0 := by omega
      subst h3
      clear h
      go_enter Try.func12, Try.ntmps12
      go_wp2_with (go_at_call 31; refine (law06_awake _).mono ?_; rintro e w1 ⟨rfl, hb1⟩)
      go_ret
      exact ⟨rfl, by (repeat (first | assumption | exact Below.refl _ _ | refine below_step (by assumption) ?_ | refine below_alloc' _ ?_ | refine below_drewN ?_ _ | refine Below.drew ?_))⟩

set_option maxHeartbeats 2000000 in
theorem law06_FrameFinds_on (q : Int) (hq : I64 q) (d : ByteArray) (a : Nat) (v : BitVec 32) (ha : a < 65536) (h1 : d.size ≤ 200) (h2 : 1 ≤ q) (hv : v ≠ 0#32) (w : World) :
    Calls Try.prog 12 #[.agg #[.int .i64 q, .string d], .int .u16 (a : Int), .int .u32 (v.toNat : Int)] w fun e w' => e = .returned (.bool true) ∧ Below w.heap.size w w' := by
  have hv0 : ((v.toNat : Int) == 0) = false := by
    rw [beq_eq_false_iff_ne]; intro e
    exact hv (BitVec.eq_of_toNat_eq (by simpa using (show v.toNat = 0 by omega)))
  have hz : d.data.toList.length = d.size := rfl
  have hp := frame_Put q d hq (by unfold maxLen; omega)
  unfold FrameP.put pfV at hp
  rw [if_neg (by omega), if_neg (by omega)] at hp
  simp only at hp
  obtain ⟨S, hS⟩ : ∃ S : ByteArray, (⟨(FrameP.enc q.toNat d.data.toList).toArray⟩ : ByteArray) = S := ⟨_, rfl⟩
  have hSl : S.data.toList = FrameP.enc q.toNat d.data.toList := by rw [← hS]
  have hsz : S.size = 16 + d.size := by show S.data.size = _; rw [← Array.length_toList, hSl, FrameP.enc_length, hz]
  rw [hS] at hp
  have HP := Lib.hid hp
  have HSL := Lib.hid hSl
  have HSZ := Lib.hid hsz
  have s1 : S.size ≤ 216 := by omega
  have s2 : 16 ≤ S.size := by omega
  obtain ⟨k, hk, hk8, hk4⟩ := mod_at11 a S.size s2
  have hm0 : (0 : Int) ≤ (a : Int) % ((S.size : Int) - 11) := by omega
  have hm1 : (a : Int) % ((S.size : Int) - 11) ≤ 300 := by omega
  have hvl := v.isLt
  clear hp hS hSl hsz hq hz
  go_enter Try.func12, Try.ntmps12
  go_wp2_with (go_at_call 32; with_reducible refine (HP.out _).mono ?_; rintro e w0 ⟨rfl, hb0'⟩; have bx := box2 hb0'; have b0 := bx.2.2.2.2; clear bx hb0')
  have HK := Lib.hid hk
  clear hk hm0 hm1
  have hh := HasBytes.new w0 5 S
  have hb := bytesWorld_below w0 5 S
  have hn : S.data.toList.length = S.size := rfl
  generalize hl0 : S.data.toList = l0 at hh hn
  have HL0 := Lib.hid hl0
  clear hl0
  generalize Lib.bytesWorld w0 5 S = w1 at hh hb ⊢
  refine wp_loop_rounds 5 ?_
  have hc := hh.1 k (l0.getD k 0) (getD_get _ _ (by omega))
  have hf := hh.2 k (by omega)
  have hs := hh.set k (l0.getD k 0 ^^^ CrcP.byteOf v 0) (by omega)
  have hy : (v.toNat : Int) % 256 = ((CrcP.byteOf v 0).toNat : Int) := by rw [byteOf_int]; simp
  have hq := Lib.hid (show l0.set k (l0.getD k 0 ^^^ CrcP.byteOf v 0) = xset l0 k (CrcP.byteOf v 0) from rfl)
  have hn2 : (l0.set k (l0.getD k 0 ^^^ CrcP.byteOf v 0)).length = S.size := by rw [List.length_set]; exact hn
  generalize hl1 : l0.set k (l0.getD k 0 ^^^ CrcP.byteOf v 0) = l1 at hs hq hn2
  clear hl1
  have HS := Lib.hid hs
  have HQ0 := Lib.hid hq.out
  clear hs hq hh hn
  have b1 := (l0.getD k 0).toNat_lt
  have b2 := (CrcP.byteOf v 0).toNat_lt
  generalize l0.getD k 0 = x at hc HS b1
  generalize hcv : CrcP.byteOf v 0 = y at hy HS b2
  have HCV0 := Lib.hid hcv
  clear hcv
  have hi0 : (0 : Int) ≤ (k : Int) := by omega
  have hi1 : (k : Int) < (S.size : Int) := by omega
  rw [rounds_succ]
  go_wp2
  refine wp_region_quiet_tail 17 (by kernel_rfl) (by kernel_rfl) ?_
  simp only [List.take_succ_cons, List.take_zero, List.drop_succ_cons, List.drop_zero]
  repeat (go_big_quiet_step (fail))
  refine wpQuiet_nil ?_; intro _ hw'; obtain ⟨u, hw''⟩ := hw'; subst hw''
  go_wp2
  rw [xor_u8]
  have hh := HS.out.drewN u
  have hb' : Below w0.heap.size w0 ((w1.setCell ⟨w0.heap.size, k, none⟩ (.int .u8 ((x ^^^ y).toNat : Int))).drewN u) := below_drewN (hb.setCell (Nat.le_refl _) _) u
  generalize (w1.setCell ⟨w0.heap.size, k, none⟩ (.int .u8 ((x ^^^ y).toNat : Int))).drewN u = w2_1 at hh hb' ⊢
  clear hb hc hf HS b1 b2 hy hi0 hi1
  have hb := hb'
  have hn := hn2
  clear hb' hn2
  have hc := hh.1 (k + 1) (l1.getD (k + 1) 0) (getD_get _ _ (by omega))
  have hf := hh.2 (k + 1) (by omega)
  have hs := hh.set (k + 1) (l1.getD (k + 1) 0 ^^^ CrcP.byteOf v 1) (by omega)
  have hy : (v.toNat : Int) / (256 : Int) % 256 = ((CrcP.byteOf v 1).toNat : Int) := by rw [byteOf_int]; simp
  have hq := Lib.hid (show l1.set (k + 1) (l1.getD (k + 1) 0 ^^^ CrcP.byteOf v 1) = xset l1 (k + 1) (CrcP.byteOf v 1) from rfl)
  have hn2 : (l1.set (k + 1) (l1.getD (k + 1) 0 ^^^ CrcP.byteOf v 1)).length = S.size := by rw [List.length_set]; exact hn
  generalize hl2 : l1.set (k + 1) (l1.getD (k + 1) 0 ^^^ CrcP.byteOf v 1) = l2 at hs hq hn2
  clear hl2
  have HS := Lib.hid hs
  have HQ1 := Lib.hid hq.out
  clear hs hq hh hn
  have b1 := (l1.getD (k + 1) 0).toNat_lt
  have b2 := (CrcP.byteOf v 1).toNat_lt
  generalize l1.getD (k + 1) 0 = x at hc HS b1
  generalize hcv : CrcP.byteOf v 1 = y at hy HS b2
  have HCV1 := Lib.hid hcv
  clear hcv
  have hi0 : (0 : Int) ≤ ((k : Int) + 1) := by omega
  have hi1 : ((k : Int) + 1) < (S.size : Int) := by omega
  rw [rounds_succ]
  go_wp2
  refine wp_region_quiet_tail 17 (by kernel_rfl) (by kernel_rfl) ?_
  simp only [List.take_succ_cons, List.take_zero, List.drop_succ_cons, List.drop_zero]
  repeat (go_big_quiet_step (fail))
  refine wpQuiet_nil ?_; intro _ hw'; obtain ⟨u, hw''⟩ := hw'; subst hw''
  go_wp2
  rw [xor_u8]
  have hh := HS.out.drewN u
  have hb' : Below w0.heap.size w0 ((w2_1.setCell ⟨w0.heap.size, (k + 1), none⟩ (.int .u8 ((x ^^^ y).toNat : Int))).drewN u) := below_drewN (hb.setCell (Nat.le_refl _) _) u
  generalize (w2_1.setCell ⟨w0.heap.size, (k + 1), none⟩ (.int .u8 ((x ^^^ y).toNat : Int))).drewN u = w2_2 at hh hb' ⊢
  clear hb hc hf HS b1 b2 hy hi0 hi1
  have hb := hb'
  have hn := hn2
  clear hb' hn2
  have hc := hh.1 (k + 2) (l2.getD (k + 2) 0) (getD_get _ _ (by omega))
  have hf := hh.2 (k + 2) (by omega)
  have hs := hh.set (k + 2) (l2.getD (k + 2) 0 ^^^ CrcP.byteOf v 2) (by omega)
  have hy : (v.toNat : Int) / (65536 : Int) % 256 = ((CrcP.byteOf v 2).toNat : Int) := by rw [byteOf_int]; simp
  have hq := Lib.hid (show l2.set (k + 2) (l2.getD (k + 2) 0 ^^^ CrcP.byteOf v 2) = xset l2 (k + 2) (CrcP.byteOf v 2) from rfl)
  have hn2 : (l2.set (k + 2) (l2.getD (k + 2) 0 ^^^ CrcP.byteOf v 2)).length = S.size := by rw [List.length_set]; exact hn
  generalize hl3 : l2.set (k + 2) (l2.getD (k + 2) 0 ^^^ CrcP.byteOf v 2) = l3 at hs hq hn2
  clear hl3
  have HS := Lib.hid hs
  have HQ2 := Lib.hid hq.out
  clear hs hq hh hn
  have b1 := (l2.getD (k + 2) 0).toNat_lt
  have b2 := (CrcP.byteOf v 2).toNat_lt
  generalize l2.getD (k + 2) 0 = x at hc HS b1
  generalize hcv : CrcP.byteOf v 2 = y at hy HS b2
  have HCV2 := Lib.hid hcv
  clear hcv
  have hi0 : (0 : Int) ≤ ((k : Int) + 2) := by omega
  have hi1 : ((k : Int) + 2) < (S.size : Int) := by omega
  rw [rounds_succ]
  go_wp2
  refine wp_region_quiet_tail 17 (by kernel_rfl) (by kernel_rfl) ?_
  simp only [List.take_succ_cons, List.take_zero, List.drop_succ_cons, List.drop_zero]
  repeat (go_big_quiet_step (fail))
  refine wpQuiet_nil ?_; intro _ hw'; obtain ⟨u, hw''⟩ := hw'; subst hw''
  go_wp2
  rw [xor_u8]
  have hh := HS.out.drewN u
  have hb' : Below w0.heap.size w0 ((w2_2.setCell ⟨w0.heap.size, (k + 2), none⟩ (.int .u8 ((x ^^^ y).toNat : Int))).drewN u) := below_drewN (hb.setCell (Nat.le_refl _) _) u
  generalize (w2_2.setCell ⟨w0.heap.size, (k + 2), none⟩ (.int .u8 ((x ^^^ y).toNat : Int))).drewN u = w2_3 at hh hb' ⊢
  clear hb hc hf HS b1 b2 hy hi0 hi1
  have hb := hb'
  have hn := hn2
  clear hb' hn2
  have hc := hh.1 (k + 3) (l3.getD (k + 3) 0) (getD_get _ _ (by omega))
  have hf := hh.2 (k + 3) (by omega)
  have hs := hh.set (k + 3) (l3.getD (k + 3) 0 ^^^ CrcP.byteOf v 3) (by omega)
  have hy : (v.toNat : Int) / (16777216 : Int) % 256 = ((CrcP.byteOf v 3).toNat : Int) := by rw [byteOf_int]; simp
  have hy' : (v.toNat : Int) / (16777216 : Int) = ((CrcP.byteOf v 3).toNat : Int) := by rw [← hy]; omega
  have hq := Lib.hid (show l3.set (k + 3) (l3.getD (k + 3) 0 ^^^ CrcP.byteOf v 3) = xset l3 (k + 3) (CrcP.byteOf v 3) from rfl)
  have hn2 : (l3.set (k + 3) (l3.getD (k + 3) 0 ^^^ CrcP.byteOf v 3)).length = S.size := by rw [List.length_set]; exact hn
  generalize hl4 : l3.set (k + 3) (l3.getD (k + 3) 0 ^^^ CrcP.byteOf v 3) = l4 at hs hq hn2
  clear hl4
  have HS := Lib.hid hs
  have HQ3 := Lib.hid hq.out
  clear hs hq hh hn
  have b1 := (l3.getD (k + 3) 0).toNat_lt
  have b2 := (CrcP.byteOf v 3).toNat_lt
  generalize l3.getD (k + 3) 0 = x at hc HS b1
  generalize hcv : CrcP.byteOf v 3 = y at hy hy' HS b2
  have HCV3 := Lib.hid hcv
  clear hcv
  have hi0 : (0 : Int) ≤ ((k : Int) + 3) := by omega
  have hi1 : ((k : Int) + 3) < (S.size : Int) := by omega
  rw [rounds_succ]
  go_wp2
  refine wp_region_quiet_tail 17 (by kernel_rfl) (by kernel_rfl) ?_
  simp only [List.take_succ_cons, List.take_zero, List.drop_succ_cons, List.drop_zero]
  repeat (go_big_quiet_step (fail))
  refine wpQuiet_nil ?_; intro _ hw'; obtain ⟨u, hw''⟩ := hw'; subst hw''
  go_wp2
  rw [xor_u8]
  have hh := HS.out.drewN u
  have hb' : Below w0.heap.size w0 ((w2_3.setCell ⟨w0.heap.size, (k + 3), none⟩ (.int .u8 ((x ^^^ y).toNat : Int))).drewN u) := below_drewN (hb.setCell (Nat.le_refl _) _) u
  generalize (w2_3.setCell ⟨w0.heap.size, (k + 3), none⟩ (.int .u8 ((x ^^^ y).toNat : Int))).drewN u = w2_4 at hh hb' ⊢
  clear hb hc hf HS b1 b2 hy hy' hi0 hi1
  have hb := hb'
  have hn := hn2
  clear hb' hn2
  have hcv : (convert 30 9 (.slice (some ⟨w0.heap.size, 0, none⟩) S.size (grownCap w0 S.size 0 5))).run Try.prog w2_4 = .ok (.string ⟨l4.toArray⟩) w2_4 := by
    rw [← hn]
    refine run_string_of _ Try.underlying30 Try.underlying5 Try.underlying9 _ _ l4 (fun j b hj => ?_)
    have e1 : (⟨w0.heap.size, 0, none⟩ : Addr).add j = ⟨w0.heap.size, j, none⟩ := by unfold Addr.add; split <;> simp_all
    rw [e1]
    exact hh.1 j b hj
  have ht := frame_Take ⟨l4.toArray⟩ (by show l4.toArray.size ≤ maxLen; rw [List.size_toArray, hn]; unfold maxLen; omega)
  have hl4 : l4 = xset4 l0 k v := by rw [HQ3.out, HQ2.out, HQ1.out, HQ0.out]; rfl
  have e4 : FrameP.take l4 = ((0, []), 0, 4) := by
    rw [hl4, ← HL0.out, HSL.out]
    exact enc_burst _ _ (by show d.size ≤ 65536; omega) v k hk8 (by show k + 4 ≤ 16 + d.size; have := HSZ.out; omega) hv
  rw [show (⟨l4.toArray⟩ : ByteArray).data.toList = l4 from rfl, e4] at ht
  unfold tfV at ht
  simp only at ht
  clear hl4 e4 hh hn
  have HT := Lib.hid ht
  clear ht
  rw [rounds_succ]
  go_wp2_with (first
    | (go_at_call 34; with_reducible refine (HT.out _).mono ?_; rintro e w5 ⟨rfl, hb5⟩)
    | (go_at_call 31; refine (law06_awake _).mono ?_; rintro e w7 ⟨rfl, hb7⟩))
  go_ret
  exact ⟨rfl, by (repeat (first | assumption | exact Below.refl _ _ | refine below_step (by assumption) ?_ | refine below_alloc' _ ?_ | refine below_drewN ?_ _ | refine Below.drew ?_))⟩
theorem law06_FrameFinds (x : Int × ByteArray) (hx : I64 x.1) (a v : Int) (ha : (Lit.int .u16 a).wf = true) (hv : (Lit.int .u32 v).wf = true) (w : World) :
    Calls Try.prog 12 #[.agg #[.int .i64 x.1, .string x.2], .int .u16 a, .int .u32 v] w fun e w' => e = .returned (.bool true) ∧ Below w.heap.size w w' := by
  have ha' : 0 ≤ a ∧ a ≤ 65535 := by simpa [Lit.wf, IntKind.min, IntKind.max, IntKind.signed, IntKind.bits] using ha
  have hv' : 0 ≤ v ∧ v ≤ 4294967295 := by simpa [Lit.wf, IntKind.min, IntKind.max, IntKind.signed, IntKind.bits] using hv
  by_cases h : 200 < x.2.size ∨ x.1 < 1 ∨ v = 0
  · exact law06_FrameFinds_off x.1 x.2 a v h w
  · obtain ⟨n, rfl⟩ := Int.eq_ofNat_of_zero_le ha'.1
    obtain ⟨m, rfl⟩ := Int.eq_ofNat_of_zero_le hv'.1
    have e : (m : Int) = ((BitVec.ofNat 32 m).toNat : Int) := by rw [BitVec.toNat_ofNat, Nat.mod_eq_of_lt (by omega)]
    have hne : BitVec.ofNat 32 m ≠ 0#32 := by
      intro hz
      rw [hz] at e
      simp at e
      omega
    rw [e]
    exact law06_FrameFinds_on x.1 hx x.2 n (BitVec.ofNat 32 m) (by omega) (by omega) (by omega) hne w
end Go.Proofs.Ytaocmepffhochaa
