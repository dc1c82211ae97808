/- The statements of layer 1 (vari): the walk of VariOrder. -/
import Derived.Test.YtaocmepffhochaaLaw01
namespace Go.Proofs.Ytaocmepffhochaa
open Go.ChangeShapes Go.WideShapes Go.ChangeAt Go.RowKit Go.Deep

theorem law01_VariOrder_long (a : SlI) (h : 40 < a.l.length) (w : World) :
    Calls Try.prog 8 #[.slice a.A a.l.length a.c] w fun e w' => e = .returned (.bool true) ∧ Below w.heap.size w w' := by
  go_enter Try.func8, Try.ntmps8
  go_wp2_with (go_at_call 20; refine (law01_awake _).mono ?_; rintro e w1 ⟨rfl, hb1⟩)
  go_ret
  exact ⟨rfl, by (repeat (first | assumption | exact Below.refl _ _ | refine below_step (by assumption) ?_ | refine below_alloc' _ ?_ | refine below_drewN ?_ _ | refine Below.drew ?_))⟩
theorem putsL_cons (n : Int) (r : List Int) : putsL (n :: r) = VariP.putI n ++ putsL r := by simp [putsL]
theorem putsB_drop (l : List Int) (k : Nat) (n : Int) (h : l[k]? = some n) : putsB (l.drop k) = putB n ++ putsB (l.drop (k + 1)) := by
  obtain ⟨hk, rfl⟩ := List.getElem?_eq_some_iff.1 h
  rw [List.drop_eq_getElem_cons hk]
  unfold putsB putB
  rw [putsL_cons, ba_append]
theorem ba_drop (a s : ByteArray) : (a ++ s).extract a.size (a ++ s).size = s := by
  have h : ((a ++ s).extract a.size (a ++ s).size).data.toList = s.data.toList := by
    rw [ByteArray.data_extract, Array.toList_extract, ByteArray.data_append, Array.toList_append, List.extract]
    have e : a.size = a.data.toList.length := rfl
    rw [e, List.drop_left]
    refine List.take_of_length_le ?_
    have : s.size = s.data.toList.length := rfl
    rw [ByteArray.size_append]; omega
  cases hx : (a ++ s).extract a.size (a ++ s).size with
  | mk d => rw [hx] at h; cases s; simp only [ByteArray.mk.injEq]; exact Array.toList_inj.1 h
theorem putsB_nil : putsB [] = ⟨#[]⟩ := rfl
theorem ba_drop' (a s : ByteArray) : (a ++ s).extract a.size (a.size + s.size) = s := by
  have := ba_drop a s
  rwa [ByteArray.size_append] at this
/-- what stands ahead of the rest is taken -/
theorem take_ahead (n : Int) (h0 : 0 ≤ n) (hn : I64 n) (s : ByteArray) : ((VariP.take 9 (putB n ++ s).data.toList).1 : Int) = n ∧ (VariP.take 9 (putB n ++ s).data.toList).2 = ((putB n).size, 0) := by
  rw [putB_pos n h0]
  have e : ((⟨(VariP.put n.toNat).toArray⟩ : ByteArray) ++ s).data.toList = VariP.put n.toNat ++ s.data.toList := by
    rw [ByteArray.data_append, Array.toList_append]
  rw [e, VariP.take_put9 _ _ (by unfold I64 at hn; omega)]
  refine ⟨?_, ?_⟩
  · show ((n.toNat : Nat) : Int) = n
    omega
  · have : (⟨(VariP.put n.toNat).toArray⟩ : ByteArray).size = (VariP.put n.toNat).length := by show (VariP.put n.toNat).toArray.size = _; simp
    rw [this]
theorem putB_mono (m n : Int) (h0 : 0 ≤ m) (h : m ≤ n) : (putB m).size ≤ (putB n).size := by
  rw [putB_pos m h0, putB_pos n (by omega)]
  show (VariP.put m.toNat).toArray.size ≤ (VariP.put n.toNat).toArray.size
  simp only [List.size_toArray]
  exact VariP.putF_mono 10 _ _ (by omega)
theorem putB_one (n : Int) (h0 : 0 ≤ n) : 1 ≤ (putB n).size := by
  rw [putB_pos n h0]
  show 1 ≤ (VariP.put n.toNat).toArray.size
  simp only [List.size_toArray]
  exact VariP.put_pos _

set_option maxHeartbeats 4000000 in
set_option maxRecDepth 100000 in
theorem law01_VariOrder_short (A : Option Addr) (c : Nat) (l : List Int) (h1 : l.length ≤ 40) (hi : ∀ n ∈ l, I64 n) (w : World) (hr : Rd w w.heap.size A (l.map (Value.int .i64))) :
    Calls Try.prog 8 #[.slice A l.length c] w fun e w' => e = .returned (.bool true) ∧ Below w.heap.size w w' := by
  have HI := Lib.hid hi
  have HR := Lib.hid hr
  clear hi hr
  go_enter Try.func8, Try.ntmps8
  go_wp2_with (go_at_call 29; refine (vari_All _ _ l (by omega) HI.out _ HR.out).mono ?_; rintro e w2 ⟨rfl, hb2⟩)
  go_loopw [3, 4] (fun s i wr => ∃ k : Nat, k ≤ l.length ∧ i = .int .i64 k ∧ s = .string (putsB (l.drop k)) ∧ Below w.heap.size w wr) (fun _ i _ => l.length - (intOf i).toNat)
  case atStart => exact ⟨0, by omega, rfl, rfl, hb2⟩
  case round =>
    obtain ⟨k, hk, rfl, rfl, hb⟩ := hrel
    by_cases hlt : k < l.length
    · obtain ⟨n, hk'⟩ : ∃ n, l[k]? = some n := ⟨l[k], List.getElem?_eq_getElem hlt⟩
      obtain ⟨ad, hA, hadl, hcell⟩ := HR.out.below hb k (.int .i64 n) (by rw [List.getElem?_map, hk']; rfl)
      have HD := Lib.hid (putsB_drop l k n hk')
      have hI := HI.out n (List.mem_of_getElem? hk')
      by_cases hn : n < 0
      · subst hA
        have HN := Lib.hid (putB_neg n hn)
        clear hk' hI
        go_wp2_with fail
        exact ⟨⟨k + 1, by omega, by go_num, by rw [HD.out, HN.out]; exact congrArg Value.string ByteArray.empty_append, by (repeat (first | assumption | exact Below.refl _ _ | refine below_step (by assumption) ?_ | refine below_alloc' _ ?_ | refine below_drewN ?_ _ | refine Below.drew ?_))⟩, by simp [intOf]; omega⟩
      · have hsz := putsB_size (l.drop (k + 1))
        rw [List.length_drop] at hsz
        have hps := putB_size n
        have hone := putB_one n (by omega)
        have hta := take_ahead n (by omega) hI (putsB (l.drop (k + 1)))
        have HT := Lib.hid (vari_Take_at (putB n ++ putsB (l.drop (k + 1))) (by rw [ByteArray.size_append]; unfold maxLen; omega) n (putB n).size 0 hta.1 hta.2)
        have HX := Lib.hid (ba_drop' (putB n) (putsB (l.drop (k + 1))))
        have hle : (putB n).size ≤ (putB n ++ putsB (l.drop (k + 1))).size := by rw [ByteArray.size_append]; omega
        rw [HD.out]
        have hP := Lib.hid (vari_Put n hI)
        clear hta HD
        generalize hrest : putsB (l.drop (k + 1)) = rest at HT HX hle hsz ⊢
        have HREST := Lib.hid hrest
        clear hrest
        cases k with
        | zero =>
          subst hA
          have hPm := hP
          rw [Addr.add_zero'] at hcell
          have hx := fun u : Later wr.heap.size wr => (u.h.cell (p := ad) (by have := hb.size; omega)).trans hcell
          clear hk' hI
          have hi1 : (0 : Int) < (l.length : Int) := by omega
          go_wp2_with fail
          refine wp_region_later wr.heap.size (by kernel_rfl) (by kernel_rfl) ?_
          repeat (go_big_quiet_step ((first
            | (go_at_call 21; with_reducible exact later_of _ (Nat.le_refl _) (hPm.out _))
            | (go_at_call 21; with_reducible exact later_of _ (Nat.le_refl _) (hP.out _)))))
          refine wpQuiet_nil ?_; intro _ hw'; obtain ⟨u, hw''⟩ := hw'; subst hw''
          go_wp2_with (go_at_call 25; refine (HT.out _).mono ?_; rintro e w1 ⟨rfl, rfl⟩)
          rw [HX.out]
          exact ⟨⟨0 + 1, by omega, by go_num, by rw [HREST.out], below_later hb u⟩, by simp [intOf]; omega⟩
        | succ j =>
          obtain ⟨m, hm'⟩ : ∃ m, l[j]? = some m := ⟨l[j], List.getElem?_eq_getElem (by omega)⟩
          obtain ⟨ad2, hA2, _, hcell2⟩ := HR.out.below hb j (.int .i64 m) (by rw [List.getElem?_map, hm']; rfl)
          obtain rfl : ad = ad2 := by rw [hA] at hA2; exact Option.some.inj hA2
          clear hA2
          subst hA
          have hIm := HI.out m (List.mem_of_getElem? hm')
          have hPm := Lib.hid (vari_Put m hIm)
          have hmono := Lib.hid (putB_mono m n)
          have hx := fun u : Later wr.heap.size wr => (u.h.cell (p := ad.add (j + 1)) (by rw [addr_add_block]; have := hb.size; omega)).trans hcell
          rw [Addr.add_succ'] at hcell hx
          have hy := fun u : Later wr.heap.size wr => (u.h.cell (p := ad.add j) (by rw [addr_add_block]; have := hb.size; omega)).trans hcell2
          clear hk' hm' hcell2 hI hIm
          have hi0 : (0 : Int) ≤ (j : Int) := by omega
          have hi1 : (j : Int) < (l.length : Int) := by omega
          have hi2 : (0 : Int) ≤ (j : Int) + 1 := by omega
          have hi3 : (j : Int) + 1 < (l.length : Int) := by omega
          by_cases hm0 : 0 ≤ m
          · by_cases hmn : m ≤ n
            · have hsz2 := hmono.out hm0 hmn
              have hd : decide ((putB n).size < (putB m).size) = false := by simp; omega
              go_wp2_with fail
              refine wp_region_later wr.heap.size (by kernel_rfl) (by kernel_rfl) ?_
              repeat (go_big_quiet_step ((first
                | (go_at_call 21; with_reducible exact later_of _ (Nat.le_refl _) (hPm.out _))
                | (go_at_call 21; with_reducible exact later_of _ (Nat.le_refl _) (hP.out _)))))
              refine wpQuiet_nil ?_; intro _ hw'; obtain ⟨u, hw''⟩ := hw'; subst hw''
              go_wp2_with (go_at_call 25; refine (HT.out _).mono ?_; rintro e w1 ⟨rfl, rfl⟩)
              rw [HX.out]
              exact ⟨⟨(j + 1) + 1, by omega, by go_num, by rw [HREST.out], below_later hb u⟩, by simp [intOf]; omega⟩
            · have hd : decide (m ≤ n) = false := by simp; omega
              go_wp2_with fail
              refine wp_region_later wr.heap.size (by kernel_rfl) (by kernel_rfl) ?_
              repeat (go_big_quiet_step ((first
                | (go_at_call 21; with_reducible exact later_of _ (Nat.le_refl _) (hPm.out _))
                | (go_at_call 21; with_reducible exact later_of _ (Nat.le_refl _) (hP.out _)))))
              refine wpQuiet_nil ?_; intro _ hw'; obtain ⟨u, hw''⟩ := hw'; subst hw''
              go_wp2_with (go_at_call 25; refine (HT.out _).mono ?_; rintro e w1 ⟨rfl, rfl⟩)
              rw [HX.out]
              exact ⟨⟨(j + 1) + 1, by omega, by go_num, by rw [HREST.out], below_later hb u⟩, by simp [intOf]; omega⟩
          · have hd : decide (0 ≤ m) = false := by simp; omega
            go_wp2_with fail
            refine wp_region_later wr.heap.size (by kernel_rfl) (by kernel_rfl) ?_
            repeat (go_big_quiet_step ((first
              | (go_at_call 21; with_reducible exact later_of _ (Nat.le_refl _) (hPm.out _))
              | (go_at_call 21; with_reducible exact later_of _ (Nat.le_refl _) (hP.out _)))))
            refine wpQuiet_nil ?_; intro _ hw'; obtain ⟨u, hw''⟩ := hw'; subst hw''
            go_wp2_with (go_at_call 25; refine (HT.out _).mono ?_; rintro e w1 ⟨rfl, rfl⟩)
            rw [HX.out]
            exact ⟨⟨(j + 1) + 1, by omega, by go_num, by rw [HREST.out], below_later hb u⟩, by simp [intOf]; omega⟩
    · rw [List.drop_eq_nil_of_le (by omega), putsB_nil]
      go_wp2_with (go_at_call 20; refine (law01_awake _).mono ?_; rintro e w4 ⟨rfl, hb4⟩)
      go_ret
      exact ⟨rfl, by (repeat (first | assumption | exact Below.refl _ _ | refine below_step (by assumption) ?_ | refine below_alloc' _ ?_ | refine below_drewN ?_ _ | refine Below.drew ?_))⟩

theorem law01_VariOrder (a : SlI) (hi : ∀ n ∈ a.l, I64 n) (w : World) (hr : Rd w w.heap.size a.A (a.l.map (Value.int .i64))) :
    Calls Try.prog 8 #[.slice a.A a.l.length a.c] w fun e w' => e = .returned (.bool true) ∧ Below w.heap.size w w' := by
  rcases Nat.lt_or_ge 40 a.l.length with h | h
  · exact law01_VariOrder_long a h w
  · exact law01_VariOrder_short a.A a.c a.l h hi w hr
end Go.Proofs.Ytaocmepffhochaa
