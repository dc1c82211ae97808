/- Walks of layer 9 (code): names. -/
import Derived.Test.YtkhnmdmpkedifaaPackU
import Derived.Test.YtkhnmdmpkedifaaCodeP
import Derived.Test.YtkhnmdmpkedifaaStr
namespace Go.Proofs.Ytkhnmdmpkedifaa
open Go.ChangeShapes Go.WideShapes Go.ChangeAt Go.RowKit Go.Deep

theorem named_bad (l : List UInt8) (k : Nat) (h : k < l.length) (hb : ¬ (33 ≤ (l.getD k 0).toNat ∧ (l.getD k 0).toNat ≤ 126)) : CodeP.named l = false := by
  unfold CodeP.named
  have hk : l.getD k 0 = l[k] := by rw [List.getD_eq_getElem?_getD, List.getElem?_eq_getElem h]; rfl
  rw [hk] at hb
  have ha : l.all (fun c => decide (33 ≤ c.toNat) && decide (c.toNat ≤ 126)) = false := by
    rw [List.all_eq_false]
    exact ⟨l[k], List.getElem_mem h, by simpa using hb⟩
  rw [ha]; simp
theorem named_ok (l : List UInt8) (h : ∀ j, j < l.length → 33 ≤ (l.getD j 0).toNat ∧ (l.getD j 0).toNat ≤ 126) : CodeP.named l = (decide (1 ≤ l.length) && decide (l.length ≤ 24)) := by
  unfold CodeP.named
  have ha : l.all (fun c => decide (33 ≤ c.toNat) && decide (c.toNat ≤ 126)) = true := by
    rw [List.all_eq_true]
    intro c hc
    obtain ⟨j, hj, rfl⟩ := List.getElem_of_mem hc
    have := h j hj
    rw [List.getD_eq_getElem?_getD, List.getElem?_eq_getElem hj] at this
    simpa using this
  rw [ha]; simp

set_option maxRecDepth 100000 in
theorem code_named (s : ByteArray) (hs : s.size ≤ maxLen) (w : World) :
    Calls Try.prog 76 #[.string s] w fun e w' => e = .returned (.bool (CodeP.named s.data.toList)) ∧ Below w.heap.size w w' := by
  have hl : s.data.toList.length = s.size := rfl
  obtain ⟨fc, fb, fz⟩ := bytesWorld_facts w 5 s
  have HC := Lib.hid fc
  unfold maxLen at hs
  have HN1 := Lib.hid (fun k h hb => named_bad s.data.toList k h hb)
  have HN2 := Lib.hid (fun h => named_ok s.data.toList h)
  rw [hl] at HN1 HN2
  clear fc
  go_enter Try.func76, Try.ntmps76
  go_wp2_with fail
  generalize hW : Lib.bytesWorld w 5 s = W1 at HC fb fz ⊢
  clear hW
  go_loopw [8] (fun i wr => ∃ k : Nat, k ≤ s.size ∧ i = .int .i64 k ∧ wr = W1 ∧ ∀ j, j < k → 33 ≤ (s.data.toList.getD j 0).toNat ∧ (s.data.toList.getD j 0).toNat ≤ 126) (fun i _ => s.size - (intOf i).toNat)
  case atStart => exact ⟨0, by omega, rfl, rfl, fun j hj => by omega⟩
  case round =>
    obtain ⟨k, hk, rfl, rfl, hpre⟩ := hrel
    have HP := Lib.hid hpre
    clear hpre
    by_cases hlt : k < s.size
    · have hc := HC.out k hlt
      have HB := Lib.hid (fun hb => HN1.out k hlt hb)
      have hbt := (s.data.toList.getD k 0).toNat_lt
      have HPk := Lib.hid (fun (h1 : 33 ≤ (s.data.toList.getD k 0).toNat) (h2 : (s.data.toList.getD k 0).toNat ≤ 126) (j : Nat) (hj : j < k + 1) => (by
        rcases Nat.lt_or_ge j k with h | h
        · exact HP.out j h
        · obtain rfl : j = k := by omega
          exact ⟨h1, h2⟩ : 33 ≤ (s.data.toList.getD j 0).toNat ∧ (s.data.toList.getD j 0).toNat ≤ 126))
      generalize (s.data.toList.getD k 0).toNat = x at hc HB hbt HPk
      have hi0 : (0 : Int) ≤ (k : Int) := by omega
      have hi1 : (k : Int) < (s.size : Int) := by omega
      by_cases b1 : x ≤ 32
      · go_wp2_with fail
        go_ret
        exact ⟨by rw [HB.out (by omega)]; rfl, fb⟩
      · by_cases b2 : 126 < x
        · go_wp2_with fail
          go_ret
          exact ⟨by rw [HB.out (by omega)]; rfl, fb⟩
        · go_wp2_with fail
          exact ⟨⟨k + 1, by omega, by go_num, by simp, HPk.out (by omega) (by omega)⟩, by simp [intOf]; omega⟩
    · obtain rfl : k = s.size := by omega
      have hn := HN2.out HP.out
      have HN := Lib.hid hn
      clear hn
      by_cases h0 : s.size = 0
      · have he : s.toList.isEmpty = true := by
          rw [ByteArray.toList_eq, List.isEmpty_iff]
          exact List.eq_nil_of_length_eq_zero h0
        go_wp2_with fail
        go_ret
        exact ⟨by rw [HN.out, h0]; rfl, fb⟩
      · have he : s.toList.isEmpty = false := by
          rw [ByteArray.toList_eq]
          cases hx : s.data.toList with
          | nil => exact absurd (congrArg List.length hx) (by rw [hl]; simpa using h0)
          | cons a b => rfl
        by_cases h24 : s.size ≤ 24
        · have hd : decide ((s.size : Int) ≤ 24) = true := by rw [decide_eq_true_eq]; omega
          go_wp2_with fail
          go_ret
          exact ⟨by rw [HN.out, decide_eq_true (by omega), decide_eq_true h24]; rfl, fb⟩
        · have hd : decide ((s.size : Int) ≤ 24) = false := by rw [decide_eq_false_iff_not]; omega
          go_wp2_with fail
          go_ret
          exact ⟨by rw [HN.out, decide_eq_false h24, Bool.and_false]; rfl, fb⟩
set_option maxRecDepth 100000 in
theorem ref9_name (s : ByteArray) (hs : s.size ≤ maxLen) (w : World) :
    Calls Try.prog 62 #[.string s] w fun e w' => e = .returned (.bool (CodeP.named s.data.toList)) ∧ Below w.heap.size w w' := by
  have hl : s.data.toList.length = s.size := rfl
  unfold maxLen at hs
  have HN1 := Lib.hid (fun k h hb => named_bad s.data.toList k h hb)
  have HN2 := Lib.hid (fun h => named_ok s.data.toList h)
  rw [hl] at HN1 HN2
  have HG := Lib.hid (fun (k : Nat) (h : k < s.size) => (show s[k] = s.data.toList.getD k 0 by
    rw [List.getD_eq_getElem?_getD, List.getElem?_eq_getElem h]; rfl))
  go_enter Try.func62, Try.ntmps62
  go_wp2_with fail
  go_loopw [3] (fun i wr => ∃ k : Nat, k ≤ s.size ∧ i = .int .i64 k ∧ wr = w ∧ ∀ j, j < k → 33 ≤ (s.data.toList.getD j 0).toNat ∧ (s.data.toList.getD j 0).toNat ≤ 126) (fun i _ => s.size - (intOf i).toNat)
  case atStart => exact ⟨0, by omega, rfl, rfl, fun j hj => by omega⟩
  case round =>
    obtain ⟨k, hk, rfl, rfl, hpre⟩ := hrel
    have HP := Lib.hid hpre
    clear hpre
    by_cases hlt : k < s.size
    · have hg : s[k].toNat = (s.data.toList.getD k 0).toNat := by rw [HG.out k hlt]
      have HB := Lib.hid (fun hb => HN1.out k hlt hb)
      have hbt := (s.data.toList.getD k 0).toNat_lt
      have HPk := Lib.hid (fun (h1 : 33 ≤ (s.data.toList.getD k 0).toNat) (h2 : (s.data.toList.getD k 0).toNat ≤ 126) (j : Nat) (hj : j < k + 1) => (by
        rcases Nat.lt_or_ge j k with h | h
        · exact HP.out j h
        · obtain rfl : j = k := by omega
          exact ⟨h1, h2⟩ : 33 ≤ (s.data.toList.getD j 0).toNat ∧ (s.data.toList.getD j 0).toNat ≤ 126))
      generalize (s.data.toList.getD k 0).toNat = x at hg HB hbt HPk
      have hi0 : (0 : Int) ≤ (k : Int) := by omega
      have hi1 : (k : Int) < (s.size : Int) := by omega
      by_cases b1 : x ≤ 32
      · go_wp2_with fail
        go_ret
        exact ⟨by rw [HB.out (by omega)]; rfl, Below.refl _ _⟩
      · by_cases b2 : 126 < x
        · go_wp2_with fail
          go_ret
          exact ⟨by rw [HB.out (by omega)]; rfl, Below.refl _ _⟩
        · go_wp2_with fail
          exact ⟨⟨k + 1, by omega, by go_num, by simp, HPk.out (by omega) (by omega)⟩, by simp [intOf]; omega⟩
    · obtain rfl : k = s.size := by omega
      have HN := Lib.hid (HN2.out HP.out)
      by_cases h0 : s.size = 0
      · have hd : decide ((1 : Int) ≤ (s.size : Int)) = false := by rw [decide_eq_false_iff_not]; omega
        go_wp2_with fail
        go_ret
        exact ⟨by rw [HN.out, h0]; rfl, Below.refl _ _⟩
      · have hd1 : decide ((1 : Int) ≤ (s.size : Int)) = true := by rw [decide_eq_true_eq]; omega
        by_cases h24 : s.size ≤ 24
        · have hd : decide ((s.size : Int) ≤ 24) = true := by rw [decide_eq_true_eq]; omega
          go_wp2_with fail
          go_ret
          exact ⟨by rw [HN.out, decide_eq_true (by omega), decide_eq_true h24]; rfl, Below.refl _ _⟩
        · have hd : decide ((s.size : Int) ≤ 24) = false := by rw [decide_eq_false_iff_not]; omega
          go_wp2_with fail
          go_ret
          exact ⟨by rw [HN.out, decide_eq_false h24, Bool.and_false]; rfl, Below.refl _ _⟩
