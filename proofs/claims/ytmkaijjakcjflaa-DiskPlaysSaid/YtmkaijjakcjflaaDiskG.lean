/- Walks of layer 7 (disk): is a text a name? -/
import Derived.Test.YtmkaijjakcjflaaDiskF
import Derived.Lib.OthersKept
import Derived.Laws.RangeAny
namespace Go.Proofs.Ytmkaijjakcjflaa
open Go.ChangeShapes Go.WideShapes Go.ChangeAt Go.RowKit Go.Deep DiskP

def letterI (r : Int) : Bool := decide ((97 ≤ r ∧ r ≤ 122) ∨ (48 ≤ r ∧ r ≤ 57) ∨ r = 46 ∨ r = 45)
def namedD (s : ByteArray) : Bool := s.data.toList.all (fun c => letterI (c.toNat : Int)) && (decide (1 ≤ s.size) && decide (s.size ≤ 24))
theorem disk_letter (r : Int) (w : World) : Calls Try.prog 55 #[.int .i32 r] w fun e w' => e = .returned (.bool (letterI r)) ∧ w = w' := by
  by_cases h1 : 97 ≤ r ∧ r ≤ 122
  · rw [show letterI r = true by unfold letterI; rw [decide_eq_true_eq]; exact .inl h1]
    obtain ⟨a1, a2⟩ := h1
    go_enter Try.func55, Try.ntmps55
    go_wp2_with fail
    go_ret
    exact ⟨rfl, rfl⟩
  · by_cases h2 : 48 ≤ r ∧ r ≤ 57
    · rw [show letterI r = true by unfold letterI; rw [decide_eq_true_eq]; exact .inr (.inl h2)]
      obtain ⟨a1, a2⟩ := h2
      have a3 : ¬ 97 ≤ r := by omega
      go_enter Try.func55, Try.ntmps55
      go_wp2_with fail
      go_ret
      exact ⟨rfl, rfl⟩
    · by_cases h3 : r = 46
      · subst h3
        go_enter Try.func55, Try.ntmps55
        go_wp2_with fail
        go_ret
        exact ⟨rfl, rfl⟩
      · by_cases h4 : r = 45
        · subst h4
          go_enter Try.func55, Try.ntmps55
          go_wp2_with fail
          go_ret
          exact ⟨rfl, rfl⟩
        · rw [show letterI r = false by unfold letterI; rw [decide_eq_false_iff_not]; omega]
          have b3 : (r == 46) = false := by rw [beq_eq_false_iff_ne]; exact h3
          have b4 : (r == 45) = false := by rw [beq_eq_false_iff_ne]; exact h4
          clear h3 h4
          by_cases c1 : 97 ≤ r
          · have c2 : ¬ r ≤ 122 := fun h => h1 ⟨c1, h⟩
            have c3 : ¬ r ≤ 57 := by omega
            have c4 : 48 ≤ r := by omega
            clear h1 h2
            go_enter Try.func55, Try.ntmps55
            go_wp2_with fail
            go_ret
            exact ⟨rfl, rfl⟩
          · by_cases c4 : 48 ≤ r
            · have c3 : ¬ r ≤ 57 := fun h => h2 ⟨c4, h⟩
              clear h1 h2
              go_enter Try.func55, Try.ntmps55
              go_wp2_with fail
              go_ret
              exact ⟨rfl, rfl⟩
            · clear h1 h2
              go_enter Try.func55, Try.ntmps55
              go_wp2_with fail
              go_ret
              exact ⟨rfl, rfl⟩
theorem named_at (s : ByteArray) (j : Nat) (h : j < s.size) : s.data.toList[j]? = some (s[j]'h) := by
  have h2 : j < s.data.toList.length := h
  rw [List.getElem?_eq_getElem h2]
  rfl
theorem named_no {s : ByteArray} {j : Nat} {h : j < s.size} (hb : letterI ((s[j]'h).toNat : Int) = false) : namedD s = false := by
  unfold namedD
  have ha : s.data.toList.all (fun c => letterI (c.toNat : Int)) = false := by
    rw [List.all_eq_false]
    exact ⟨s[j]'h, List.mem_of_getElem? (named_at s j h), by rw [hb]; simp⟩
  rw [ha]; rfl
theorem named_yes {s : ByteArray} (hb : ∀ j (h : j < s.size), letterI ((s[j]'h).toNat : Int) = true) : namedD s = (decide (1 ≤ s.size) && decide (s.size ≤ 24)) := by
  unfold namedD
  have ha : s.data.toList.all (fun c => letterI (c.toNat : Int)) = true := by
    rw [List.all_eq_true]
    intro c hc
    obtain ⟨j, hj, e⟩ := List.getElem_of_mem hc
    have := hb j hj
    rw [← e]
    exact this
  rw [ha]; rfl

set_option maxRecDepth 100000 in
theorem disk_named (s : ByteArray) (hs : s.size ≤ maxLen) (w : World) : Calls Try.prog 40 #[.string s] w fun e w' => e = .returned (.bool (namedD s)) ∧ Below w.heap.size w w' := by
  unfold maxLen at hs
  have HNO := Lib.hid (fun j (h : j < s.size) => named_no (s := s) (j := j) (h := h))
  have HYES := Lib.hid (named_yes (s := s))
  go_enter Try.func40, Try.ntmps40
  go_wp2_with fail
  go_loopw [] (fun wr => ∃ pos : Nat, pos ≤ s.size ∧ wr.heap[w.heap.size]? = some (.stringIter s pos) ∧ (∀ j (h : j < s.size), j < pos → letterI ((s[j]'h).toNat : Int) = true) ∧ Below w.heap.size w wr) (fun wr => s.size - wr.iterPos w.heap.size)
  case atStart => exact ⟨0, by omega, by have := World.iter_heap w s 0; simpa using this, fun j h hj => by omega, (Below.refl _ w).alloc (Nat.le_refl _) _⟩
  case round =>
    obtain ⟨pos, hpos, hit, hpre, hb⟩ := hrel
    have HPRE := Lib.hid hpre
    clear hpre
    by_cases hp : pos < s.size
    · by_cases ha : (s[pos]'hp).toNat < 128
      · have hnx := fun ty => Lib.run_next_ascii_at (P := Try.prog) wr w.heap.size s pos ty hit hp ha
        have hit2 := Lib.iterAt_heap wr w.heap.size s pos (pos + 1) hit
        have hb2 := Lib.below_iterAt hb (k := w.heap.size) (Nat.le_refl _) s (pos + 1)
        have HB := Lib.hid (HNO.out pos hp)
        have HPK := Lib.hid (fun (hl : letterI ((s[pos]'hp).toNat : Int) = true) (j : Nat) (h : j < s.size) (hj : j < pos + 1) => (by
          rcases Nat.lt_or_ge j pos with h1 | h1
          · exact HPRE.out j h h1
          · obtain rfl : j = pos := by omega
            exact hl : letterI ((s[j]'h).toNat : Int) = true))
        have HIT := Lib.hid hit
        generalize (s[pos]'hp).toNat = x at hnx HB HPK ha
        cases hl : letterI (x : Int) with
        | false =>
          go_wp2_with (go_at_call 55; refine (disk_letter _ _).mono ?_; rintro e w1 ⟨rfl, rfl⟩; rw [hl])
          go_ret
          exact ⟨by rw [HB.out hl]; rfl, hb2⟩
        | true =>
          go_wp2_with (go_at_call 55; refine (disk_letter _ _).mono ?_; rintro e w1 ⟨rfl, rfl⟩; rw [hl])
          refine ⟨⟨pos + 1, by omega, hit2, HPK.out hl, hb2⟩, ?_⟩
          simp only [World.iterPos, hit2, HIT.out]
          omega
      · have hd := decode_high s pos hp (by omega)
        have hnx := fun ty => Lib.run_next_any_at (P := Try.prog) wr w.heap.size s pos ty hit hp
        have hb2 := Lib.below_iterAt hb (k := w.heap.size) (Nat.le_refl _) s (pos + (Utf8.decode s pos).2)
        have HB := Lib.hid (HNO.out pos hp (by unfold letterI; rw [decide_eq_false_iff_not]; omega))
        have hl : letterI ((Utf8.decode s pos).1 : Int) = false := by unfold letterI; rw [decide_eq_false_iff_not]; omega
        clear hd
        generalize Utf8.decode s pos = dd at hnx hb2 hl
        go_wp2_with (go_at_call 55; refine (disk_letter _ _).mono ?_; rintro e w1 ⟨rfl, rfl⟩; rw [hl])
        go_ret
        exact ⟨by rw [HB.out]; rfl, hb2⟩
    · have hnx := fun ty => Lib.run_next_end_at (P := Try.prog) wr w.heap.size s pos ty hit hp
      have HY := Lib.hid (HYES.out (fun j h => HPRE.out j h (by omega)))
      by_cases h0 : s.size = 0
      · have he : s.toList.isEmpty = true := by
          rw [ByteArray.toList_eq, List.isEmpty_iff]
          exact List.eq_nil_of_length_eq_zero h0
        go_wp2_with fail
        go_ret
        exact ⟨by rw [HY.out, h0]; rfl, hb⟩
      · have he : s.toList.isEmpty = false := by
          rw [ByteArray.toList_eq, List.isEmpty_eq_false_iff]
          intro h
          exact h0 (congrArg List.length h)
        by_cases h24 : s.size ≤ 24
        · have d24 : decide ((s.size : Int) ≤ 24) = true := by rw [decide_eq_true_eq]; omega
          go_wp2_with fail
          go_ret
          exact ⟨by rw [HY.out, decide_eq_true h24, decide_eq_true (show 1 ≤ s.size by omega)]; rfl, hb⟩
        · have d24 : decide ((s.size : Int) ≤ 24) = false := by rw [decide_eq_false_iff_not]; omega
          go_wp2_with fail
          go_ret
          exact ⟨by rw [HY.out, decide_eq_false h24, Bool.and_false]; rfl, hb⟩
end Go.Proofs.Ytmkaijjakcjflaa
