/- Plain mathematics of what is the newest image (layer 34; no program in sight): its bytes, and what bytes tell. -/
import Derived.Test.YtabccphcoojbjaaGreatDoorPAa
import Derived.Test.YtabccphcoojbjaaGreatDoorPAd
namespace Go.Proofs.YtabccphcoojbjaaGreatDoor.ManP
open PackP


/-- the newest image and the one ahead of it -/
abbrev Mn := Int × Int
def mayM (m : Mn) : Bool := decide (0 < m.1) && (decide (0 ≤ m.2) && !decide (m.1 = m.2))
theorem mayM_iff {m : Mn} : mayM m = true ↔ 0 < m.1 ∧ 0 ≤ m.2 ∧ m.1 ≠ m.2 := by unfold mayM; simp
def crc4 (l : Bs) : Bs := BigP.big 4 (FrameP.crc l)
def bodyM (m : Mn) : Bs := VariP.putI m.1 ++ VariP.putI m.2
def putM (m : Mn) : Bs × Int := if mayM m then (bodyM m ++ crc4 (bodyM m), 0) else ([], 1)
def readM (l : Bs) : Mn × Int := (((rNum (l, 0)).1, (rNum (rNum (l, 0)).2).1), rEnd (rNum (rNum (l, 0)).2).2)
def takeM (s : Bs) : Mn × Int :=
  if s.length < 4 then ((0, 0), 3)
  else if crc4 (s.take (s.length - 4)) ≠ s.drop (s.length - 4) then ((0, 0), 4)
  else if (readM (s.take (s.length - 4))).2 ≠ 0 then ((0, 0), (readM (s.take (s.length - 4))).2)
  else if mayM (readM (s.take (s.length - 4))).1 = false then ((0, 0), 2)
  else ((readM (s.take (s.length - 4))).1, 0)
theorem crc4_len (l : Bs) : (crc4 l).length = 4 := BigP.big_length 4 _
theorem readM_put (m : Mn) (h : mayM m = true) (h1 : m.1 ≤ 9223372036854775807) (h2 : m.2 ≤ 9223372036854775807) : readM (bodyM m) = (m, 0) := by
  obtain ⟨a1, a2, _⟩ := mayM_iff.1 h
  have e1 : rNum (bodyM m, 0) = (m.1, (VariP.putI m.2, 0)) := by unfold bodyM; exact rNum_put _ _ (by omega) h1
  have e2 : rNum (VariP.putI m.2, 0) = (m.2, ([], 0)) := by have := rNum_put m.2 [] a2 h2; rwa [List.append_nil] at this
  unfold readM
  rw [e1, e2]
  rfl
theorem takeM_put (m : Mn) (h : mayM m = true) (h1 : m.1 ≤ 9223372036854775807) (h2 : m.2 ≤ 9223372036854775807) : takeM (bodyM m ++ crc4 (bodyM m)) = (m, 0) := by
  have hl : (bodyM m ++ crc4 (bodyM m)).length = (bodyM m).length + 4 := by rw [List.length_append, crc4_len]
  have e1 : (bodyM m ++ crc4 (bodyM m)).take ((bodyM m ++ crc4 (bodyM m)).length - 4) = bodyM m := by
    rw [hl, Nat.add_sub_cancel, List.take_left]
  have e2 : (bodyM m ++ crc4 (bodyM m)).drop ((bodyM m ++ crc4 (bodyM m)).length - 4) = crc4 (bodyM m) := by
    rw [hl, Nat.add_sub_cancel, List.drop_left]
  have hr := readM_put m h h1 h2
  unfold takeM
  rw [if_neg (by omega), e1, e2, if_neg (by simp), hr, if_neg (by simp), if_neg (by simp [h])]
end Go.Proofs.YtabccphcoojbjaaGreatDoor.ManP
