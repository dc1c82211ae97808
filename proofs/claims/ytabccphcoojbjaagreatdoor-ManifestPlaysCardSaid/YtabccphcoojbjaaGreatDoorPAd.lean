/- Plain mathematics of frames (no program in sight): what is put is taken as it was, cut off it is too short, bursts are found, whole ones are told. -/
import Derived.Test.YtabccphcoojbjaaGreatDoorPAb
import Derived.Test.YtabccphcoojbjaaGreatDoorPAc
namespace Go.Proofs.YtabccphcoojbjaaGreatDoor.FrameP
open BigP


abbrev Bs := List UInt8
/-- a frame: its number, its data -/
abbrev Fr := Int × Bs
def crc (l : Bs) : Nat := (CrcP.sum l).toNat
/-- a number of 64 bits as one with a sign -/
def sgn (u : Nat) : Int := if u < 9223372036854775808 then u else (u : Int) - 18446744073709551616
def body (seq : Nat) (data : Bs) : Bs := big 8 seq ++ data
def enc (seq : Nat) (data : Bs) : Bs := big 4 data.length ++ (big 4 (crc (big 4 data.length ++ body seq data)) ++ body seq data)
/-- a frame's bytes, the error (1: argument, 12: too big) -/
def put (seq : Int) (data : Bs) : Bs × Int :=
  if seq < 1 then ([], 1) else if 65536 < data.length then ([], 12) else (enc seq.toNat data, 0)
/-- the frame that bytes begin with, how many bytes it has, the error -/
def take (s : Bs) : Fr × Nat × Int :=
  if s.length < 16 then ((0, []), 0, 3)
  else if 65536 < num 0 (s.take 4) then ((0, []), 0, 12)
  else if s.length < 16 + num 0 (s.take 4) then ((0, []), 0, 3)
  else if crc (s.take 4 ++ (s.drop 8).take (8 + num 0 (s.take 4))) ≠ num 0 ((s.drop 4).take 4) then ((0, []), 0, 4)
  else if sgn (num 0 ((s.drop 8).take 8)) < 1 then ((0, []), 0, 2)
  else ((sgn (num 0 ((s.drop 8).take 8)), (s.drop 16).take (num 0 (s.take 4))), 16 + num 0 (s.take 4), 0)

theorem crc_lt (l : Bs) : crc l < 4294967296 := (CrcP.sum l).isLt
theorem body_length (q : Nat) (d : Bs) : (body q d).length = 8 + d.length := by simp [body, big_length]
theorem enc_length (q : Nat) (d : Bs) : (enc q d).length = 16 + d.length := by simp [enc, big_length, body_length]; omega
theorem sgn_of (q : Nat) (h : q < 9223372036854775808) : sgn q = q := by simp [sgn, h]

/-- what of a text the taking looks at, where the text is parted -/
theorem parts (a c b d r : Bs) (ha : a.length = 4) (hc : c.length = 4) (hb : b.length = 8) :
    (a ++ (c ++ (b ++ d)) ++ r).take 4 = a ∧ ((a ++ (c ++ (b ++ d)) ++ r).drop 4).take 4 = c ∧ ((a ++ (c ++ (b ++ d)) ++ r).drop 8).take 8 = b ∧
    ((a ++ (c ++ (b ++ d)) ++ r).drop 8).take (8 + d.length) = b ++ d ∧ ((a ++ (c ++ (b ++ d)) ++ r).drop 16).take d.length = d := by
  have e1 : (a ++ (c ++ (b ++ d)) ++ r) = a ++ (c ++ (b ++ (d ++ r))) := by simp
  rw [e1]
  have d4 : (a ++ (c ++ (b ++ (d ++ r)))).drop 4 = c ++ (b ++ (d ++ r)) := by rw [← ha]; simp
  have d8 : (a ++ (c ++ (b ++ (d ++ r)))).drop 8 = b ++ (d ++ r) := by
    rw [show 8 = 4 + 4 from rfl, ← List.drop_drop, d4, ← hc]; simp
  have d16 : (a ++ (c ++ (b ++ (d ++ r)))).drop 16 = d ++ r := by
    rw [show 16 = 8 + 8 from rfl, ← List.drop_drop, d8]
    conv => lhs; arg 1; rw [← hb]
    simp
  refine ⟨?_, ?_, ?_, ?_, ?_⟩
  · rw [← ha]; simp
  · rw [d4, ← hc]; simp
  · rw [d8]; conv => lhs; arg 1; rw [← hb]
    simp
  · rw [d8, ← List.append_assoc, ← hb, ← List.length_append, List.take_left]
  · rw [d16]; simp

/-- any four parts: what is taken -/
theorem take_parts (a c b d r : Bs) (ha : a.length = 4) (hc : c.length = 4) (hb : b.length = 8) (hn : num 0 a = d.length) (hd : d.length ≤ 65536) :
    take (a ++ (c ++ (b ++ d)) ++ r) = if crc (a ++ (b ++ d)) ≠ num 0 c then ((0, []), 0, 4) else if sgn (num 0 b) < 1 then ((0, []), 0, 2) else ((sgn (num 0 b), d), 16 + d.length, 0) := by
  obtain ⟨p1, p2, p3, p4, p5⟩ := parts a c b d r ha hc hb
  unfold take
  rw [p1, p2, p3, hn, p4, p5]
  have hl : (a ++ (c ++ (b ++ d)) ++ r).length = 16 + d.length + r.length := by simp [ha, hc, hb]; omega
  rw [hl, if_neg (by omega), if_neg (by omega), if_neg (by omega)]

theorem take_enc (q : Nat) (d r : Bs) (hq1 : 1 ≤ q) (hq : q < 9223372036854775808) (hd : d.length ≤ 65536) : take (enc q d ++ r) = (((q : Int), d), 16 + d.length, 0) := by
  unfold enc body
  have hnum := num_big_lt 4 d.length (by omega)
  rw [take_parts _ _ _ _ _ (big_length 4 _) (big_length 4 _) (big_length 8 _) hnum hd, num_big_lt 4 _ (by have := crc_lt (big 4 d.length ++ (big 8 q ++ d)); omega), num_big_lt 8 q (by omega), sgn_of q hq]
  rw [if_neg (by simp), if_neg (by omega)]

/-- cut off anywhere it is too short -/
theorem take_cut (q : Nat) (d : Bs) (hd : d.length ≤ 65536) (k : Nat) (hk : k < 16 + d.length) : take ((enc q d).take k) = ((0, []), 0, 3) := by
  unfold take
  have hl : ((enc q d).take k).length = k := by rw [List.length_take, enc_length]; omega
  rw [hl]
  by_cases h : k < 16
  · rw [if_pos h]
  · rw [if_neg h]
    have h4 : ((enc q d).take k).take 4 = big 4 d.length := by
      rw [List.take_take, Nat.min_eq_left (by omega)]
      unfold enc
      have : (big 4 d.length).length = 4 := big_length 4 _
      conv => lhs; arg 1; rw [← this]
      simp
    rw [h4, num_big_lt 4 d.length (by omega), if_neg (by omega), if_pos hk]

theorem take_ok (s : Bs) (f : Fr) (n : Nat) (h : take s = (f, n, 0)) : n = 16 + f.2.length ∧ n ≤ s.length ∧ 1 ≤ f.1 ∧ f.1 < 9223372036854775808 ∧ f.2.length ≤ 65536 ∧ s.take n = enc f.1.toNat f.2 := by
  unfold take at h
  split at h
  · simp at h
  rename_i h1
  split at h
  · simp at h
  rename_i h2
  split at h
  · simp at h
  rename_i h3
  split at h
  · simp at h
  rename_i h4
  split at h
  · simp at h
  rename_i h5
  simp only [Prod.mk.injEq] at h
  obtain ⟨rfl, rfl, _⟩ := h
  have l1 : (s.take 4).length = 4 := by rw [List.length_take]; omega
  have l2 : ((s.drop 4).take 4).length = 4 := by rw [List.length_take, List.length_drop]; omega
  have l3 : ((s.drop 8).take 8).length = 8 := by rw [List.length_take, List.length_drop]; omega
  have l4 : ((s.drop 16).take (num 0 (s.take 4))).length = num 0 (s.take 4) := by rw [List.length_take, List.length_drop]; omega
  have hnl := num_lt ((s.drop 8).take 8)
  rw [l3] at hnl
  have h5' : 1 ≤ sgn (num 0 ((s.drop 8).take 8)) := by omega
  have hu : num 0 ((s.drop 8).take 8) < 9223372036854775808 := by
    rcases Nat.lt_or_ge (num 0 ((s.drop 8).take 8)) 9223372036854775808 with h | h
    · exact h
    · simp only [sgn, if_neg (Nat.not_lt.2 h)] at h5'; omega
  have hs := sgn_of _ hu
  rw [hs] at h5' ⊢
  simp only [l4]
  refine ⟨trivial, by omega, by omega, by omega, by omega, ?_⟩
  unfold enc body
  simp only [Int.toNat_natCast, l4]
  rw [big_num' 4 _ l1, big_num' 8 _ l3]
  have h4' : crc (s.take 4 ++ ((s.drop 8).take 8 ++ (s.drop 16).take (num 0 (s.take 4)))) = num 0 ((s.drop 4).take 4) := by
    have e : (s.drop 8).take (8 + num 0 (s.take 4)) = (s.drop 8).take 8 ++ (s.drop 16).take (num 0 (s.take 4)) := by
      rw [List.take_add, List.drop_drop]
    rw [e] at h4
    simpa using h4
  rw [h4', big_num' 4 _ l2]
  rw [show 16 + num 0 (s.take 4) = 4 + (4 + (8 + num 0 (s.take 4))) by omega, List.take_add, List.take_add, List.take_add, List.drop_drop, List.drop_drop]

/-- a frame whose number and data are changed by a burst of up to 32 bits -/
theorem take_burst (q : Nat) (d : Bs) (hd : d.length ≤ 65536) (v : BitVec 32) (k m : Nat) (hk : k + 4 + m = 8 + d.length) (hv : v ≠ 0#32) :
    take (big 4 d.length ++ (big 4 (crc (big 4 d.length ++ body q d)) ++ List.zipWith (· ^^^ ·) (body q d) (CrcP.burst v k m))) = ((0, []), 0, 4) := by
  have hz : (List.zipWith (· ^^^ ·) (body q d) (CrcP.burst v k m)).length = 8 + d.length := by
    rw [List.length_zipWith, body_length]; simp [CrcP.burst]; omega
  generalize hx : List.zipWith (· ^^^ ·) (body q d) (CrcP.burst v k m) = x at *
  have hx2 : x = x.take 8 ++ x.drop 8 := (List.take_append_drop 8 x).symm
  have lb : (x.take 8).length = 8 := by rw [List.length_take]; omega
  have ld : (x.drop 8).length = d.length := by rw [List.length_drop]; omega
  have hnum := num_big_lt 4 d.length (by omega)
  have := take_parts (big 4 d.length) (big 4 (crc (big 4 d.length ++ body q d))) (x.take 8) (x.drop 8) [] (big_length 4 _) (big_length 4 _) lb (by rw [hnum, ld]) (by omega)
  rw [List.append_nil, ← hx2] at this
  rw [this, if_pos]
  rw [num_big_lt 4 _ (by have := crc_lt (big 4 d.length ++ body q d); omega)]
  intro he
  have he2 : CrcP.sum (big 4 d.length ++ x) = CrcP.sum (big 4 d.length ++ body q d) := BitVec.eq_of_toNat_eq he
  unfold CrcP.sum at he2
  rw [CrcP.more_append, CrcP.more_append] at he2
  generalize CrcP.more 0#32 (big 4 d.length) = c at he2
  unfold CrcP.more at he2
  have he3 := congrArg (fun y => y ^^^ CrcP.all) he2
  simp only [BitVec.xor_assoc, BitVec.xor_self, BitVec.xor_zero] at he3
  rw [← hx] at he3
  exact CrcP.finds (body q d) v k m (by rw [body_length]; omega) hv _ he3

/-- the frames that bytes begin with, how many bytes they have, why no further one comes -/
def allF : Nat → Bs → List Fr × Nat × Int
  | 0, _ => ([], 0, 0)
  | f + 1, s =>
    if s = [] then ([], 0, 0)
    else match take s with
      | (x, n, e) => if e ≠ 0 then ([], 0, e) else match allF f (s.drop n) with
        | (l, m, e') => (x :: l, n + m, e')
def all (s : Bs) : List Fr × Nat × Int := allF s.length s

theorem allF_fuel (f : Nat) : ∀ (g : Nat) (s : Bs), s.length ≤ f → s.length ≤ g → allF f s = allF g s := by
  induction f with
  | zero => intro g s h _; have hs := List.eq_nil_of_length_eq_zero (Nat.le_zero.1 h); subst hs; cases g <;> simp [allF]
  | succ f ih =>
    intro g s h hg
    cases g with
    | zero => have hs := List.eq_nil_of_length_eq_zero (Nat.le_zero.1 hg); subst hs; simp [allF]
    | succ g =>
      simp only [allF]
      split
      · rfl
      · rcases ht : take s with ⟨x, n, e⟩
        simp only
        split
        · rfl
        · rename_i he
          have he0 : e = 0 := by simpa using he
          subst he0
          obtain ⟨h1, h2, _⟩ := take_ok s x n ht
          rw [ih g (s.drop n) (by rw [List.length_drop]; omega) (by rw [List.length_drop]; omega)]
theorem all_nil : all [] = ([], 0, 0) := rfl
theorem all_cons (s : Bs) (hs : s ≠ []) : all s = match take s with
    | (x, n, e) => if e ≠ 0 then ([], 0, e) else match all (s.drop n) with
      | (l, m, e') => (x :: l, n + m, e') := by
  have hl : 0 < s.length := List.length_pos_iff.2 hs
  unfold all
  obtain ⟨g, hg⟩ : ∃ g, s.length = g + 1 := ⟨s.length - 1, by omega⟩
  conv => lhs; rw [hg]
  simp only [allF, if_neg hs]
  rcases ht : take s with ⟨x, n, e⟩
  simp only
  split
  · rfl
  · rename_i he
    have he0 : e = 0 := by simpa using he
    subst he0
    obtain ⟨h1, h2, _⟩ := take_ok s x n ht
    rw [allF_fuel g (s.drop n).length (s.drop n) (by rw [List.length_drop]; omega) (Nat.le_refl _)]
end Go.Proofs.YtabccphcoojbjaaGreatDoor.FrameP
