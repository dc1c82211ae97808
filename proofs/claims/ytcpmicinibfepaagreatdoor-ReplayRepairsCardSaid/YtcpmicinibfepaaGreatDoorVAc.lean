/- Plain mathematics of frames (no program in sight): what is put is taken as it was, cut off it is too short, bursts are found, whole ones are told · Plain mathematics of frames one behind the other: how many bytes they have, and what stands behind them · Plain mathematics of frames one behind the other, cut off anywhere: the whole ones are told · Plain mathematics of logs that are read (no program in sight): the frames that bytes begin with that have the numbers that are wanted; the segments that are read. -/
import Derived.Test.YtcpmicinibfepaaGreatDoorVAa
import Derived.Test.YtcpmicinibfepaaGreatDoorVAb
namespace Go.Proofs.YtcpmicinibfepaaGreatDoor.FrameP
open BigP


abbrev Bs := List UInt8
/-- a frame: its number, its data -/
abbrev Fr := Int × Bs
def crc (l : Bs) : Nat := (CrcP.sum l).toNat
/-- a number of 64 bits as one with a sign -/
def sgn (u : Nat) : Int := if u < 9223372036854775808 then u else (u : Int) - 18446744073709551616
def body (seq : Nat) (data : Bs) : Bs := big 8 seq ++ data
def enc (seq : Nat) (data : Bs) : Bs := big 4 data.length ++ (big 4 (crc (big 4 data.length ++ body seq data)) ++ body seq data)
/-- a frame's bytes, the error (1: argument, 12: too big) -/
def put (seq : Int) (data : Bs) : Bs × Int :=
  if seq < 1 then ([], 1) else if 65536 < data.length then ([], 12) else (enc seq.toNat data, 0)
/-- the frame that bytes begin with, how many bytes it has, the error -/
def take (s : Bs) : Fr × Nat × Int :=
  if s.length < 16 then ((0, []), 0, 3)
  else if 65536 < num 0 (s.take 4) then ((0, []), 0, 12)
  else if s.length < 16 + num 0 (s.take 4) then ((0, []), 0, 3)
  else if crc (s.take 4 ++ (s.drop 8).take (8 + num 0 (s.take 4))) ≠ num 0 ((s.drop 4).take 4) then ((0, []), 0, 4)
  else if sgn (num 0 ((s.drop 8).take 8)) < 1 then ((0, []), 0, 2)
  else ((sgn (num 0 ((s.drop 8).take 8)), (s.drop 16).take (num 0 (s.take 4))), 16 + num 0 (s.take 4), 0)

theorem crc_lt (l : Bs) : crc l < 4294967296 := (CrcP.sum l).isLt
theorem body_length (q : Nat) (d : Bs) : (body q d).length = 8 + d.length := by simp [body, big_length]
theorem enc_length (q : Nat) (d : Bs) : (enc q d).length = 16 + d.length := by simp [enc, big_length, body_length]; omega
theorem sgn_of (q : Nat) (h : q < 9223372036854775808) : sgn q = q := by simp [sgn, h]

/-- what of a text the taking looks at, where the text is parted -/
theorem parts (a c b d r : Bs) (ha : a.length = 4) (hc : c.length = 4) (hb : b.length = 8) :
    (a ++ (c ++ (b ++ d)) ++ r).take 4 = a ∧ ((a ++ (c ++ (b ++ d)) ++ r).drop 4).take 4 = c ∧ ((a ++ (c ++ (b ++ d)) ++ r).drop 8).take 8 = b ∧
    ((a ++ (c ++ (b ++ d)) ++ r).drop 8).take (8 + d.length) = b ++ d ∧ ((a ++ (c ++ (b ++ d)) ++ r).drop 16).take d.length = d := by
  have e1 : (a ++ (c ++ (b ++ d)) ++ r) = a ++ (c ++ (b ++ (d ++ r))) := by simp
  rw [e1]
  have d4 : (a ++ (c ++ (b ++ (d ++ r)))).drop 4 = c ++ (b ++ (d ++ r)) := by rw [← ha]; simp
  have d8 : (a ++ (c ++ (b ++ (d ++ r)))).drop 8 = b ++ (d ++ r) := by
    rw [show 8 = 4 + 4 from rfl, ← List.drop_drop, d4, ← hc]; simp
  have d16 : (a ++ (c ++ (b ++ (d ++ r)))).drop 16 = d ++ r := by
    rw [show 16 = 8 + 8 from rfl, ← List.drop_drop, d8]
    conv => lhs; arg 1; rw [← hb]
    simp
  refine ⟨?_, ?_, ?_, ?_, ?_⟩
  · rw [← ha]; simp
  · rw [d4, ← hc]; simp
  · rw [d8]; conv => lhs; arg 1; rw [← hb]
    simp
  · rw [d8, ← List.append_assoc, ← hb, ← List.length_append, List.take_left]
  · rw [d16]; simp

/-- any four parts: what is taken -/
theorem take_parts (a c b d r : Bs) (ha : a.length = 4) (hc : c.length = 4) (hb : b.length = 8) (hn : num 0 a = d.length) (hd : d.length ≤ 65536) :
    take (a ++ (c ++ (b ++ d)) ++ r) = if crc (a ++ (b ++ d)) ≠ num 0 c then ((0, []), 0, 4) else if sgn (num 0 b) < 1 then ((0, []), 0, 2) else ((sgn (num 0 b), d), 16 + d.length, 0) := by
  obtain ⟨p1, p2, p3, p4, p5⟩ := parts a c b d r ha hc hb
  unfold take
  rw [p1, p2, p3, hn, p4, p5]
  have hl : (a ++ (c ++ (b ++ d)) ++ r).length = 16 + d.length + r.length := by simp [ha, hc, hb]; omega
  rw [hl, if_neg (by omega), if_neg (by omega), if_neg (by omega)]

theorem take_enc (q : Nat) (d r : Bs) (hq1 : 1 ≤ q) (hq : q < 9223372036854775808) (hd : d.length ≤ 65536) : take (enc q d ++ r) = (((q : Int), d), 16 + d.length, 0) := by
  unfold enc body
  have hnum := num_big_lt 4 d.length (by omega)
  rw [take_parts _ _ _ _ _ (big_length 4 _) (big_length 4 _) (big_length 8 _) hnum hd, num_big_lt 4 _ (by have := crc_lt (big 4 d.length ++ (big 8 q ++ d)); omega), num_big_lt 8 q (by omega), sgn_of q hq]
  rw [if_neg (by simp), if_neg (by omega)]

/-- cut off anywhere it is too short -/
theorem take_cut (q : Nat) (d : Bs) (hd : d.length ≤ 65536) (k : Nat) (hk : k < 16 + d.length) : take ((enc q d).take k) = ((0, []), 0, 3) := by
  unfold take
  have hl : ((enc q d).take k).length = k := by rw [List.length_take, enc_length]; omega
  rw [hl]
  by_cases h : k < 16
  · rw [if_pos h]
  · rw [if_neg h]
    have h4 : ((enc q d).take k).take 4 = big 4 d.length := by
      rw [List.take_take, Nat.min_eq_left (by omega)]
      unfold enc
      have : (big 4 d.length).length = 4 := big_length 4 _
      conv => lhs; arg 1; rw [← this]
      simp
    rw [h4, num_big_lt 4 d.length (by omega), if_neg (by omega), if_pos hk]

theorem take_ok (s : Bs) (f : Fr) (n : Nat) (h : take s = (f, n, 0)) : n = 16 + f.2.length ∧ n ≤ s.length ∧ 1 ≤ f.1 ∧ f.1 < 9223372036854775808 ∧ f.2.length ≤ 65536 ∧ s.take n = enc f.1.toNat f.2 := by
  unfold take at h
  split at h
  · simp at h
  rename_i h1
  split at h
  · simp at h
  rename_i h2
  split at h
  · simp at h
  rename_i h3
  split at h
  · simp at h
  rename_i h4
  split at h
  · simp at h
  rename_i h5
  simp only [Prod.mk.injEq] at h
  obtain ⟨rfl, rfl, _⟩ := h
  have l1 : (s.take 4).length = 4 := by rw [List.length_take]; omega
  have l2 : ((s.drop 4).take 4).length = 4 := by rw [List.length_take, List.length_drop]; omega
  have l3 : ((s.drop 8).take 8).length = 8 := by rw [List.length_take, List.length_drop]; omega
  have l4 : ((s.drop 16).take (num 0 (s.take 4))).length = num 0 (s.take 4) := by rw [List.length_take, List.length_drop]; omega
  have hnl := num_lt ((s.drop 8).take 8)
  rw [l3] at hnl
  have h5' : 1 ≤ sgn (num 0 ((s.drop 8).take 8)) := by omega
  have hu : num 0 ((s.drop 8).take 8) < 9223372036854775808 := by
    rcases Nat.lt_or_ge (num 0 ((s.drop 8).take 8)) 9223372036854775808 with h | h
    · exact h
    · simp only [sgn, if_neg (Nat.not_lt.2 h)] at h5'; omega
  have hs := sgn_of _ hu
  rw [hs] at h5' ⊢
  simp only [l4]
  refine ⟨trivial, by omega, by omega, by omega, by omega, ?_⟩
  unfold enc body
  simp only [Int.toNat_natCast, l4]
  rw [big_num' 4 _ l1, big_num' 8 _ l3]
  have h4' : crc (s.take 4 ++ ((s.drop 8).take 8 ++ (s.drop 16).take (num 0 (s.take 4)))) = num 0 ((s.drop 4).take 4) := by
    have e : (s.drop 8).take (8 + num 0 (s.take 4)) = (s.drop 8).take 8 ++ (s.drop 16).take (num 0 (s.take 4)) := by
      rw [List.take_add, List.drop_drop]
    rw [e] at h4
    simpa using h4
  rw [h4', big_num' 4 _ l2]
  rw [show 16 + num 0 (s.take 4) = 4 + (4 + (8 + num 0 (s.take 4))) by omega, List.take_add, List.take_add, List.take_add, List.drop_drop, List.drop_drop]

/-- a frame whose number and data are changed by a burst of up to 32 bits -/
theorem take_burst (q : Nat) (d : Bs) (hd : d.length ≤ 65536) (v : BitVec 32) (k m : Nat) (hk : k + 4 + m = 8 + d.length) (hv : v ≠ 0#32) :
    take (big 4 d.length ++ (big 4 (crc (big 4 d.length ++ body q d)) ++ List.zipWith (· ^^^ ·) (body q d) (CrcP.burst v k m))) = ((0, []), 0, 4) := by
  have hz : (List.zipWith (· ^^^ ·) (body q d) (CrcP.burst v k m)).length = 8 + d.length := by
    rw [List.length_zipWith, body_length]; simp [CrcP.burst]; omega
  generalize hx : List.zipWith (· ^^^ ·) (body q d) (CrcP.burst v k m) = x at *
  have hx2 : x = x.take 8 ++ x.drop 8 := (List.take_append_drop 8 x).symm
  have lb : (x.take 8).length = 8 := by rw [List.length_take]; omega
  have ld : (x.drop 8).length = d.length := by rw [List.length_drop]; omega
  have hnum := num_big_lt 4 d.length (by omega)
  have := take_parts (big 4 d.length) (big 4 (crc (big 4 d.length ++ body q d))) (x.take 8) (x.drop 8) [] (big_length 4 _) (big_length 4 _) lb (by rw [hnum, ld]) (by omega)
  rw [List.append_nil, ← hx2] at this
  rw [this, if_pos]
  rw [num_big_lt 4 _ (by have := crc_lt (big 4 d.length ++ body q d); omega)]
  intro he
  have he2 : CrcP.sum (big 4 d.length ++ x) = CrcP.sum (big 4 d.length ++ body q d) := BitVec.eq_of_toNat_eq he
  unfold CrcP.sum at he2
  rw [CrcP.more_append, CrcP.more_append] at he2
  generalize CrcP.more 0#32 (big 4 d.length) = c at he2
  unfold CrcP.more at he2
  have he3 := congrArg (fun y => y ^^^ CrcP.all) he2
  simp only [BitVec.xor_assoc, BitVec.xor_self, BitVec.xor_zero] at he3
  rw [← hx] at he3
  exact CrcP.finds (body q d) v k m (by rw [body_length]; omega) hv _ he3

/-- the frames that bytes begin with, how many bytes they have, why no further one comes -/
def allF : Nat → Bs → List Fr × Nat × Int
  | 0, _ => ([], 0, 0)
  | f + 1, s =>
    if s = [] then ([], 0, 0)
    else match take s with
      | (x, n, e) => if e ≠ 0 then ([], 0, e) else match allF f (s.drop n) with
        | (l, m, e') => (x :: l, n + m, e')
def all (s : Bs) : List Fr × Nat × Int := allF s.length s

theorem allF_fuel (f : Nat) : ∀ (g : Nat) (s : Bs), s.length ≤ f → s.length ≤ g → allF f s = allF g s := by
  induction f with
  | zero => intro g s h _; have hs := List.eq_nil_of_length_eq_zero (Nat.le_zero.1 h); subst hs; cases g <;> simp [allF]
  | succ f ih =>
    intro g s h hg
    cases g with
    | zero => have hs := List.eq_nil_of_length_eq_zero (Nat.le_zero.1 hg); subst hs; simp [allF]
    | succ g =>
      simp only [allF]
      split
      · rfl
      · rcases ht : take s with ⟨x, n, e⟩
        simp only
        split
        · rfl
        · rename_i he
          have he0 : e = 0 := by simpa using he
          subst he0
          obtain ⟨h1, h2, _⟩ := take_ok s x n ht
          rw [ih g (s.drop n) (by rw [List.length_drop]; omega) (by rw [List.length_drop]; omega)]
theorem all_nil : all [] = ([], 0, 0) := rfl
theorem all_cons (s : Bs) (hs : s ≠ []) : all s = match take s with
    | (x, n, e) => if e ≠ 0 then ([], 0, e) else match all (s.drop n) with
      | (l, m, e') => (x :: l, n + m, e') := by
  have hl : 0 < s.length := List.length_pos_iff.2 hs
  unfold all
  obtain ⟨g, hg⟩ : ∃ g, s.length = g + 1 := ⟨s.length - 1, by omega⟩
  conv => lhs; rw [hg]
  simp only [allF, if_neg hs]
  rcases ht : take s with ⟨x, n, e⟩
  simp only
  split
  · rfl
  · rename_i he
    have he0 : e = 0 := by simpa using he
    subst he0
    obtain ⟨h1, h2, _⟩ := take_ok s x n ht
    rw [allF_fuel g (s.drop n).length (s.drop n) (by rw [List.length_drop]; omega) (Nat.le_refl _)]
end Go.Proofs.YtcpmicinibfepaaGreatDoor.FrameP

namespace Go.Proofs.YtcpmicinibfepaaGreatDoor.FrameP

theorem all_bad (s : Bs) (x : Fr) (m : Nat) (er : Int) (hs : s ≠ []) (ht : take s = (x, m, er)) (he : er ≠ 0) : all s = ([], 0, er) := by
  rw [all_cons s hs, ht]; simp only [if_pos he]
theorem all_ok (s : Bs) (x : Fr) (m : Nat) (hs : s ≠ []) (ht : take s = (x, m, 0)) : all s = (x :: (all (s.drop m)).1, m + (all (s.drop m)).2.1, (all (s.drop m)).2.2) := by
  rw [all_cons s hs, ht]
  simp
/-- how many bytes frames have -/
def bytes (l : List Fr) : Nat := (l.map fun f => 16 + f.2.length).sum
theorem bytes_cons (f : Fr) (l : List Fr) : bytes (f :: l) = (16 + f.2.length) + bytes l := by simp [bytes]
theorem bytes_snoc (l : List Fr) (f : Fr) : bytes (l ++ [f]) = bytes l + (16 + f.2.length) := by simp [bytes]
theorem take_len (s : Bs) (x : Fr) (m : Nat) (ht : take s = (x, m, 0)) : m = 16 + x.2.length ∧ m ≤ s.length := ⟨(take_ok s x m ht).1, (take_ok s x m ht).2.1⟩
theorem all_facts (n : Nat) : ∀ s : Bs, s.length ≤ n → bytes (all s).1 = (all s).2.1 ∧ (all s).2.1 ≤ s.length ∧ 16 * (all s).1.length ≤ (all s).2.1 ∧
    ((all s).2.1 = s.length → (all s).2.2 = 0) ∧ ((all s).2.1 < s.length → (take (s.drop (all s).2.1)).2.2 = (all s).2.2 ∧ (all s).2.2 ≠ 0) := by
  induction n with
  | zero =>
    intro s h
    obtain rfl := List.eq_nil_of_length_eq_zero (Nat.le_zero.1 h)
    rw [all_nil]; simp [bytes]
  | succ n ih =>
    intro s h
    by_cases hs : s = []
    · subst hs; rw [all_nil]; simp [bytes]
    · rcases ht : take s with ⟨x, m, er⟩
      by_cases he : er = 0
      · subst he
        obtain ⟨h1, h2⟩ := take_len s x m ht
        rw [all_ok s x m hs ht]
        obtain ⟨i1, i2, i3, i4, i5⟩ := ih (s.drop m) (by rw [List.length_drop]; omega)
        rw [List.length_drop] at i2 i4 i5
        simp only
        refine ⟨by rw [bytes_cons, i1, h1], by omega, by rw [List.length_cons]; omega, fun e => i4 (by omega), fun e => ?_⟩
        rw [← List.drop_drop]
        exact i5 (by omega)
      · rw [all_bad s x m er hs ht he]
        have hl : 0 < s.length := List.length_pos_iff.2 hs
        refine ⟨by simp [bytes], by simp, by simp, fun e => by simp at e; omega, fun _ => ?_⟩
        rw [List.drop_zero, ht]
        exact ⟨rfl, he⟩
end Go.Proofs.YtcpmicinibfepaaGreatDoor.FrameP

namespace Go.Proofs.YtcpmicinibfepaaGreatDoor.FrameP

/-- frames that may be -/
def Good (f : Fr) : Prop := 1 ≤ f.1 ∧ f.1 < 9223372036854775808 ∧ f.2.length ≤ 65536
/-- frames one behind the other -/
def encs (l : List Fr) : Bs := l.flatMap fun f => enc f.1.toNat f.2
theorem encs_length (l : List Fr) : (encs l).length = bytes l := by
  induction l with
  | nil => rfl
  | cons f r ih => rw [bytes_cons, ← ih, ← enc_length f.1.toNat f.2]; simp [encs]
theorem encs_snoc (l : List Fr) (f : Fr) : encs (l ++ [f]) = encs l ++ enc f.1.toNat f.2 := by simp [encs]
/-- how many are whole in so many bytes -/
def cnt : List Fr → Nat → Nat
  | [], _ => 0
  | f :: r, k => if 16 + f.2.length ≤ k then cnt r (k - (16 + f.2.length)) + 1 else 0
theorem cnt_le (l : List Fr) : ∀ k, cnt l k ≤ l.length := by
  induction l with
  | nil => intro k; exact Nat.le_refl _
  | cons f r ih => intro k; unfold cnt; split <;> simp; exact ih _
theorem cnt_in (l : List Fr) : ∀ k j, j ≤ cnt l k → bytes (l.take j) ≤ k := by
  induction l with
  | nil => intro k j _; simp [bytes]
  | cons f r ih =>
    intro k j h
    unfold cnt at h
    split at h
    · cases j with
      | zero => simp [bytes]
      | succ j =>
        have := ih (k - (16 + f.2.length)) j (by omega)
        rw [List.take_succ_cons, bytes_cons]; omega
    · obtain rfl : j = 0 := by omega
      simp [bytes]
theorem cnt_out (l : List Fr) : ∀ k, cnt l k < l.length → k < bytes (l.take (cnt l k + 1)) := by
  induction l with
  | nil => intro k h; simp at h
  | cons f r ih =>
    intro k h
    unfold cnt at h ⊢
    split at h
    · rename_i h1
      rw [if_pos h1, List.take_succ_cons, bytes_cons]
      have := ih (k - (16 + f.2.length)) (by simp at h; omega)
      omega
    · rename_i h1
      rw [if_neg h1, List.take_succ_cons, bytes_cons]; omega
theorem bytes_take_le (l : List Fr) : ∀ j, bytes (l.take j) ≤ bytes l := by
  induction l with
  | nil => intro j; simp [bytes]
  | cons f r ih =>
    intro j
    cases j with
    | zero => simp [bytes]
    | succ j => rw [List.take_succ_cons, bytes_cons, bytes_cons]; have := ih j; omega
theorem all_cut (l : List Fr) : (∀ f ∈ l, Good f) → ∀ k, k ≤ bytes l → all ((encs l).take k) = (l.take (cnt l k), bytes (l.take (cnt l k)), if bytes (l.take (cnt l k)) = k then 0 else 3) := by
  induction l with
  | nil =>
    intro _ k h
    obtain rfl : k = 0 := by simp [bytes] at h; exact h
    simp [encs, all_nil, cnt, bytes]
  | cons f r ih =>
    intro hg k hk
    obtain ⟨g1, g2, g3⟩ := hg f (List.mem_cons_self)
    have hz : ((f.1.toNat : Nat) : Int) = f.1 := by omega
    have he : encs (f :: r) = enc f.1.toNat f.2 ++ encs r := by simp [encs]
    have hl := enc_length f.1.toNat f.2
    rw [bytes_cons] at hk
    unfold cnt
    by_cases h1 : 16 + f.2.length ≤ k
    · rw [if_pos h1, he, List.take_append, hl, List.take_of_length_le (by omega)]
      have ht : take (enc f.1.toNat f.2 ++ (encs r).take (k - (16 + f.2.length))) = (f, 16 + f.2.length, 0) := by
        rw [take_enc _ _ _ (by omega) (by omega) g3, hz]
      rw [all_ok _ f (16 + f.2.length) (fun h => by have := congrArg List.length h; rw [List.length_append, hl] at this; simp at this) ht, List.drop_append_of_le_length (by omega), ← hl, List.drop_length, List.nil_append, hl,
        ih (fun x hx => hg x (List.mem_cons_of_mem _ hx)) (k - (16 + f.2.length)) (by omega), List.take_succ_cons, bytes_cons]
      simp only [Prod.mk.injEq, true_and]
      by_cases h2 : bytes (r.take (cnt r (k - (16 + f.2.length)))) = k - (16 + f.2.length)
      · rw [if_pos h2, if_pos (by omega)]
      · rw [if_neg h2, if_neg (by omega)]
    · rw [if_neg h1, he, List.take_append_of_le_length (by omega)]
      by_cases h0 : k = 0
      · subst h0
        simp [all_nil, bytes]
      · rw [all_bad _ (0, []) 0 3 (fun h => by have := congrArg List.length h; rw [List.length_take, hl] at this; simp at this; omega) (take_cut f.1.toNat f.2 g3 k (by omega)) (by decide)]
        simp [bytes]
        exact fun h => h0 h.symm
end Go.Proofs.YtcpmicinibfepaaGreatDoor.FrameP

namespace Go.Proofs.YtcpmicinibfepaaGreatDoor.FrameP

/-- as long as each has the number that is wanted -/
def runs : List Fr → Int → List Fr
  | [], _ => []
  | f :: r, n => if f.1 = n then f :: runs r (n + 1) else []
/-- the frames that bytes begin with, from a number on -/
def whole (s : Bs) (n : Int) : List Fr := runs (all s).1 n
theorem whole_nil (n : Int) : whole [] n = [] := rfl
theorem whole_bad {s : Bs} {x : Fr} {m : Nat} {er : Int} (hs : s ≠ []) (ht : take s = (x, m, er)) (he : er ≠ 0) (n : Int) : whole s n = [] := by
  unfold whole
  rw [all_bad s x m er hs ht he]
  rfl
theorem whole_ne {s : Bs} {x : Fr} {m : Nat} {n : Int} (hs : s ≠ []) (ht : take s = (x, m, 0)) (hx : x.1 ≠ n) : whole s n = [] := by
  unfold whole
  rw [all_ok s x m hs ht]
  simp only [runs]
  rw [if_neg hx]
theorem whole_ok {s : Bs} {x : Fr} {m : Nat} {n : Int} (hs : s ≠ []) (ht : take s = (x, m, 0)) (hx : x.1 = n) : whole s n = x :: whole (s.drop m) (n + 1) := by
  unfold whole
  rw [all_ok s x m hs ht]
  simp only [runs]
  rw [if_pos hx]
/-- their numbers follow one another -/
def Row (l : List Fr) (n : Int) : Prop := ∀ (i : Nat) f, l[i]? = some f → f.1 = n + i
theorem Row.runs {l : List Fr} : ∀ {n : Int}, Row l n → FrameP.runs l n = l := by
  induction l with
  | nil => intro n _; rfl
  | cons f r ih =>
    intro n h
    have h0 := h 0 f rfl
    simp only [FrameP.runs]
    rw [if_pos (by simpa using h0), ih fun i g hg => by have := h (i + 1) g (by simpa using hg); rw [this]; push_cast; omega]
theorem row_cons {x : Fr} {l : List Fr} {n : Int} (hx : x.1 = n) (h : Row l (n + 1)) : Row (x :: l) n := fun i f hf => by
  cases i with
  | zero => simp at hf; subst hf; simpa using hx
  | succ i => rw [h i f (by simpa using hf)]; push_cast; omega
/-- what is told of them -/
theorem whole_facts (k : Nat) : ∀ (s : Bs) (n : Int), s.length ≤ k → bytes (whole s n) ≤ s.length ∧ 16 * (whole s n).length ≤ bytes (whole s n) ∧ s.take (bytes (whole s n)) = encs (whole s n) ∧ Row (whole s n) n ∧ (∀ f ∈ whole s n, Good f) := by
  induction k with
  | zero =>
    intro s n h
    obtain rfl := List.eq_nil_of_length_eq_zero (Nat.le_zero.1 h)
    exact ⟨Nat.le_refl _, Nat.le_refl _, rfl, fun i f hf => by rw [whole_nil] at hf; simp at hf, fun f hf => by rw [whole_nil] at hf; simp at hf⟩
  | succ k ih =>
    intro s n h
    have hnil : whole s n = [] → bytes (whole s n) ≤ s.length ∧ 16 * (whole s n).length ≤ bytes (whole s n) ∧ s.take (bytes (whole s n)) = encs (whole s n) ∧ Row (whole s n) n ∧ (∀ f ∈ whole s n, Good f) := fun e => by
      rw [e]
      exact ⟨Nat.zero_le _, Nat.le_refl _, by simp [bytes, encs], fun i f hf => by simp at hf, fun f hf => by simp at hf⟩
    by_cases hs : s = []
    · subst hs; exact hnil rfl
    · obtain ⟨⟨x, m, er⟩, ht⟩ : ∃ y, take s = y := ⟨_, rfl⟩
      by_cases he : er = 0
      · subst he
        by_cases hx : x.1 = n
        · obtain ⟨t1, t2, t3, t4, t5, t6⟩ := take_ok s x m ht
          rw [whole_ok hs ht hx]
          have hd : (s.drop m).length = s.length - m := List.length_drop
          obtain ⟨i1, i2, i3, i4, i5⟩ := ih (s.drop m) (n + 1) (by omega)
          rw [hd] at i1
          refine ⟨by rw [bytes_cons]; omega, by rw [bytes_cons, List.length_cons]; omega, ?_, row_cons hx i4, fun f hf => ?_⟩
          · rw [bytes_cons, ← t1, show encs (x :: whole (s.drop m) (n + 1)) = enc x.1.toNat x.2 ++ encs (whole (s.drop m) (n + 1)) by simp [encs], ← i3, ← t6, List.take_add]
          · rcases List.mem_cons.1 hf with rfl | hf
            · exact ⟨t3, t4, t5⟩
            · exact i5 f hf
        · exact hnil (whole_ne hs ht hx)
      · exact hnil (whole_bad hs ht he n)
theorem cnt_all (l : List Fr) : cnt l (bytes l) = l.length := by
  rcases Nat.lt_or_ge (cnt l (bytes l)) l.length with h | h
  · have := cnt_out l (bytes l) h
    have := bytes_take_le l (cnt l (bytes l) + 1)
    omega
  · exact Nat.le_antisymm (cnt_le l _) h
theorem whole_encs {l : List Fr} {n : Int} (hr : Row l n) (hg : ∀ f ∈ l, Good f) : whole (encs l) n = l := by
  have := all_cut l hg (bytes l) (Nat.le_refl _)
  rw [List.take_of_length_le (by rw [encs_length]; exact Nat.le_refl _), cnt_all, List.take_length] at this
  unfold whole
  rw [this]
  exact hr.runs
/-- cut off behind them they are the same, and all -/
theorem whole_cut (s : Bs) (n : Int) : whole (s.take (bytes (whole s n))) n = whole s n := by
  obtain ⟨_, _, h3, h4, h5⟩ := whole_facts s.length s n (Nat.le_refl _)
  rw [h3]
  exact whole_encs h4 h5
/-! ## Segments: numbers that rise, with their bytes -/
abbrev Sgs := List (Int × Bs)
/-- how many are read, where a number is wanted -/
def cntS : Sgs → Int → Nat
  | [], _ => 0
  | x :: r, n => if x.1 ≠ n then 0 else if bytes (whole x.2 x.1) < x.2.length then 1 else cntS r (n + (whole x.2 x.1).length) + 1
/-- how many a scan reads -/
def rdS (l : Sgs) (after : Int) : Nat := match l with
  | [] => 0
  | x :: r => if after < x.1 - 1 then 0 else cntS (x :: r) x.1
/-- the frames of some -/
def frS (l : Sgs) : List Fr := l.flatMap fun x => whole x.2 x.1
theorem frS_snoc (l : Sgs) (x : Int × Bs) : frS (l ++ [x]) = frS l ++ whole x.2 x.1 := by simp [frS]
theorem cntS_le : ∀ (l : Sgs) (n : Int), cntS l n ≤ l.length := by
  intro l
  induction l with
  | nil => intro n; exact Nat.le_refl _
  | cons x r ih =>
    intro n
    simp only [cntS, List.length_cons]
    split
    · omega
    · split
      · omega
      · have := ih (n + (whole x.2 x.1).length); omega
theorem rdS_le (l : Sgs) (after : Int) : rdS l after ≤ l.length := by
  cases l with
  | nil => exact Nat.le_refl _
  | cons x r =>
    simp only [rdS]
    split
    · omega
    · exact cntS_le _ _
/-- of fewer segments as many are read as there are, at most -/
theorem cntS_take : ∀ (l : Sgs) (n : Int) (m : Nat), cntS (l.take m) n = min m (cntS l n) := by
  intro l
  induction l with
  | nil => intro n m; simp [cntS]
  | cons x r ih =>
    intro n m
    cases m with
    | zero => simp [cntS]
    | succ m =>
      rw [List.take_succ_cons]
      simp only [cntS]
      split
      · simp
      · split
        · omega
        · rw [ih]; omega
theorem rdS_take (l : Sgs) (after : Int) (m : Nat) : rdS (l.take m) after = min m (rdS l after) := by
  cases l with
  | nil => simp [rdS]
  | cons x r =>
    cases m with
    | zero => simp [rdS]
    | succ m =>
      have h := cntS_take (x :: r) x.1 (m + 1)
      rw [List.take_succ_cons] at h ⊢
      simp only [rdS]
      split
      · simp
      · exact h
/-- the step of a scan behind k that were whole -/
theorem cntS_drop : ∀ (k : Nat) (l : Sgs) (n : Int), k < cntS l n → cntS l n = k + cntS (l.drop k) (n + (frS (l.take k)).length) ∧ 0 < cntS (l.drop k) (n + (frS (l.take k)).length) := by
  intro k
  induction k with
  | zero => intro l n h; simpa [frS] using h
  | succ k ih =>
    intro l n h
    cases l with
    | nil => simp [cntS] at h
    | cons x r =>
      simp only [cntS] at h ⊢
      split at h
      · omega
      · rename_i h1
        rw [if_neg h1]
        split at h
        · omega
        · rename_i h2
          rw [if_neg h2]
          obtain ⟨e1, e2⟩ := ih r (n + (whole x.2 x.1).length) (by omega)
          rw [List.drop_succ_cons, List.take_succ_cons, show frS (x :: r.take k) = whole x.2 x.1 ++ frS (r.take k) by simp [frS], List.length_append, show n + ((whole x.2 x.1).length + (frS (r.take k)).length : Nat) = n + (whole x.2 x.1).length + (frS (r.take k)).length by push_cast; omega]
          exact ⟨by omega, e2⟩
theorem row_app {a b : List Fr} {n : Int} (ha : Row a n) (hb : Row b (n + a.length)) : Row (a ++ b) n := fun i f hf => by
  rcases Nat.lt_or_ge i a.length with h | h
  · rw [List.getElem?_append_left h] at hf; exact ha i f hf
  · rw [List.getElem?_append_right h] at hf
    rw [hb _ f hf]
    omega
theorem row_whole (s : Bs) (n : Int) : Row (whole s n) n := (whole_facts s.length s n (Nat.le_refl _)).2.2.2.1
/-- the frames of those that are read follow one another -/
theorem frS_row : ∀ (l : Sgs) (n : Int) (k : Nat), k ≤ cntS l n → Row (frS (l.take k)) n := by
  intro l
  induction l with
  | nil => intro n k _ i f hf; simp [frS] at hf
  | cons x r ih =>
    intro n k hk
    cases k with
    | zero => intro i f hf; simp [frS] at hf
    | succ k =>
      simp only [cntS] at hk
      split at hk
      · omega
      · rename_i h1
        have hx : x.1 = n := by simpa using h1
        rw [List.take_succ_cons, show frS (x :: r.take k) = whole x.2 x.1 ++ frS (r.take k) by simp [frS]]
        refine row_app (by rw [hx]; exact row_whole _ _) ?_
        rw [hx] at hk ⊢
        split at hk
        · obtain rfl : k = 0 := by omega
          intro i f hf; simp [frS] at hf
        · exact ih _ k (by omega)
theorem frS_take_le (l : Sgs) (k : Nat) : (frS (l.take k)).length ≤ (frS l).length := by
  have e : frS l = frS (l.take k) ++ frS (l.drop k) := by unfold frS; rw [← List.flatMap_append, List.take_append_drop]
  rw [e, List.length_append]
  omega
theorem frS_take_snoc {l : Sgs} {k : Nat} {x : Int × Bs} (h : l[k]? = some x) : frS (l.take (k + 1)) = frS (l.take k) ++ whole x.2 x.1 := by
  rw [List.take_add_one, h, show (l.take k ++ (some x).toList) = l.take k ++ [x] from rfl, frS_snoc]
/-- the first of some segments' numbers -/
def fst0 (l : Sgs) : Int := match l with
  | [] => 0
  | x :: _ => x.1
/-- what a scan tells: the frames above a number; the file that was read last, how much of it is whole; the files of no use -/
def scanF (l : Sgs) (after : Int) : List Fr × (Option Int × Nat) × List Int :=
  if frS (l.take (rdS l after)) = [] ∨ fst0 l + (frS (l.take (rdS l after))).length - 1 < after then ([], (none, 0), l.map (·.1))
  else ((frS (l.take (rdS l after))).drop (after - fst0 l + 1).toNat, (l[rdS l after - 1]?.map (·.1), (l[rdS l after - 1]?.map fun x => bytes (whole x.2 x.1)).getD 0), (l.drop (rdS l after)).map (·.1))
theorem rdS_row (l : Sgs) (after : Int) : Row (frS (l.take (rdS l after))) (fst0 l) := by
  cases l with
  | nil => intro i f hf; simp [frS] at hf
  | cons x r =>
    simp only [rdS]
    split
    · intro i f hf; simp [frS] at hf
    · exact frS_row _ _ _ (Nat.le_refl _)
theorem drop_at {l : Sgs} {k : Nat} {x : Int × Bs} (hx : l[k]? = some x) : l.drop k = x :: l.drop (k + 1) := by
  obtain ⟨h, rfl⟩ := List.getElem?_eq_some_iff.1 hx
  exact List.drop_eq_getElem_cons h
theorem cntS_stop {l : Sgs} {k : Nat} {x : Int × Bs} {n : Int} (hx : l[k]? = some x) (hn : x.1 ≠ n) : cntS (l.drop k) n = 0 := by
  rw [drop_at hx]
  simp only [cntS]
  rw [if_pos hn]
theorem cntS_one {l : Sgs} {k : Nat} {x : Int × Bs} {n : Int} (hx : l[k]? = some x) (hn : x.1 = n) (h : bytes (whole x.2 x.1) < x.2.length) : cntS (l.drop k) n = 1 := by
  rw [drop_at hx]
  simp only [cntS]
  rw [if_neg (fun h => h hn), if_pos h]
theorem cntS_next {l : Sgs} {k : Nat} {x : Int × Bs} {n : Int} (hx : l[k]? = some x) (hn : x.1 = n) (h : ¬ bytes (whole x.2 x.1) < x.2.length) : cntS (l.drop k) n = cntS (l.drop (k + 1)) (n + (whole x.2 x.1).length) + 1 := by
  rw [drop_at hx]
  simp only [cntS]
  rw [if_neg (fun h => h hn), if_neg h]
theorem fst0_at {l : Sgs} {x : Int × Bs} (hx : l[0]? = some x) : fst0 l = x.1 := by
  cases l with
  | nil => simp at hx
  | cons y r => simp at hx; subst hx; rfl
theorem rdS_zero {l : Sgs} {x : Int × Bs} {after : Int} (hx : l[0]? = some x) : (after < x.1 - 1 → rdS l after = 0) ∧ (¬ after < x.1 - 1 → rdS l after = cntS l (fst0 l)) := by
  cases l with
  | nil => simp at hx
  | cons y r =>
    simp at hx
    subst hx
    exact ⟨fun h => by simp only [rdS]; rw [if_pos h], fun h => by simp only [rdS]; rw [if_neg h]; rfl⟩
end Go.Proofs.YtcpmicinibfepaaGreatDoor.FrameP
