/- Plain mathematics of frames (no program in sight): what is put is taken as it was, cut off it is too short, bursts are found, whole ones are told · Plain mathematics of frames one behind the other: how many bytes they have, and what stands behind them · Plain mathematics of frames one behind the other, cut off anywhere: the whole ones are told. -/
import Derived.Test.YtcpmicinibfepaaGreatDoorUBb
import Derived.Test.YtcpmicinibfepaaGreatDoorUBc
namespace Go.Proofs.YtcpmicinibfepaaGreatDoor.FrameP
open BigP


abbrev Bs := List UInt8
/-- a frame: its number, its data -/
abbrev Fr := Int × Bs
def crc (l : Bs) : Nat := (CrcP.sum l).toNat
/-- a number of 64 bits as one with a sign -/
def sgn (u : Nat) : Int := if u < 9223372036854775808 then u else (u : Int) - 18446744073709551616
def body (seq : Nat) (data : Bs) : Bs := big 8 seq ++ data
def enc (seq : Nat) (data : Bs) : Bs := big 4 data.length ++ (big 4 (crc (big 4 data.length ++ body seq data)) ++ body seq data)
/-- a frame's bytes, the error (1: argument, 12: too big) -/
def put (seq : Int) (data : Bs) : Bs × Int :=
  if seq < 1 then ([], 1) else if 65536 < data.length then ([], 12) else (enc seq.toNat data, 0)
/-- the frame that bytes begin with, how many bytes it has, the error -/
def take (s : Bs) : Fr × Nat × Int :=
  if s.length < 16 then ((0, []), 0, 3)
  else if 65536 < num 0 (s.take 4) then ((0, []), 0, 12)
  else if s.length < 16 + num 0 (s.take 4) then ((0, []), 0, 3)
  else if crc (s.take 4 ++ (s.drop 8).take (8 + num 0 (s.take 4))) ≠ num 0 ((s.drop 4).take 4) then ((0, []), 0, 4)
  else if sgn (num 0 ((s.drop 8).take 8)) < 1 then ((0, []), 0, 2)
  else ((sgn (num 0 ((s.drop 8).take 8)), (s.drop 16).take (num 0 (s.take 4))), 16 + num 0 (s.take 4), 0)

theorem crc_lt (l : Bs) : crc l < 4294967296 := (CrcP.sum l).isLt
theorem body_length (q : Nat) (d : Bs) : (body q d).length = 8 + d.length := by simp [body, big_length]
theorem enc_length (q : Nat) (d : Bs) : (enc q d).length = 16 + d.length := by simp [enc, big_length, body_length]; omega
theorem sgn_of (q : Nat) (h : q < 9223372036854775808) : sgn q = q := by simp [sgn, h]

/-- what of a text the taking looks at, where the text is parted -/
theorem parts (a c b d r : Bs) (ha : a.length = 4) (hc : c.length = 4) (hb : b.length = 8) :
    (a ++ (c ++ (b ++ d)) ++ r).take 4 = a ∧ ((a ++ (c ++ (b ++ d)) ++ r).drop 4).take 4 = c ∧ ((a ++ (c ++ (b ++ d)) ++ r).drop 8).take 8 = b ∧
    ((a ++ (c ++ (b ++ d)) ++ r).drop 8).take (8 + d.length) = b ++ d ∧ ((a ++ (c ++ (b ++ d)) ++ r).drop 16).take d.length = d := by
  have e1 : (a ++ (c ++ (b ++ d)) ++ r) = a ++ (c ++ (b ++ (d ++ r))) := by simp
  rw [e1]
  have d4 : (a ++ (c ++ (b ++ (d ++ r)))).drop 4 = c ++ (b ++ (d ++ r)) := by rw [← ha]; simp
  have d8 : (a ++ (c ++ (b ++ (d ++ r)))).drop 8 = b ++ (d ++ r) := by
    rw [show 8 = 4 + 4 from rfl, ← List.drop_drop, d4, ← hc]; simp
  have d16 : (a ++ (c ++ (b ++ (d ++ r)))).drop 16 = d ++ r := by
    rw [show 16 = 8 + 8 from rfl, ← List.drop_drop, d8]
    conv => lhs; arg 1; rw [← hb]
    simp
  refine ⟨?_, ?_, ?_, ?_, ?_⟩
  · rw [← ha]; simp
  · rw [d4, ← hc]; simp
  · rw [d8]; conv => lhs; arg 1; rw [← hb]
    simp
  · rw [d8, ← List.append_assoc, ← hb, ← List.length_append, List.take_left]
  · rw [d16]; simp

/-- any four parts: what is taken -/
theorem take_parts (a c b d r : Bs) (ha : a.length = 4) (hc : c.length = 4) (hb : b.length = 8) (hn : num 0 a = d.length) (hd : d.length ≤ 65536) :
    take (a ++ (c ++ (b ++ d)) ++ r) = if crc (a ++ (b ++ d)) ≠ num 0 c then ((0, []), 0, 4) else if sgn (num 0 b) < 1 then ((0, []), 0, 2) else ((sgn (num 0 b), d), 16 + d.length, 0) := by
  obtain ⟨p1, p2, p3, p4, p5⟩ := parts a c b d r ha hc hb
  unfold take
  rw [p1, p2, p3, hn, p4, p5]
  have hl : (a ++ (c ++ (b ++ d)) ++ r).length = 16 + d.length + r.length := by simp [ha, hc, hb]; omega
  rw [hl, if_neg (by omega), if_neg (by omega), if_neg (by omega)]

theorem take_enc (q : Nat) (d r : Bs) (hq1 : 1 ≤ q) (hq : q < 9223372036854775808) (hd : d.length ≤ 65536) : take (enc q d ++ r) = (((q : Int), d), 16 + d.length, 0) := by
  unfold enc body
  have hnum := num_big_lt 4 d.length (by omega)
  rw [take_parts _ _ _ _ _ (big_length 4 _) (big_length 4 _) (big_length 8 _) hnum hd, num_big_lt 4 _ (by have := crc_lt (big 4 d.length ++ (big 8 q ++ d)); omega), num_big_lt 8 q (by omega), sgn_of q hq]
  rw [if_neg (by simp), if_neg (by omega)]

/-- cut off anywhere it is too short -/
theorem take_cut (q : Nat) (d : Bs) (hd : d.length ≤ 65536) (k : Nat) (hk : k < 16 + d.length) : take ((enc q d).take k) = ((0, []), 0, 3) := by
  unfold take
  have hl : ((enc q d).take k).length = k := by rw [List.length_take, enc_length]; omega
  rw [hl]
  by_cases h : k < 16
  · rw [if_pos h]
  · rw [if_neg h]
    have h4 : ((enc q d).take k).take 4 = big 4 d.length := by
      rw [List.take_take, Nat.min_eq_left (by omega)]
      unfold enc
      have : (big 4 d.length).length = 4 := big_length 4 _
      conv => lhs; arg 1; rw [← this]
      simp
    rw [h4, num_big_lt 4 d.length (by omega), if_neg (by omega), if_pos hk]

theorem take_ok (s : Bs) (f : Fr) (n : Nat) (h : take s = (f, n, 0)) : n = 16 + f.2.length ∧ n ≤ s.length ∧ 1 ≤ f.1 ∧ f.1 < 9223372036854775808 ∧ f.2.length ≤ 65536 ∧ s.take n = enc f.1.toNat f.2 := by
  unfold take at h
  split at h
  · simp at h
  rename_i h1
  split at h
  · simp at h
  rename_i h2
  split at h
  · simp at h
  rename_i h3
  split at h
  · simp at h
  rename_i h4
  split at h
  · simp at h
  rename_i h5
  simp only [Prod.mk.injEq] at h
  obtain ⟨rfl, rfl, _⟩ := h
  have l1 : (s.take 4).length = 4 := by rw [List.length_take]; omega
  have l2 : ((s.drop 4).take 4).length = 4 := by rw [List.length_take, List.length_drop]; omega
  have l3 : ((s.drop 8).take 8).length = 8 := by rw [List.length_take, List.length_drop]; omega
  have l4 : ((s.drop 16).take (num 0 (s.take 4))).length = num 0 (s.take 4) := by rw [List.length_take, List.length_drop]; omega
  have hnl := num_lt ((s.drop 8).take 8)
  rw [l3] at hnl
  have h5' : 1 ≤ sgn (num 0 ((s.drop 8).take 8)) := by omega
  have hu : num 0 ((s.drop 8).take 8) < 9223372036854775808 := by
    rcases Nat.lt_or_ge (num 0 ((s.drop 8).take 8)) 9223372036854775808 with h | h
    · exact h
    · simp only [sgn, if_neg (Nat.not_lt.2 h)] at h5'; omega
  have hs := sgn_of _ hu
  rw [hs] at h5' ⊢
  simp only [l4]
  refine ⟨trivial, by omega, by omega, by omega, by omega, ?_⟩
  unfold enc body
  simp only [Int.toNat_natCast, l4]
  rw [big_num' 4 _ l1, big_num' 8 _ l3]
  have h4' : crc (s.take 4 ++ ((s.drop 8).take 8 ++ (s.drop 16).take (num 0 (s.take 4)))) = num 0 ((s.drop 4).take 4) := by
    have e : (s.drop 8).take (8 + num 0 (s.take 4)) = (s.drop 8).take 8 ++ (s.drop 16).take (num 0 (s.take 4)) := by
      rw [List.take_add, List.drop_drop]
    rw [e] at h4
    simpa using h4
  rw [h4', big_num' 4 _ l2]
  rw [show 16 + num 0 (s.take 4) = 4 + (4 + (8 + num 0 (s.take 4))) by omega, List.take_add, List.take_add, List.take_add, List.drop_drop, List.drop_drop]

/-- a frame whose number and data are changed by a burst of up to 32 bits -/
theorem take_burst (q : Nat) (d : Bs) (hd : d.length ≤ 65536) (v : BitVec 32) (k m : Nat) (hk : k + 4 + m = 8 + d.length) (hv : v ≠ 0#32) :
    take (big 4 d.length ++ (big 4 (crc (big 4 d.length ++ body q d)) ++ List.zipWith (· ^^^ ·) (body q d) (CrcP.burst v k m))) = ((0, []), 0, 4) := by
  have hz : (List.zipWith (· ^^^ ·) (body q d) (CrcP.burst v k m)).length = 8 + d.length := by
    rw [List.length_zipWith, body_length]; simp [CrcP.burst]; omega
  generalize hx : List.zipWith (· ^^^ ·) (body q d) (CrcP.burst v k m) = x at *
  have hx2 : x = x.take 8 ++ x.drop 8 := (List.take_append_drop 8 x).symm
  have lb : (x.take 8).length = 8 := by rw [List.length_take]; omega
  have ld : (x.drop 8).length = d.length := by rw [List.length_drop]; omega
  have hnum := num_big_lt 4 d.length (by omega)
  have := take_parts (big 4 d.length) (big 4 (crc (big 4 d.length ++ body q d))) (x.take 8) (x.drop 8) [] (big_length 4 _) (big_length 4 _) lb (by rw [hnum, ld]) (by omega)
  rw [List.append_nil, ← hx2] at this
  rw [this, if_pos]
  rw [num_big_lt 4 _ (by have := crc_lt (big 4 d.length ++ body q d); omega)]
  intro he
  have he2 : CrcP.sum (big 4 d.length ++ x) = CrcP.sum (big 4 d.length ++ body q d) := BitVec.eq_of_toNat_eq he
  unfold CrcP.sum at he2
  rw [CrcP.more_append, CrcP.more_append] at he2
  generalize CrcP.more 0#32 (big 4 d.length) = c at he2
  unfold CrcP.more at he2
  have he3 := congrArg (fun y => y ^^^ CrcP.all) he2
  simp only [BitVec.xor_assoc, BitVec.xor_self, BitVec.xor_zero] at he3
  rw [← hx] at he3
  exact CrcP.finds (body q d) v k m (by rw [body_length]; omega) hv _ he3

/-- the frames that bytes begin with, how many bytes they have, why no further one comes -/
def allF : Nat → Bs → List Fr × Nat × Int
  | 0, _ => ([], 0, 0)
  | f + 1, s =>
    if s = [] then ([], 0, 0)
    else match take s with
      | (x, n, e) => if e ≠ 0 then ([], 0, e) else match allF f (s.drop n) with
        | (l, m, e') => (x :: l, n + m, e')
def all (s : Bs) : List Fr × Nat × Int := allF s.length s

theorem allF_fuel (f : Nat) : ∀ (g : Nat) (s : Bs), s.length ≤ f → s.length ≤ g → allF f s = allF g s := by
  induction f with
  | zero => intro g s h _; have hs := List.eq_nil_of_length_eq_zero (Nat.le_zero.1 h); subst hs; cases g <;> simp [allF]
  | succ f ih =>
    intro g s h hg
    cases g with
    | zero => have hs := List.eq_nil_of_length_eq_zero (Nat.le_zero.1 hg); subst hs; simp [allF]
    | succ g =>
      simp only [allF]
      split
      · rfl
      · rcases ht : take s with ⟨x, n, e⟩
        simp only
        split
        · rfl
        · rename_i he
          have he0 : e = 0 := by simpa using he
          subst he0
          obtain ⟨h1, h2, _⟩ := take_ok s x n ht
          rw [ih g (s.drop n) (by rw [List.length_drop]; omega) (by rw [List.length_drop]; omega)]
theorem all_nil : all [] = ([], 0, 0) := rfl
theorem all_cons (s : Bs) (hs : s ≠ []) : all s = match take s with
    | (x, n, e) => if e ≠ 0 then ([], 0, e) else match all (s.drop n) with
      | (l, m, e') => (x :: l, n + m, e') := by
  have hl : 0 < s.length := List.length_pos_iff.2 hs
  unfold all
  obtain ⟨g, hg⟩ : ∃ g, s.length = g + 1 := ⟨s.length - 1, by omega⟩
  conv => lhs; rw [hg]
  simp only [allF, if_neg hs]
  rcases ht : take s with ⟨x, n, e⟩
  simp only
  split
  · rfl
  · rename_i he
    have he0 : e = 0 := by simpa using he
    subst he0
    obtain ⟨h1, h2, _⟩ := take_ok s x n ht
    rw [allF_fuel g (s.drop n).length (s.drop n) (by rw [List.length_drop]; omega) (Nat.le_refl _)]
end Go.Proofs.YtcpmicinibfepaaGreatDoor.FrameP

namespace Go.Proofs.YtcpmicinibfepaaGreatDoor.FrameP

theorem all_bad (s : Bs) (x : Fr) (m : Nat) (er : Int) (hs : s ≠ []) (ht : take s = (x, m, er)) (he : er ≠ 0) : all s = ([], 0, er) := by
  rw [all_cons s hs, ht]; simp only [if_pos he]
theorem all_ok (s : Bs) (x : Fr) (m : Nat) (hs : s ≠ []) (ht : take s = (x, m, 0)) : all s = (x :: (all (s.drop m)).1, m + (all (s.drop m)).2.1, (all (s.drop m)).2.2) := by
  rw [all_cons s hs, ht]
  simp
/-- how many bytes frames have -/
def bytes (l : List Fr) : Nat := (l.map fun f => 16 + f.2.length).sum
theorem bytes_cons (f : Fr) (l : List Fr) : bytes (f :: l) = (16 + f.2.length) + bytes l := by simp [bytes]
theorem bytes_snoc (l : List Fr) (f : Fr) : bytes (l ++ [f]) = bytes l + (16 + f.2.length) := by simp [bytes]
theorem take_len (s : Bs) (x : Fr) (m : Nat) (ht : take s = (x, m, 0)) : m = 16 + x.2.length ∧ m ≤ s.length := ⟨(take_ok s x m ht).1, (take_ok s x m ht).2.1⟩
theorem all_facts (n : Nat) : ∀ s : Bs, s.length ≤ n → bytes (all s).1 = (all s).2.1 ∧ (all s).2.1 ≤ s.length ∧ 16 * (all s).1.length ≤ (all s).2.1 ∧
    ((all s).2.1 = s.length → (all s).2.2 = 0) ∧ ((all s).2.1 < s.length → (take (s.drop (all s).2.1)).2.2 = (all s).2.2 ∧ (all s).2.2 ≠ 0) := by
  induction n with
  | zero =>
    intro s h
    obtain rfl := List.eq_nil_of_length_eq_zero (Nat.le_zero.1 h)
    rw [all_nil]; simp [bytes]
  | succ n ih =>
    intro s h
    by_cases hs : s = []
    · subst hs; rw [all_nil]; simp [bytes]
    · rcases ht : take s with ⟨x, m, er⟩
      by_cases he : er = 0
      · subst he
        obtain ⟨h1, h2⟩ := take_len s x m ht
        rw [all_ok s x m hs ht]
        obtain ⟨i1, i2, i3, i4, i5⟩ := ih (s.drop m) (by rw [List.length_drop]; omega)
        rw [List.length_drop] at i2 i4 i5
        simp only
        refine ⟨by rw [bytes_cons, i1, h1], by omega, by rw [List.length_cons]; omega, fun e => i4 (by omega), fun e => ?_⟩
        rw [← List.drop_drop]
        exact i5 (by omega)
      · rw [all_bad s x m er hs ht he]
        have hl : 0 < s.length := List.length_pos_iff.2 hs
        refine ⟨by simp [bytes], by simp, by simp, fun e => by simp at e; omega, fun _ => ?_⟩
        rw [List.drop_zero, ht]
        exact ⟨rfl, he⟩
end Go.Proofs.YtcpmicinibfepaaGreatDoor.FrameP

namespace Go.Proofs.YtcpmicinibfepaaGreatDoor.FrameP

/-- frames that may be -/
def Good (f : Fr) : Prop := 1 ≤ f.1 ∧ f.1 < 9223372036854775808 ∧ f.2.length ≤ 65536
/-- frames one behind the other -/
def encs (l : List Fr) : Bs := l.flatMap fun f => enc f.1.toNat f.2
theorem encs_length (l : List Fr) : (encs l).length = bytes l := by
  induction l with
  | nil => rfl
  | cons f r ih => rw [bytes_cons, ← ih, ← enc_length f.1.toNat f.2]; simp [encs]
theorem encs_snoc (l : List Fr) (f : Fr) : encs (l ++ [f]) = encs l ++ enc f.1.toNat f.2 := by simp [encs]
/-- how many are whole in so many bytes -/
def cnt : List Fr → Nat → Nat
  | [], _ => 0
  | f :: r, k => if 16 + f.2.length ≤ k then cnt r (k - (16 + f.2.length)) + 1 else 0
theorem cnt_le (l : List Fr) : ∀ k, cnt l k ≤ l.length := by
  induction l with
  | nil => intro k; exact Nat.le_refl _
  | cons f r ih => intro k; unfold cnt; split <;> simp; exact ih _
theorem cnt_in (l : List Fr) : ∀ k j, j ≤ cnt l k → bytes (l.take j) ≤ k := by
  induction l with
  | nil => intro k j _; simp [bytes]
  | cons f r ih =>
    intro k j h
    unfold cnt at h
    split at h
    · cases j with
      | zero => simp [bytes]
      | succ j =>
        have := ih (k - (16 + f.2.length)) j (by omega)
        rw [List.take_succ_cons, bytes_cons]; omega
    · obtain rfl : j = 0 := by omega
      simp [bytes]
theorem cnt_out (l : List Fr) : ∀ k, cnt l k < l.length → k < bytes (l.take (cnt l k + 1)) := by
  induction l with
  | nil => intro k h; simp at h
  | cons f r ih =>
    intro k h
    unfold cnt at h ⊢
    split at h
    · rename_i h1
      rw [if_pos h1, List.take_succ_cons, bytes_cons]
      have := ih (k - (16 + f.2.length)) (by simp at h; omega)
      omega
    · rename_i h1
      rw [if_neg h1, List.take_succ_cons, bytes_cons]; omega
theorem bytes_take_le (l : List Fr) : ∀ j, bytes (l.take j) ≤ bytes l := by
  induction l with
  | nil => intro j; simp [bytes]
  | cons f r ih =>
    intro j
    cases j with
    | zero => simp [bytes]
    | succ j => rw [List.take_succ_cons, bytes_cons, bytes_cons]; have := ih j; omega
theorem all_cut (l : List Fr) : (∀ f ∈ l, Good f) → ∀ k, k ≤ bytes l → all ((encs l).take k) = (l.take (cnt l k), bytes (l.take (cnt l k)), if bytes (l.take (cnt l k)) = k then 0 else 3) := by
  induction l with
  | nil =>
    intro _ k h
    obtain rfl : k = 0 := by simp [bytes] at h; exact h
    simp [encs, all_nil, cnt, bytes]
  | cons f r ih =>
    intro hg k hk
    obtain ⟨g1, g2, g3⟩ := hg f (List.mem_cons_self)
    have hz : ((f.1.toNat : Nat) : Int) = f.1 := by omega
    have he : encs (f :: r) = enc f.1.toNat f.2 ++ encs r := by simp [encs]
    have hl := enc_length f.1.toNat f.2
    rw [bytes_cons] at hk
    unfold cnt
    by_cases h1 : 16 + f.2.length ≤ k
    · rw [if_pos h1, he, List.take_append, hl, List.take_of_length_le (by omega)]
      have ht : take (enc f.1.toNat f.2 ++ (encs r).take (k - (16 + f.2.length))) = (f, 16 + f.2.length, 0) := by
        rw [take_enc _ _ _ (by omega) (by omega) g3, hz]
      rw [all_ok _ f (16 + f.2.length) (fun h => by have := congrArg List.length h; rw [List.length_append, hl] at this; simp at this) ht, List.drop_append_of_le_length (by omega), ← hl, List.drop_length, List.nil_append, hl,
        ih (fun x hx => hg x (List.mem_cons_of_mem _ hx)) (k - (16 + f.2.length)) (by omega), List.take_succ_cons, bytes_cons]
      simp only [Prod.mk.injEq, true_and]
      by_cases h2 : bytes (r.take (cnt r (k - (16 + f.2.length)))) = k - (16 + f.2.length)
      · rw [if_pos h2, if_pos (by omega)]
      · rw [if_neg h2, if_neg (by omega)]
    · rw [if_neg h1, he, List.take_append_of_le_length (by omega)]
      by_cases h0 : k = 0
      · subst h0
        simp [all_nil, bytes]
      · rw [all_bad _ (0, []) 0 3 (fun h => by have := congrArg List.length h; rw [List.length_take, hl] at this; simp at this; omega) (take_cut f.1.toNat f.2 g3 k (by omega)) (by decide)]
        simp [bytes]
        exact fun h => h0 h.symm
end Go.Proofs.YtcpmicinibfepaaGreatDoor.FrameP
