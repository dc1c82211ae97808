/- Walks of layer 1 (vari) and of its reference: numbers taken, with a sign or not. -/
import Derived.Test.YtkhnmdmpkedifaaVariB
namespace Go.Proofs.Ytkhnmdmpkedifaa
open Go.ChangeShapes Go.WideShapes Go.ChangeAt Go.RowKit Go.Deep

/-- what a taking tells, of numbers with a sign -/
def tkI (n : Int) (t : Nat × Nat × Int) : Value := .tuple #[.int .i64 n, .int .i64 (t.2.1 : Int), .int .i64 t.2.2]
theorem take_lt (lim : Nat) (h : lim = 9 ∨ lim = 10) (s : List UInt8) : (VariP.take lim s).1 < 18446744073709551616 ∧ (lim = 9 → (VariP.take lim s).1 < 9223372036854775808) := by
  rcases VariP.take_err lim s with h0 | ⟨h0, _, _⟩
  · rcases ht : VariP.take lim s with ⟨x, y, e⟩
    rw [ht] at h0
    simp only at h0
    subst h0
    obtain ⟨_, _, _, _, h5, h6⟩ := VariP.take_back lim h s x y ht
    exact ⟨h5, h6⟩
  · rw [h0]; omega
theorem xor_neg1 (x : Nat) (h : x < 9223372036854775808) : bits .xor .i64 (x : Int) (-1) = -(x : Int) - 1 := by
  show IntKind.i64.wrap ((BitVec.ofInt 64 (x : Int) ^^^ BitVec.ofInt 64 (-1)).toNat : Int) = _
  have e : BitVec.ofInt 64 (-1) = BitVec.allOnes 64 := by decide
  rw [e, BitVec.xor_allOnes, BitVec.toNat_not, BitVec.ofInt_natCast, BitVec.toNat_ofNat, Nat.mod_eq_of_lt (by omega), IntKind.wrap_i64]
  omega
theorem xor_0 (x : Nat) (h : x < 9223372036854775808) : bits .xor .i64 (x : Int) 0 = (x : Int) := by
  show IntKind.i64.wrap ((BitVec.ofInt 64 (x : Int) ^^^ BitVec.ofInt 64 0).toNat : Int) = _
  have e : BitVec.ofInt 64 0 = 0#64 := by decide
  rw [e, BitVec.xor_zero, BitVec.ofInt_natCast, BitVec.toNat_ofNat, Nat.mod_eq_of_lt (by omega), IntKind.wrap_i64]
  omega
theorem and_1 (u : Nat) (h : u < 18446744073709551616) : bits .and .u64 (u : Int) 1 = ((u % 2 : Nat) : Int) := by
  rw [show (1 : Int) = ((1 : Nat) : Int) from rfl, u64_and_nat _ _ h (by omega), nat_mask1]
theorem zag_bits (u : Nat) (h : u < 18446744073709551616) : bits .xor .i64 ((u : Int) / 2) (RowKit.wrap64 (-RowKit.wrap64 (bits .and .u64 (u : Int) 1))) = VariP.zag u := by
  have e0 : RowKit.wrap64 (-RowKit.wrap64 ((u % 2 : Nat) : Int)) = -((u % 2 : Nat) : Int) := by unfold RowKit.wrap64; omega
  rw [and_1 u h, e0, show (u : Int) / 2 = ((u / 2 : Nat) : Int) by omega]
  unfold VariP.zag
  rcases Nat.mod_two_eq_zero_or_one u with h0 | h0
  · rw [h0, if_pos rfl, show (-((0 : Nat) : Int)) = 0 from rfl, xor_0 _ (by omega)]
  · rw [h0, if_neg (by omega), show (-((1 : Nat) : Int)) = -1 from rfl, xor_neg1 _ (by omega)]

set_option maxRecDepth 100000 in
theorem vari_Take (s : ByteArray) (hs : s.size ≤ maxLen) (w : World) :
    Calls Try.prog 80 #[.string s] w fun e w' => e = .returned (tkI (VariP.take 9 s.data.toList).1 (VariP.take 9 s.data.toList)) ∧ w = w' := by
  have hl := (take_lt 9 (.inl rfl) s.data.toList).2 rfl
  have H := Lib.hid (vari_take s 9 (by omega) hs)
  unfold tkI
  unfold tkV at H
  generalize (VariP.take 9 s.data.toList).1 = u at hl H ⊢
  generalize (VariP.take 9 s.data.toList).2.1 = z at H ⊢
  generalize (VariP.take 9 s.data.toList).2.2 = er at H ⊢
  go_enter Try.func80, Try.ntmps80
  go_wp2_with fail
  refine (H.out _).mono ?_
  rintro e w1 ⟨rfl, rfl⟩
  go_wp2_with fail
  go_ret3
  exact ⟨rfl, rfl⟩

set_option maxRecDepth 100000 in
theorem vari_TakeSigned (s : ByteArray) (hs : s.size ≤ maxLen) (w : World) :
    Calls Try.prog 98 #[.string s] w fun e w' => e = .returned (tkI (VariP.zag (VariP.take 10 s.data.toList).1) (VariP.take 10 s.data.toList)) ∧ w = w' := by
  have hl := (take_lt 10 (.inr rfl) s.data.toList).1
  have H := Lib.hid (vari_take s 10 (by omega) hs)
  unfold tkI
  unfold tkV at H
  generalize (VariP.take 10 s.data.toList).1 = u at hl H ⊢
  generalize (VariP.take 10 s.data.toList).2.1 = z at H ⊢
  generalize (VariP.take 10 s.data.toList).2.2 = er at H ⊢
  have HZ := Lib.hid (zag_bits u hl)
  go_enter Try.func98, Try.ntmps98
  go_wp2_with fail
  refine (H.out _).mono ?_
  rintro e w1 ⟨rfl, rfl⟩
  go_wp2_with fail
  go_ret3
  exact ⟨ret_val (by rw [← HZ.out]; rfl), rfl⟩

def lastI (o : Option Nat) : Int := match o with | some j => j | none => -1
theorem last_some_step (i f : Nat) (l : List UInt8) (c : UInt8) (h : l[i]? = some c) : VariP.lastF i (f + 1) (l.drop i) = if c.toNat < 128 then some i else VariP.lastF (i + 1) f (l.drop (i + 1)) := by
  obtain ⟨hk, rfl⟩ := List.getElem?_eq_some_iff.1 h
  rw [List.drop_eq_getElem_cons hk, VariP.lastF]
theorem last_none (i f : Nat) (l : List UInt8) (h : l.length ≤ i ∨ f = 0) : VariP.lastF i f (l.drop i) = none := by
  rcases h with h | h
  · rw [List.drop_eq_nil_of_le h]; cases f <;> rfl
  · subst h; rfl
set_option maxRecDepth 100000 in
theorem ref_last (s : ByteArray) (lim : Nat) (hlim : lim ≤ 10) (hs : s.size ≤ maxLen) (w : World) :
    Calls Try.prog 103 #[.string s, .int .i64 (lim : Int)] w fun e w' => e = .returned (.int .i64 (lastI (VariP.last s.data.toList lim))) ∧ w = w' := by
  unfold maxLen at hs
  go_enter Try.func103, Try.ntmps103
  go_wp2
  go_loop [5] (fun i => ∃ (k : Nat), k ≤ lim ∧ k ≤ s.size ∧ i = .int .i64 k ∧ VariP.last s.data.toList lim = VariP.lastF k (lim - k) (s.data.toList.drop k)) (fun i => lim - (intOf i).toNat)
  case atStart => exact ⟨0, by omega, by omega, rfl, by simp [VariP.last]⟩
  case round =>
    obtain ⟨k, hk, hks, rfl, ht⟩ := hrel
    have HT := Lib.hid ht
    clear ht
    by_cases hsz : k < s.size
    · by_cases hlt : k < lim
      · have HC := Lib.hid (last_some_step k (lim - (k + 1)) s.data.toList s[k] (by rw [List.getElem?_eq_getElem (by simpa using hsz)]; rfl))
        have HF := Lib.hid (show lim - k = (lim - (k + 1)) + 1 by omega)
        by_cases hc : s[k].toNat < 128
        · go_wp2
          go_ret
          exact ⟨ret_int (by rw [HT.out, HF.out, HC.out, if_pos hc]; rfl), rfl⟩
        · go_wp2
          exact ⟨⟨k + 1, by omega, by omega, by go_num, by rw [HT.out, HF.out, HC.out, if_neg hc]⟩, by simp [intOf]; omega⟩
      · go_wp2
        go_ret
        exact ⟨ret_int (by rw [HT.out, last_none _ _ _ (.inr (by omega))]; rfl), rfl⟩
    · go_wp2
      go_ret
      exact ⟨ret_int (by rw [HT.out, last_none _ _ _ (.inl (by have : s.data.toList.length = s.size := rfl; omega))]; rfl), rfl⟩

theorem value_drop (l : List UInt8) (m : Nat) (c : UInt8) (h : l[m]? = some c) : VariP.value (l.drop m) = VariP.value (l.drop (m + 1)) * 128 + c.toNat % 128 := by
  obtain ⟨hk, rfl⟩ := List.getElem?_eq_some_iff.1 h
  rw [List.drop_eq_getElem_cons hk, VariP.value]
theorem value_drop_le (l : List UInt8) (m : Nat) : VariP.value (l.drop m) ≤ VariP.value l := by
  induction m generalizing l with
  | zero => simp
  | succ m ih =>
    cases l with
    | nil => simp
    | cons c r =>
      have := ih r
      simp only [List.drop_succ_cons, VariP.value]
      omega
set_option maxRecDepth 100000 in
theorem ref_value (s : ByteArray) (hs : s.size ≤ 100000) (hv : VariP.value s.data.toList < 18446744073709551616) (w : World) :
    Calls Try.prog 104 #[.string s] w fun e w' => e = .returned (.int .u64 (VariP.value s.data.toList : Int)) ∧ w = w' := by
  go_enter Try.func104, Try.ntmps104
  go_wp2
  go_loop [3, 4] (fun u i => ∃ (j : Nat), j ≤ s.size ∧ i = .int .i64 ((j : Int) - 1) ∧ u = .int .u64 (VariP.value (s.data.toList.drop j) : Int)) (fun _ i => (intOf i + 1).toNat)
  case atStart => exact ⟨s.size, by omega, rfl, by rw [List.drop_eq_nil_of_le (by simp)]; rfl⟩
  case round =>
    obtain ⟨j, hj, rfl, rfl⟩ := hrel
    cases j with
    | zero =>
      have HE := Lib.hid (show VariP.value (s.data.toList.drop 0) = VariP.value s.data.toList from rfl)
      go_wp2
      go_ret
      exact ⟨rfl, rfl⟩
    | succ m =>
      have hm : m < s.size := by omega
      have HV := Lib.hid (value_drop s.data.toList m s[m] (by rw [List.getElem?_eq_getElem (by simpa using hm)]; rfl))
      have h1 := value_drop_le s.data.toList m
      have h2 := value_drop_le s.data.toList (m + 1)
      have h3 : VariP.value (s.data.toList.drop (m + 1)) * 128 + s[m].toNat % 128 < 18446744073709551616 := by rw [← HV.out]; omega
      generalize VariP.value (s.data.toList.drop (m + 1)) = v at HV h2 h3 ⊢
      rw [show (((m + 1 : Nat) : Int) - 1) = (m : Int) by omega]
      have hb := s[m].toNat_lt
      go_wp2
      exact ⟨⟨m, by omega, rfl, by rw [HV.out]; go_num⟩, by simp [intOf]⟩

theorem ex_take (s : ByteArray) (k : Nat) : (s.extract 0 k).data.toList = s.data.toList.take k := by
  rw [ByteArray.data_extract, Array.toList_extract]; simp [List.extract]
theorem getD_s (s : ByteArray) (j : Nat) (h : j < s.size) : s.data.toList.getD j 0 = s[j] := by
  rw [List.getD_eq_getElem?_getD, List.getElem?_eq_getElem (by simpa using h)]; rfl
set_option maxRecDepth 100000 in
theorem ref_Take (s : ByteArray) (hs : s.size ≤ 100000) (w : World) :
    Calls Try.prog 81 #[.string s] w fun e w' => e = .returned (tkI (VariP.take 9 s.data.toList).1 (VariP.take 9 s.data.toList)) ∧ w = w' := by
  have hl := take_lt 9 (.inl rfl) s.data.toList
  have h1 := VariP.take_last 9 (by omega) s.data.toList
  have hL := ref_last s 9 (by omega) (by unfold maxLen; omega)
  have hz : s.data.toList.length = s.size := rfl
  cases hc : VariP.last s.data.toList 9 with
  | none =>
    rw [hc] at h1 hL
    simp only [hz] at h1
    have HL := Lib.hid hL
    clear hL hl hc hz
    by_cases h9 : 9 ≤ s.size
    · rw [if_pos h9] at h1
      rw [h1]
      clear h1
      go_enter Try.func81, Try.ntmps81
      go_wp2_with fail
      refine (HL.out _).mono ?_
      unfold lastI
      rintro e w1 ⟨rfl, rfl⟩
      go_wp2_with fail
      go_ret3
      exact ⟨rfl, rfl⟩
    · rw [if_neg h9] at h1
      rw [h1]
      clear h1
      go_enter Try.func81, Try.ntmps81
      go_wp2_with fail
      refine (HL.out _).mono ?_
      unfold lastI
      rintro e w1 ⟨rfl, rfl⟩
      go_wp2_with fail
      go_ret3
      exact ⟨rfl, rfl⟩
  | some j =>
    obtain ⟨_, j1, j2, j3⟩ := VariP.lastF_some 9 0 s.data.toList j hc
    rw [Nat.sub_zero] at j2 j3
    have hj : j < s.size := j2
    rw [hc] at h1 hL
    simp only [getD_s s j hj] at h1 j3
    have HL := Lib.hid hL
    clear hL hc hz j2
    by_cases hb : s[j].toNat = 0 ∧ 0 < j
    · rw [if_pos (.inl hb)] at h1
      rw [h1]
      clear h1 hl
      have hz : ((s[j].toNat : Int) == 0) = true := by rw [beq_iff_eq]; omega
      have hj0 := hb.2
      clear hb
      go_enter Try.func81, Try.ntmps81
      go_wp2_with fail
      refine (HL.out _).mono ?_
      unfold lastI
      rintro e w1 ⟨rfl, rfl⟩
      go_wp2_with fail
      go_ret3
      exact ⟨rfl, rfl⟩
    · rw [if_neg (by omega)] at h1
      have hlt := hl.2 rfl
      rw [h1] at hlt ⊢
      clear h1 hl
      have hv := Lib.hid (ref_value (s.extract 0 (j + 1)) (by rw [ByteArray.size_extract]; omega) (by rw [ex_take]; simp only at hlt; omega))
      rw [ex_take] at hv
      unfold tkI
      simp only at hlt ⊢
      generalize VariP.value (s.data.toList.take (j + 1)) = v at hv hlt ⊢
      by_cases h0 : s[j].toNat = 0
      · have hz : ((s[j].toNat : Int) == 0) = true := by rw [beq_iff_eq]; omega
        have hj0 : j = 0 := by omega
        clear hb h0
        subst hj0
        go_enter Try.func81, Try.ntmps81
        go_wp2_with fail
        refine (HL.out _).mono ?_
        unfold lastI
        rintro e w1 ⟨rfl, rfl⟩
        go_wp2_with fail
        refine (hv.out _).mono ?_
        rintro e w1 ⟨rfl, rfl⟩
        go_wp2_with fail
        go_ret3
        exact ⟨rfl, rfl⟩
      · have hz : ((s[j].toNat : Int) == 0) = false := by rw [beq_eq_false_iff_ne]; omega
        clear hb h0
        go_enter Try.func81, Try.ntmps81
        go_wp2_with fail
        refine (HL.out _).mono ?_
        unfold lastI
        rintro e w1 ⟨rfl, rfl⟩
        go_wp2_with fail
        all_goals
          refine (hv.out _).mono ?_
          rintro e w1 ⟨rfl, rfl⟩
          go_wp2_with fail
          go_ret3
          exact ⟨rfl, rfl⟩

theorem zag_even (v : Nat) (h : v % 2 = 0) : VariP.zag v = (v : Int) / 2 := by unfold VariP.zag; rw [if_pos h]; omega
theorem zag_odd (v : Nat) (h : v % 2 = 1) : VariP.zag v = -((v : Int) / 2) - 1 := by unfold VariP.zag; rw [if_neg (by omega)]; omega
set_option maxRecDepth 100000 in
theorem ref_TakeSigned_bad (s : ByteArray) (hs : s.size ≤ 100000) (h1 : VariP.last s.data.toList 10 = none) (w : World) :
    Calls Try.prog 99 #[.string s] w fun e w' => e = .returned (tkI 0 (0, 0, if 10 ≤ s.size then 2 else 3)) ∧ w = w' := by
  have hL := ref_last s 10 (by omega) (by unfold maxLen; omega)
  rw [h1] at hL
  have HL := Lib.hid hL
  clear hL h1
  by_cases h9 : 10 ≤ s.size
  · rw [if_pos h9]
    go_enter Try.func99, Try.ntmps99
    go_wp2_with fail
    refine (HL.out _).mono ?_
    unfold lastI
    rintro e w1 ⟨rfl, rfl⟩
    go_wp2_with fail
    go_ret3
    exact ⟨rfl, rfl⟩
  · rw [if_neg h9]
    go_enter Try.func99, Try.ntmps99
    go_wp2_with fail
    refine (HL.out _).mono ?_
    unfold lastI
    rintro e w1 ⟨rfl, rfl⟩
    go_wp2_with fail
    go_ret3
    exact ⟨rfl, rfl⟩
set_option maxRecDepth 100000 in
theorem ref_TakeSigned_form (s : ByteArray) (j : Nat) (hj : j < s.size) (h1 : VariP.last s.data.toList 10 = some j) (hs : s.size ≤ 100000) (hb : (s[j].toNat = 0 ∧ 0 < j) ∨ (j = 9 ∧ 1 < s[j].toNat)) (w : World) :
    Calls Try.prog 99 #[.string s] w fun e w' => e = .returned (tkI 0 (0, 0, 2)) ∧ w = w' := by
  have hL := ref_last s 10 (by omega) (by unfold maxLen; omega)
  rw [h1] at hL
  have HL := Lib.hid hL
  clear hL h1
  have hj0 : 0 < j := by omega
  by_cases h0 : s[j].toNat = 0
  · have hz : ((s[j].toNat : Int) == 0) = true := by rw [beq_iff_eq]; omega
    clear hb h0
    go_enter Try.func99, Try.ntmps99
    go_wp2_with fail
    refine (HL.out _).mono ?_
    unfold lastI
    rintro e w1 ⟨rfl, rfl⟩
    go_wp2_with fail
    go_ret3
    exact ⟨rfl, rfl⟩
  · have hz : ((s[j].toNat : Int) == 0) = false := by rw [beq_eq_false_iff_ne]; omega
    have h9 : ((j : Int) == 9) = true := by rw [beq_iff_eq]; omega
    have h1s : 1 < s[j].toNat := by omega
    clear hb h0
    go_enter Try.func99, Try.ntmps99
    go_wp2_with fail
    refine (HL.out _).mono ?_
    unfold lastI
    rintro e w1 ⟨rfl, rfl⟩
    go_wp2_with fail
    go_ret3
    exact ⟨rfl, rfl⟩
set_option maxRecDepth 100000 in
theorem ref_TakeSigned_ok (s : ByteArray) (j : Nat) (hj : j < s.size) (h1 : VariP.last s.data.toList 10 = some j) (hs : s.size ≤ 100000) (hb : ¬ ((s[j].toNat = 0 ∧ 0 < j) ∨ (j = 9 ∧ 1 < s[j].toNat))) (v : Nat) (hlt : v < 18446744073709551616)
    (hv : ∀ w, Calls Try.prog 104 #[.string (s.extract 0 (j + 1))] w fun e w' => e = .returned (.int .u64 (v : Int)) ∧ w = w') (w : World) :
    Calls Try.prog 99 #[.string s] w fun e w' => e = .returned (tkI (VariP.zag v) (v, j + 1, 0)) ∧ w = w' := by
  have hL := ref_last s 10 (by omega) (by unfold maxLen; omega)
  rw [h1] at hL
  have HL := Lib.hid hL
  have hv := Lib.hid hv
  clear hL h1
  unfold tkI
  by_cases hj0 : 0 < j
  · have hz : ((s[j].toNat : Int) == 0) = false := by rw [beq_eq_false_iff_ne]; omega
    by_cases h9 : j = 9
    · have h9b : ((j : Int) == 9) = true := by rw [beq_iff_eq]; omega
      have hn1 : ¬ 1 < s[j].toNat := by omega
      clear hb h9
      rcases Nat.mod_two_eq_zero_or_one v with h | h
      · have HZ := Lib.hid (zag_even v h)
        have hm : (v : Int) % 2 = 0 := by omega
        clear h
        go_enter Try.func99, Try.ntmps99
        go_wp2_with fail
        refine (HL.out _).mono ?_
        unfold lastI
        rintro e w1 ⟨rfl, rfl⟩
        go_wp2_with fail
        all_goals
          refine (hv.out _).mono ?_
          rintro e w1 ⟨rfl, rfl⟩
          go_wp2_with fail
          go_ret3
          exact ⟨ret_val (by rw [HZ.out]; rfl), rfl⟩
      · have HZ := Lib.hid (zag_odd v h)
        have hm : (v : Int) % 2 = 1 := by omega
        clear h
        go_enter Try.func99, Try.ntmps99
        go_wp2_with fail
        refine (HL.out _).mono ?_
        unfold lastI
        rintro e w1 ⟨rfl, rfl⟩
        go_wp2_with fail
        all_goals
          refine (hv.out _).mono ?_
          rintro e w1 ⟨rfl, rfl⟩
          go_wp2_with fail
          go_ret3
          exact ⟨ret_val (by rw [HZ.out]; rfl), rfl⟩
    · have h9b : ((j : Int) == 9) = false := by rw [beq_eq_false_iff_ne]; omega
      clear hb h9
      rcases Nat.mod_two_eq_zero_or_one v with h | h
      · have HZ := Lib.hid (zag_even v h)
        have hm : (v : Int) % 2 = 0 := by omega
        clear h
        go_enter Try.func99, Try.ntmps99
        go_wp2_with fail
        refine (HL.out _).mono ?_
        unfold lastI
        rintro e w1 ⟨rfl, rfl⟩
        go_wp2_with fail
        all_goals
          refine (hv.out _).mono ?_
          rintro e w1 ⟨rfl, rfl⟩
          go_wp2_with fail
          go_ret3
          exact ⟨ret_val (by rw [HZ.out]; rfl), rfl⟩
      · have HZ := Lib.hid (zag_odd v h)
        have hm : (v : Int) % 2 = 1 := by omega
        clear h
        go_enter Try.func99, Try.ntmps99
        go_wp2_with fail
        refine (HL.out _).mono ?_
        unfold lastI
        rintro e w1 ⟨rfl, rfl⟩
        go_wp2_with fail
        all_goals
          refine (hv.out _).mono ?_
          rintro e w1 ⟨rfl, rfl⟩
          go_wp2_with fail
          go_ret3
          exact ⟨ret_val (by rw [HZ.out]; rfl), rfl⟩
  · obtain rfl : j = 0 := by omega
    clear hb hj0
    rcases Nat.mod_two_eq_zero_or_one v with h | h
    · have HZ := Lib.hid (zag_even v h)
      have hm : (v : Int) % 2 = 0 := by omega
      clear h
      go_enter Try.func99, Try.ntmps99
      go_wp2_with fail
      refine (HL.out _).mono ?_
      unfold lastI
      rintro e w1 ⟨rfl, rfl⟩
      go_wp2_with fail
      all_goals
        refine (hv.out _).mono ?_
        rintro e w1 ⟨rfl, rfl⟩
        go_wp2_with fail
        go_ret3
        exact ⟨ret_val (by rw [HZ.out]; rfl), rfl⟩
    · have HZ := Lib.hid (zag_odd v h)
      have hm : (v : Int) % 2 = 1 := by omega
      clear h
      go_enter Try.func99, Try.ntmps99
      go_wp2_with fail
      refine (HL.out _).mono ?_
      unfold lastI
      rintro e w1 ⟨rfl, rfl⟩
      go_wp2_with fail
      all_goals
        refine (hv.out _).mono ?_
        rintro e w1 ⟨rfl, rfl⟩
        go_wp2_with fail
        go_ret3
        exact ⟨ret_val (by rw [HZ.out]; rfl), rfl⟩

theorem ref_TakeSigned (s : ByteArray) (hs : s.size ≤ 100000) (w : World) :
    Calls Try.prog 99 #[.string s] w fun e w' => e = .returned (tkI (VariP.zag (VariP.take 10 s.data.toList).1) (VariP.take 10 s.data.toList)) ∧ w = w' := by
  have hl := (take_lt 10 (.inr rfl) s.data.toList).1
  have h1 := VariP.take_last 10 (by omega) s.data.toList
  cases hc : VariP.last s.data.toList 10 with
  | none =>
    have hz : s.data.toList.length = s.size := rfl
    rw [hc] at h1
    simp only [hz] at h1
    have h2 := ref_TakeSigned_bad s hs hc w
    by_cases h9 : 10 ≤ s.size
    · rw [if_pos h9] at h1 h2
      rw [h1]; exact h2
    · rw [if_neg h9] at h1 h2
      rw [h1]; exact h2
  | some j =>
    obtain ⟨_, j1, j2, j3⟩ := VariP.lastF_some 10 0 s.data.toList j hc
    rw [Nat.sub_zero] at j2 j3
    have hj : j < s.size := j2
    rw [hc] at h1
    simp only [getD_s s j hj] at h1
    by_cases hb : (s[j].toNat = 0 ∧ 0 < j) ∨ (j = 9 ∧ 1 < s[j].toNat)
    · rw [if_pos hb] at h1
      rw [h1]
      exact ref_TakeSigned_form s j hj hc hs hb w
    · rw [if_neg hb] at h1
      rw [h1] at hl ⊢
      refine ref_TakeSigned_ok s j hj hc hs hb _ hl (fun w => ?_) w
      have := ref_value (s.extract 0 (j + 1)) (by rw [ByteArray.size_extract]; omega) (by rw [ex_take]; exact hl) w
      rwa [ex_take] at this
end Go.Proofs.Ytkhnmdmpkedifaa
