/- Walks of layer 14 (keyed) and of its reference. -/
import Derived.Test.YtjiepgajjfnnkaaKit
import Derived.Test.YtjiepgajjfnnkaaOpen
import Derived.Test.YtjiepgajjfnnkaaRegion
import Derived.Test.YtjiepgajjfnnkaaBigP
import Derived.Test.YtjiepgajjfnnkaaBits
import Derived.Test.YtjiepgajjfnnkaaStr
namespace Go.Proofs.Ytjiepgajjfnnkaa
open Go.ChangeShapes Go.WideShapes Go.ChangeAt Go.RowKit Go.Deep BigP

theorem big8 (u : Nat) : big 8 u = [UInt8.ofNat (u / 72057594037927936 % 256), UInt8.ofNat (u / 281474976710656 % 256), UInt8.ofNat (u / 1099511627776 % 256), UInt8.ofNat (u / 4294967296 % 256), UInt8.ofNat (u / 16777216 % 256), UInt8.ofNat (u / 65536 % 256), UInt8.ofNat (u / 256 % 256), UInt8.ofNat (u % 256)] := by
  simp only [big, List.nil_append, List.cons_append, Nat.div_div_eq_div_mul]
theorem big8_cells (u : Nat) (hu : u < 256 ^ 8) : (#[.int .u8 ((u : Int) / 72057594037927936), .int .u8 ((u : Int) / 281474976710656 % 256), .int .u8 ((u : Int) / 1099511627776 % 256), .int .u8 ((u : Int) / 4294967296 % 256),
    .int .u8 ((u : Int) / 16777216 % 256), .int .u8 ((u : Int) / 65536 % 256), .int .u8 ((u : Int) / 256 % 256), .int .u8 ((u : Int) % 256)] : Array Value) = bcells (big 8 u) := by
  rw [big8]
  have h : ∀ n : Nat, (UInt8.ofNat (n % 256)).toNat = n % 256 := fun n => UInt8.toNat_ofNat_of_lt' (show n % 256 < 256 by omega)
  simp only [bcells, List.map_cons, List.map_nil, h]
  have e : (u : Int) / 72057594037927936 = ((u / 72057594037927936 % 256 : Nat) : Int) := by omega
  rw [e]
  rfl

theorem keyed_put (n : Int) (hn : I64 n) (w : World) :
    Calls Try.prog 43 #[.int .i64 n] w fun e w' => e = .returned (.string ⟨(big 8 (up n)).toArray⟩) ∧ Below w.heap.size w w' := by
  unfold I64 at hn
  go_enter Try.func43, Try.ntmps43
  go_wp2
  rw [xor_top n hn]
  have hu := up_lt n hn
  generalize hg : up n = u at hu ⊢
  have HG := Lib.hid hg
  clear hg
  clear hn
  refine wp_loop_rounds 9 ?_
  rw [rounds_succ]
  go_wp2
  rw [rounds_succ]
  go_wp2
  rw [rounds_succ]
  go_wp2
  rw [rounds_succ]
  go_wp2
  rw [rounds_succ]
  go_wp2
  rw [rounds_succ]
  go_wp2
  rw [rounds_succ]
  go_wp2
  rw [rounds_succ]
  go_wp2
  rw [rounds_succ]
  go_wp2
  have e := big8_cells u hu
  rw [e, run_string_new _ Try.underlying51 Try.underlying5 Try.underlying9 8 8 (big 8 u) (big_length 8 u).symm]
  go_wp2
  go_ret
  exact ⟨by rw [HG.out]; rfl, (Below.refl _ _).alloc (Nat.le_refl _) _⟩

theorem ref_eight (n : Int) (hn : I64 n) (w : World) :
    Calls Try.prog 44 #[.int .i64 n] w fun e w' => e = .returned (.string ⟨(big 8 (up n)).toArray⟩) ∧ Below w.heap.size w w' := by
  unfold I64 at hn
  go_enter Try.func44, Try.ntmps44
  go_wp2
  rw [add_top n hn]
  have hu := up_lt n hn
  generalize hg : up n = u at hu ⊢
  have HG := Lib.hid hg
  clear hg hn
  go_loopw [3, 4, 5] (fun uu s i wr => ∃ k : Nat, k ≤ 8 ∧ i = .int .i64 k ∧ uu = .int .u64 (u / 256 ^ k : Nat) ∧ s = .string ⟨(big k u).toArray⟩ ∧ Below w.heap.size w wr) (fun _ _ i _ => 8 - (intOf i).toNat)
  case atStart => exact ⟨0, by omega, rfl, by rw [Nat.pow_zero, Nat.div_one], rfl, Below.refl _ _⟩
  case round =>
    obtain ⟨k, hk, rfl, rfl, rfl, hb⟩ := hrel
    have hlen : (big k u).length ≤ 8 := by rw [big_length]; omega
    have hd := Lib.hid (Nat.div_div_eq_div_mul u (256 ^ k) 256)
    have hlt : u / 256 ^ k < 18446744073709551616 := Nat.lt_of_le_of_lt (Nat.div_le_self _ _) hu
    generalize hv : u / 256 ^ k = v at hd hlt ⊢
    have HV := Lib.hid hv
    clear hv
    go_wp2
    · refine ⟨⟨k + 1, by omega, by go_num, ?_, ?_, by (repeat (first | assumption | exact Below.refl _ _ | refine below_step (by assumption) ?_ | refine below_alloc' _ ?_ | refine below_drewN ?_ _ | refine Below.drew ?_))⟩, by simp [intOf]; omega⟩
      · have := hd.out
        rw [Nat.pow_succ, ← this]
        rfl
      · rw [ba_cons, big_cons, HV.out]
    · obtain rfl : k = 8 := by omega
      go_ret
      exact ⟨by rw [HG.out]; rfl, hb⟩

theorem take_snoc (l : List UInt8) (k : Nat) (h : k < l.length) : l.take (k + 1) = l.take k ++ [l.getD k 0] := by
  rw [List.take_succ_eq_append_getElem h]; simp [List.getD, h]
theorem num_snoc (l : List UInt8) (k : Nat) (h : k < l.length) : num 0 (l.take (k + 1)) = num 0 (l.take k) * 256 + (l.getD k 0).toNat := by
  rw [take_snoc l k h, num_append]; rfl
theorem num_take_lt (l : List UInt8) (k : Nat) (h : k < l.length) (h8 : l.length ≤ 8) : num 0 (l.take k) < 256 ^ 7 := by
  have h1 := num_lt (l.take k)
  have h2 : 256 ^ (l.take k).length ≤ 256 ^ 7 := Nat.pow_le_pow_right (by omega) (by rw [List.length_take]; omega)
  omega
theorem num_lt8 (l : List UInt8) (h8 : l.length ≤ 8) : num 0 l < 18446744073709551616 := by
  have h1 := num_lt l
  have h2 : 256 ^ l.length ≤ 256 ^ 8 := Nat.pow_le_pow_right (by omega) h8
  omega
theorem shl_or (u c : Nat) (hu : u < 256 ^ 7) (hc : c < 256) : bits .or .u64 ((u : Int) * 256) (c : Int) = ((u * 256 + c : Nat) : Int) := by
  rw [show (u : Int) * 256 = ((u * 256 : Nat) : Int) by omega, u64_or_nat _ _ (by omega) (by omega), nat_join 8 _ _ (by omega) (by omega)]

theorem keyed_take (s : ByteArray) (hs : s.size ≤ 8) (w : World) :
    Calls Try.prog 41 #[.string s] w fun e w' => e = .returned (.int .i64 (down (num 0 s.data.toList))) ∧ Below w.heap.size w w' := by
  go_enter Try.func41, Try.ntmps41
  go_wp2
  obtain ⟨hc, hb, hz⟩ := bytesWorld_facts w 5 s
  generalize Lib.bytesWorld w 5 s = w1 at hc hb hz ⊢
  have HZ := Lib.hid hz
  clear hz
  go_loop [3, 9] (fun uu i => ∃ k : Nat, k ≤ s.size ∧ i = .int .i64 k ∧ uu = .int .u64 (num 0 (s.data.toList.take k) : Nat)) (fun _ i => s.size - (intOf i).toNat)
  case atStart => exact ⟨0, by omega, rfl, rfl⟩
  case round =>
    obtain ⟨k, hk, rfl, rfl⟩ := hrel
    have hck := hc k
    clear hc
    by_cases hlt : k < s.size
    · have hu := num_take_lt s.data.toList k (by simpa using hlt) (by simpa using hs)
      have hn := Lib.hid (num_snoc s.data.toList k (by simpa using hlt))
      have hcc := hck hlt
      have hb8 := (s.data.toList.getD k 0).toNat_lt
      have ho := Lib.hid (shl_or (num 0 (s.data.toList.take k)) (s.data.toList.getD k 0).toNat hu hb8)
      generalize (s.data.toList.getD k 0).toNat = c at hcc hb8 ho hn
      generalize num 0 (s.data.toList.take k) = v at hu ho hn ⊢
      clear hck
      go_wp2
      exact ⟨⟨k + 1, by omega, by go_num, by rw [ho.out, hn.out]⟩, by simp [intOf]; omega⟩
    · clear hck
      go_wp2
      go_ret
      obtain rfl : k = s.size := by omega
      have hl : s.data.toList.take s.size = s.data.toList := List.take_of_length_le (by simp)
      have hn := num_lt8 s.data.toList (by simpa using hs)
      refine ⟨?_, hb⟩
      rw [hl, xor_back _ hn]
      rfl

theorem ref_back (s : ByteArray) (hs : s.size ≤ 8) (w : World) :
    Calls Try.prog 42 #[.string s] w fun e w' => e = .returned (.int .i64 (down (num 0 s.data.toList))) ∧ w = w' := by
  go_enter Try.func42, Try.ntmps42
  go_wp2
  go_loop [3, 4] (fun uu i => ∃ k : Nat, k ≤ s.size ∧ i = .int .i64 k ∧ uu = .int .u64 (num 0 (s.data.toList.take k) : Nat)) (fun _ i => s.size - (intOf i).toNat)
  case atStart => exact ⟨0, by omega, rfl, rfl⟩
  case round =>
    obtain ⟨k, hk, rfl, rfl⟩ := hrel
    by_cases hlt : k < s.size
    · have hu := num_take_lt s.data.toList k (by simpa using hlt) (by simpa using hs)
      have hn := Lib.hid (num_snoc s.data.toList k (by simpa using hlt))
      have hg := Lib.hid (show s.data.toList.getD k 0 = s[k] by rw [List.getD_eq_getElem?_getD, List.getElem?_eq_getElem (by simpa using hlt)]; rfl)
      go_wp2
      refine ⟨⟨k + 1, by omega, by go_num, ?_⟩, by simp [intOf]; omega⟩
      rw [hn.out, hg.out, wrap_u64, wrap_u64]
      have := s[k].toNat_lt
      refine congrArg _ ?_
      omega
    · go_wp2
      go_ret
      obtain rfl : k = s.size := by omega
      have hl : s.data.toList.take s.size = s.data.toList := List.take_of_length_le (by simp)
      have hn := num_lt8 s.data.toList (by simpa using hs)
      refine ⟨?_, rfl⟩
      rw [hl, sub_back _ hn]
      rfl

theorem keyed_Of (a b : Int) (ha : I64 a) (hb : I64 b) (w : World) :
    Calls Try.prog 34 #[.int .i64 a, .int .i64 b] w fun e w' => e = .returned (.string ⟨(big 8 (up a) ++ big 8 (up b)).toArray⟩) ∧ Below w.heap.size w w' := by
  have h1 := Lib.hid (keyed_put a ha)
  have h2 := Lib.hid (keyed_put b hb)
  have l1 : (big 8 (up a)).length ≤ 8 := by rw [big_length]; omega
  have l2 : (big 8 (up b)).length ≤ 8 := by rw [big_length]; omega
  clear ha hb
  go_enter Try.func34, Try.ntmps34
  go_wp2_with fail
  refine (h1.out _).mono ?_
  rintro e w1 ⟨rfl, hb1⟩
  go_wp2_with fail
  refine (h2.out _).mono ?_
  rintro e w2 ⟨rfl, hb2⟩
  go_wp2_with fail
  go_ret
  exact ⟨ret_str (ba_append _ _), by (repeat (first | assumption | exact Below.refl _ _ | refine below_step (by assumption) ?_ | refine below_alloc' _ ?_ | refine below_drewN ?_ _ | refine Below.drew ?_))⟩

theorem ref_KOf (a b : Int) (ha : I64 a) (hb : I64 b) (w : World) :
    Calls Try.prog 35 #[.int .i64 a, .int .i64 b] w fun e w' => e = .returned (.string ⟨(big 8 (up a) ++ big 8 (up b)).toArray⟩) ∧ Below w.heap.size w w' := by
  have h1 := Lib.hid (ref_eight a ha)
  have h2 := Lib.hid (ref_eight b hb)
  have l1 : (big 8 (up a)).length ≤ 8 := by rw [big_length]; omega
  have l2 : (big 8 (up b)).length ≤ 8 := by rw [big_length]; omega
  clear ha hb
  go_enter Try.func35, Try.ntmps35
  go_wp2_with fail
  refine (h1.out _).mono ?_
  rintro e w1 ⟨rfl, hb1⟩
  go_wp2_with fail
  refine (h2.out _).mono ?_
  rintro e w2 ⟨rfl, hb2⟩
  go_wp2_with fail
  go_ret
  exact ⟨ret_str (ba_append _ _), by (repeat (first | assumption | exact Below.refl _ _ | refine below_step (by assumption) ?_ | refine below_alloc' _ ?_ | refine below_drewN ?_ _ | refine Below.drew ?_))⟩

theorem keyed_End (a : Int) (s : ByteArray) (ha : I64 a) (hs : s.size ≤ 1000) (w : World) :
    Calls Try.prog 36 #[.int .i64 a, .string s] w fun e w' => e = .returned (.string ⟨(big 8 (up a) ++ s.data.toList).toArray⟩) ∧ Below w.heap.size w w' := by
  have h1 := Lib.hid (keyed_put a ha)
  have l1 : (big 8 (up a)).length ≤ 8 := by rw [big_length]; omega
  clear ha
  go_enter Try.func36, Try.ntmps36
  go_wp2_with fail
  refine (h1.out _).mono ?_
  rintro e w1 ⟨rfl, hb1⟩
  go_wp2_with fail
  go_ret
  exact ⟨ret_str (ba_append' _ s), by (repeat (first | assumption | exact Below.refl _ _ | refine below_step (by assumption) ?_ | refine below_alloc' _ ?_ | refine below_drewN ?_ _ | refine Below.drew ?_))⟩

theorem ref_KEnd (a : Int) (s : ByteArray) (ha : I64 a) (hs : s.size ≤ 1000) (w : World) :
    Calls Try.prog 37 #[.int .i64 a, .string s] w fun e w' => e = .returned (.string ⟨(big 8 (up a) ++ s.data.toList).toArray⟩) ∧ Below w.heap.size w w' := by
  have h1 := Lib.hid (ref_eight a ha)
  have l1 : (big 8 (up a)).length ≤ 8 := by rw [big_length]; omega
  clear ha
  go_enter Try.func37, Try.ntmps37
  go_wp2_with fail
  refine (h1.out _).mono ?_
  rintro e w1 ⟨rfl, hb1⟩
  go_wp2_with fail
  go_ret
  exact ⟨ret_str (ba_append' _ s), by (repeat (first | assumption | exact Below.refl _ _ | refine below_step (by assumption) ?_ | refine below_alloc' _ ?_ | refine below_drewN ?_ _ | refine Below.drew ?_))⟩

def spA (s : ByteArray) : Int := if s.size = 16 then down (num 0 (s.extract 0 8).data.toList) else 0
def spB (s : ByteArray) : Int := if s.size = 16 then down (num 0 (s.extract 8 s.size).data.toList) else 0
def seA (s : ByteArray) : Int := if s.size = 24 then down (num 0 (s.extract 0 8).data.toList) else 0
def seB (s : ByteArray) : ByteArray := if s.size = 24 then s.extract 8 s.size else ⟨#[]⟩

theorem keyed_Split (s : ByteArray) (w : World) :
    Calls Try.prog 30 #[.string s] w fun e w' => e = .returned (.tuple #[.int .i64 (spA s), .int .i64 (spB s), .bool (decide (s.size = 16))]) ∧ Below w.heap.size w w' := by
  by_cases h : s.size = 16
  · have hn : ((s.size : Int) != 16) = false := by simp; omega
    have h1 := Lib.hid (keyed_take (s.extract 0 8) (by simp [ByteArray.size_extract]; omega))
    have h2 := Lib.hid (keyed_take (s.extract 8 s.size) (by simp [ByteArray.size_extract]; omega))
    have hle : 8 ≤ s.size := by omega
    have H := Lib.hid h
    clear h
    go_enter Try.func30, Try.ntmps30
    go_wp2
    refine wp_region_later w.heap.size (by kernel_rfl) (by kernel_rfl) ?_
    repeat (go_big_quiet_step ((first
      | (go_at_call 41; with_reducible exact later_of _ (Nat.le_refl _) (h1.out _))
      | (go_at_call 41; with_reducible exact later_of _ (Nat.le_refl _) (h2.out _)))))
    refine wpQuiet_nil ?_
    intro _ hw'
    obtain ⟨u, hw''⟩ := hw'
    subst hw''
    go_wp2
    go_ret3
    exact ⟨ret_val (by unfold spA spB; rw [if_pos H.out, if_pos H.out, decide_eq_true H.out]; rfl), u.h⟩
  · have hn : ((s.size : Int) != 16) = true := by simp; omega
    have H := Lib.hid h
    clear h
    go_enter Try.func30, Try.ntmps30
    go_wp2
    go_ret3
    exact ⟨ret_val (by unfold spA spB; rw [if_neg H.out, if_neg H.out, decide_eq_false H.out]; rfl), Below.refl _ _⟩

theorem ref_Split (s : ByteArray) (w : World) :
    Calls Try.prog 31 #[.string s] w fun e w' => e = .returned (.tuple #[.int .i64 (spA s), .int .i64 (spB s), .bool (decide (s.size = 16))]) ∧ Below w.heap.size w w' := by
  by_cases h : s.size = 16
  · have hn : ((s.size : Int) != 16) = false := by simp; omega
    have h1 := Lib.hid (ref_back (s.extract 0 8) (by simp [ByteArray.size_extract]; omega))
    have h2 := Lib.hid (ref_back (s.extract 8 s.size) (by simp [ByteArray.size_extract]; omega))
    have hle : 8 ≤ s.size := by omega
    have H := Lib.hid h
    clear h
    go_enter Try.func31, Try.ntmps31
    go_wp2
    refine wp_region_later w.heap.size (by kernel_rfl) (by kernel_rfl) ?_
    repeat (go_big_quiet_step ((first
      | (go_at_call 42; with_reducible exact later_of_same _ (h1.out _))
      | (go_at_call 42; with_reducible exact later_of_same _ (h2.out _)))))
    refine wpQuiet_nil ?_
    intro _ hw'
    obtain ⟨u, hw''⟩ := hw'
    subst hw''
    go_wp2
    go_ret3
    exact ⟨ret_val (by unfold spA spB; rw [if_pos H.out, if_pos H.out, decide_eq_true H.out]; rfl), u.h⟩
  · have hn : ((s.size : Int) != 16) = true := by simp; omega
    have H := Lib.hid h
    clear h
    go_enter Try.func31, Try.ntmps31
    go_wp2
    go_ret3
    exact ⟨ret_val (by unfold spA spB; rw [if_neg H.out, if_neg H.out, decide_eq_false H.out]; rfl), Below.refl _ _⟩

theorem keyed_SplitEnd (s : ByteArray) (w : World) :
    Calls Try.prog 32 #[.string s] w fun e w' => e = .returned (.tuple #[.int .i64 (seA s), .string (seB s), .bool (decide (s.size = 24))]) ∧ Below w.heap.size w w' := by
  by_cases h : s.size = 24
  · have hn : ((s.size : Int) != 24) = false := by simp; omega
    have h1 := Lib.hid (keyed_take (s.extract 0 8) (by simp [ByteArray.size_extract]; omega))
    have hle : 8 ≤ s.size := by omega
    have H := Lib.hid h
    clear h
    go_enter Try.func32, Try.ntmps32
    go_wp2
    refine wp_region_later w.heap.size (by kernel_rfl) (by kernel_rfl) ?_
    repeat (go_big_quiet_step ((first
      | (go_at_call 41; with_reducible exact later_of _ (Nat.le_refl _) (h1.out _)))))
    refine wpQuiet_nil ?_
    intro _ hw'
    obtain ⟨u, hw''⟩ := hw'
    subst hw''
    go_wp2
    go_ret3
    exact ⟨ret_val (by unfold seA seB; rw [if_pos H.out, if_pos H.out, decide_eq_true H.out]; rfl), u.h⟩
  · have hn : ((s.size : Int) != 24) = true := by simp; omega
    have H := Lib.hid h
    clear h
    go_enter Try.func32, Try.ntmps32
    go_wp2
    go_ret3
    exact ⟨ret_val (by unfold seA seB; rw [if_neg H.out, if_neg H.out, decide_eq_false H.out]; rfl), Below.refl _ _⟩

theorem ref_SplitEnd (s : ByteArray) (w : World) :
    Calls Try.prog 33 #[.string s] w fun e w' => e = .returned (.tuple #[.int .i64 (seA s), .string (seB s), .bool (decide (s.size = 24))]) ∧ Below w.heap.size w w' := by
  by_cases h : s.size = 24
  · have hn : ((s.size : Int) != 24) = false := by simp; omega
    have h1 := Lib.hid (ref_back (s.extract 0 8) (by simp [ByteArray.size_extract]; omega))
    have hle : 8 ≤ s.size := by omega
    have H := Lib.hid h
    clear h
    go_enter Try.func33, Try.ntmps33
    go_wp2
    refine wp_region_later w.heap.size (by kernel_rfl) (by kernel_rfl) ?_
    repeat (go_big_quiet_step ((first
      | (go_at_call 42; with_reducible exact later_of_same _ (h1.out _)))))
    refine wpQuiet_nil ?_
    intro _ hw'
    obtain ⟨u, hw''⟩ := hw'
    subst hw''
    go_wp2
    go_ret3
    exact ⟨ret_val (by unfold seA seB; rw [if_pos H.out, if_pos H.out, decide_eq_true H.out]; rfl), u.h⟩
  · have hn : ((s.size : Int) != 24) = true := by simp; omega
    have H := Lib.hid h
    clear h
    go_enter Try.func33, Try.ntmps33
    go_wp2
    go_ret3
    exact ⟨ret_val (by unfold seA seB; rw [if_neg H.out, if_neg H.out, decide_eq_false H.out]; rfl), Below.refl _ _⟩

theorem keyed_Span (x : Sp) (hx : x.Ok) (w : World) :
    Calls Try.prog 38 #[.agg #[.int .i64 x.tr, .int .i64 x.id, .int .i64 x.pa, .int .i64 x.rv, .string x.sv, .string x.op, .int .i64 x.st, .int .i64 x.du, .bool x.gn]] w fun e w' => e = .returned (.string ⟨(big 8 (up x.tr) ++ big 8 (up x.id)).toArray⟩) ∧ Below w.heap.size w w' := by
  have h1 := Lib.hid (keyed_Of x.tr x.id hx.1 hx.2.1)
  clear hx
  go_enter Try.func38, Try.ntmps38
  go_wp2_with (go_at_call 34; refine (h1.out _).mono ?_; rintro e w1 ⟨rfl, hb1⟩)
  go_ret
  exact ⟨rfl, by (repeat (first | assumption | exact Below.refl _ _ | refine below_step (by assumption) ?_ | refine below_alloc' _ ?_ | refine below_drewN ?_ _ | refine Below.drew ?_))⟩

def kbef (x y : Sp) : Bool := decide (x.tr < y.tr ∨ (x.tr = y.tr ∧ x.id < y.id))
def kone (x y : Sp) : Bool := decide (x.tr = y.tr ∧ x.id = y.id)
theorem ref_Before (x y : Sp) (w : World) :
    Calls Try.prog 39 #[.agg #[.int .i64 x.tr, .int .i64 x.id, .int .i64 x.pa, .int .i64 x.rv, .string x.sv, .string x.op, .int .i64 x.st, .int .i64 x.du, .bool x.gn], .agg #[.int .i64 y.tr, .int .i64 y.id, .int .i64 y.pa, .int .i64 y.rv, .string y.sv, .string y.op, .int .i64 y.st, .int .i64 y.du, .bool y.gn]] w fun e w' => e = .returned (.bool (kbef x y)) ∧ Below w.heap.size w w' := by
  go_enter Try.func39, Try.ntmps39
  go_wp2
  all_goals
    go_ret
    refine ⟨ret_bool ?_, by (repeat (first | assumption | exact Below.refl _ _ | refine below_step (by assumption) ?_ | refine below_alloc' _ ?_ | refine below_drewN ?_ _ | refine Below.drew ?_))⟩
    unfold kbef
    simp only [*]
    simp <;> omega
theorem ref_One (x y : Sp) (w : World) :
    Calls Try.prog 40 #[.agg #[.int .i64 x.tr, .int .i64 x.id, .int .i64 x.pa, .int .i64 x.rv, .string x.sv, .string x.op, .int .i64 x.st, .int .i64 x.du, .bool x.gn], .agg #[.int .i64 y.tr, .int .i64 y.id, .int .i64 y.pa, .int .i64 y.rv, .string y.sv, .string y.op, .int .i64 y.st, .int .i64 y.du, .bool y.gn]] w fun e w' => e = .returned (.bool (kone x y)) ∧ Below w.heap.size w w' := by
  go_enter Try.func40, Try.ntmps40
  go_wp2
  all_goals
    go_ret
    refine ⟨ret_bool ?_, by (repeat (first | assumption | exact Below.refl _ _ | refine below_step (by assumption) ?_ | refine below_alloc' _ ?_ | refine below_drewN ?_ _ | refine Below.drew ?_))⟩
    unfold kone
    rw [Bool.eq_iff_iff]
    simp [*]
end Go.Proofs.Ytjiepgajjfnnkaa
