/- Walks of layer 8 (name): Kind · The document's names (layer 8): dec, Of, number, Kind · The document's names (layer 8): Kind, Few, Numbers. -/
import Derived.Test.YtcpmicinibfepaaGreatDoorWBb
import Derived.Test.YtcpmicinibfepaaGreatDoorWAc
namespace Go.Proofs.YtcpmicinibfepaaGreatDoor
open Go.ChangeShapes Go.WideShapes Go.ChangeAt Go.RowKit Go.Deep NameP Go.Sort


theorem S8_eq {a b : List UInt8} : ((S8 a).toList == (S8 b).toList) = decide (a = b) := by
  rw [Lib.toList_data, Lib.toList_data, S8_toList, S8_toList]
  rw [Bool.eq_iff_iff]
  simp
theorem S8_eqL (a l : List UInt8) : ((S8 a).toList == l) = decide (a = l) := by
  rw [Lib.toList_data, S8_toList, Bool.eq_iff_iff]
  simp
theorem numV_of {first s : List UInt8} {n : Nat} (h : numS first s = some n) : numV first s = ((n : Int), true) := by unfold numV; rw [h]
theorem numV_no {first s : List UInt8} (h : numS first s = none) : numV first s = (0, false) := by unfold numV; rw [h]

set_option maxRecDepth 100000 in
theorem name_Kind (s : List UInt8) (hs : s.length ≤ 1000000) (w : World) : Calls Tryz.prog 67 #[.string (S8 s)] w fun e w' => e = .returned (.tuple #[.int .i64 (kindS s).1, .int .i64 (kindS s).2]) ∧ Below w.heap.size w w' := by
  have H1' : ∀ W : World, Calls Tryz.prog 85 #[.string (S8 s), .string ⟨#[108, 111, 103, 46]⟩] W fun e w' => e = .returned (.tuple #[.int .i64 (numV logS s).1, .bool (numV logS s).2]) ∧ Below W.heap.size W w' := fun W => name_number logS s hs W
  have H1 := Lib.hid H1'
  clear H1'
  have H2' : ∀ W : World, Calls Tryz.prog 85 #[.string (S8 s), .string ⟨#[105, 109, 97, 103, 101, 46]⟩] W fun e w' => e = .returned (.tuple #[.int .i64 (numV imgS s).1, .bool (numV imgS s).2]) ∧ Below W.heap.size W w' := fun W => name_number imgS s hs W
  have H2 := Lib.hid H2'
  clear H2'
  by_cases h1 : s = mainS
  · subst h1
    rw [show kindS mainS = (3, 0) by decide +kernel]
    have e1 : ((S8 mainS).toList == [109, 97, 105, 110]) = true := by rw [S8_eqL]; decide
    go_enter Tryz.func67, Tryz.ntmps67
    go_wp2_with fail
    go_ret2
    exact ⟨rfl, Below.refl _ _⟩
  have e1 : ((S8 s).toList == [109, 97, 105, 110]) = false := by rw [S8_eqL]; exact decide_eq_false h1
  by_cases h2 : s = freshS
  · subst h2
    rw [show kindS freshS = (4, 0) by decide +kernel]
    have e2 : ((S8 freshS).toList == [109, 97, 105, 110, 46, 110, 101, 119]) = true := by rw [S8_eqL]; decide
    go_enter Tryz.func67, Tryz.ntmps67
    go_wp2_with fail
    go_ret2
    exact ⟨rfl, Below.refl _ _⟩
  have e2 : ((S8 s).toList == [109, 97, 105, 110, 46, 110, 101, 119]) = false := by rw [S8_eqL]; exact decide_eq_false h2
  have hk : kindS s = match numS logS s with
    | some n => (1, (n : Int))
    | none => match numS imgS s with
      | some n => (2, (n : Int))
      | none => (0, 0) := by unfold kindS; rw [if_neg h1, if_neg h2]; rfl
  cases hl : numS logS s with
  | some n =>
    rw [hl] at hk
    rw [hk]
    rw [numV_of hl] at H1
    clear hk h1 h2 hl
    go_enter Tryz.func67, Tryz.ntmps67
    go_wp2_with (go_at_call 85; (with_reducible refine (H1.out _).mono ?_); rintro e w1 ⟨rfl, b1⟩)
    go_ret2
    exact ⟨rfl, b1⟩
  | none =>
    rw [hl] at hk
    simp only at hk
    rw [numV_no hl] at H1
    cases hi : numS imgS s with
    | some n =>
      rw [hi] at hk
      rw [hk]
      rw [numV_of hi] at H2
      clear hk h1 h2 hl hi
      go_enter Tryz.func67, Tryz.ntmps67
      go_wp2_with (first
        | (go_at_call 85; (with_reducible refine (H1.out _).mono ?_); rintro e w1 ⟨rfl, b1⟩)
        | (go_at_call 85; (with_reducible refine (H2.out _).mono ?_); rintro e w2 ⟨rfl, b2⟩))
      go_ret2
      exact ⟨rfl, below_step b2 b1⟩
    | none =>
      rw [hi] at hk
      rw [hk]
      rw [numV_no hi] at H2
      clear hk h1 h2 hl hi
      go_enter Tryz.func67, Tryz.ntmps67
      go_wp2_with (first
        | (go_at_call 85; (with_reducible refine (H1.out _).mono ?_); rintro e w1 ⟨rfl, b1⟩)
        | (go_at_call 85; (with_reducible refine (H2.out _).mono ?_); rintro e w2 ⟨rfl, b2⟩))
      go_ret2
      exact ⟨rfl, below_step b2 b1⟩
end Go.Proofs.YtcpmicinibfepaaGreatDoor

namespace Go.Proofs.YtcpmicinibfepaaGreatDoor
open Go.ChangeShapes Go.WideShapes Go.ChangeAt Go.RowKit Go.Deep NameP Go.Sort


def dd (m : Nat) : List UInt8 := if m = 0 then [] else Lib.decDigits m
theorem dd_step (m : Nat) (h : 1 ≤ m) : dd m = dd (m / 10) ++ [UInt8.ofNat (48 + m % 10)] := by
  unfold dd
  rw [if_neg (by omega)]
  by_cases h9 : m < 10
  · rw [if_pos (by omega), Lib.decDigits_one h9, Nat.mod_eq_of_lt h9]; rfl
  · rw [if_neg (by omega)]
    conv => lhs; rw [Lib.decDigits]
    rw [dif_neg h9]
theorem dd_len (m : Nat) (h : m ≤ 9223372036854775807) : (dd m).length ≤ 19 := by
  unfold dd
  split
  · simp
  · rw [Lib.decDigits_length]
    have := nDigits_le m 18
    have h3 : (10 : Nat) ^ (18 + 1) = 10000000000000000000 := by decide
    omega
theorem digs_get (r : Nat) (h : r < 10) (h2 : r < (⟨#[48, 49, 50, 51, 52, 53, 54, 55, 56, 57]⟩ : ByteArray).size) : (⟨#[48, 49, 50, 51, 52, 53, 54, 55, 56, 57]⟩ : ByteArray)[r]'h2 = UInt8.ofNat (48 + r) := by
  match r, h with
  | 0, _ => rfl
  | 1, _ => rfl
  | 2, _ => rfl
  | 3, _ => rfl
  | 4, _ => rfl
  | 5, _ => rfl
  | 6, _ => rfl
  | 7, _ => rfl
  | 8, _ => rfl
  | 9, _ => rfl
theorem S8_one (c : UInt8) : (⟨#[c]⟩ : ByteArray) = S8 [c] := rfl

set_option maxRecDepth 100000 in
theorem ref8_dec (n : Int) (hn : I64 n) (w : World) : Calls Tryz.prog 42 #[.int .i64 n] w fun e w' => e = .returned (.string (S8 (dd n.toNat))) ∧ Below w.heap.size w w' := by
  unfold I64 at hn
  have hdl := dd_len n.toNat (by omega)
  go_enter Tryz.func42, Tryz.ntmps42
  go_wp2_with fail
  go_loopw [0, 3] (fun vn vs wr => ∃ (i : Int) (t : List UInt8), vn = .int .i64 i ∧ vs = .string (S8 t) ∧ i ≤ max n 0 ∧ (0 ≤ i ∨ i = n) ∧ dd i.toNat ++ t = dd n.toNat ∧ Below w.heap.size w wr) (fun vn _ _ => (intOf vn).toNat)
  case atStart => exact ⟨n, [], rfl, rfl, by omega, .inr rfl, by simp, Below.refl _ _⟩
  case round =>
    obtain ⟨i, t, rfl, rfl, hin, hi0, hdt, hb⟩ := hrel
    have HD := Lib.hid hdt
    have hlt := congrArg List.length hdt
    rw [List.length_append] at hlt
    by_cases hp : 0 < i
    · obtain ⟨m, rfl⟩ : ∃ m : Nat, i = (m : Int) := ⟨i.toNat, by omega⟩
      have hst : (S8 t).size ≤ 19 := by rw [S8_size]; omega
      have hm1 : 1 ≤ m := by omega
      have HS := Lib.hid (dd_step m hm1)
      have hm9 : m % 10 < 10 := Nat.mod_lt _ (by omega)
      clear hdt hlt
      go_wp2_with fail
      refine ⟨⟨((m / 10 : Nat) : Int), UInt8.ofNat (48 + m % 10) :: t, by rw [Int.natCast_ediv]; rfl, ?_, by omega, by omega, ?_, ?_⟩, by show ((m : Int) / 10).toNat < ((m : Int)).toNat; omega⟩
      · rw [digs_get _ hm9, S8_one, S8_app]; rfl
      · have h1 := HD.out
        rw [Int.toNat_natCast, HS.out, List.append_assoc] at h1
        exact h1
      · exact hb.alloc hb.size _
    · have e : dd i.toNat = [] := by unfold dd; rw [if_pos (by omega)]
      rw [e, List.nil_append] at hdt
      subst hdt
      have HL := Lib.hid hdl
      clear hdl hlt HD e
      go_wp2_with fail
      go_ret
      exact ⟨rfl, hb⟩
theorem dd_dig {n : Int} (h : 1 ≤ n ∧ n ≤ 999999999999999999) : dd n.toNat = digS n := by unfold dd digS; rw [if_neg (by omega), if_pos h]

theorem ref8_Of (kind n : Int) (hn : I64 n) (w : World) : Calls Tryz.prog 15 #[.int .i64 kind, .int .i64 n] w fun e w' => e = .returned (.string (S8 (ofS kind n))) ∧ Below w.heap.size w w' := by
  have H1 := Lib.hid (ref8_dec n hn w)
  by_cases e3 : kind = 3
  · subst e3
    rw [show ofS 3 n = mainS by unfold ofS; rw [if_neg (by decide), if_neg (by decide), if_pos rfl]]
    go_enter Tryz.func15, Tryz.ntmps15
    go_wp2_with fail
    go_ret
    exact ⟨rfl, Below.refl _ _⟩
  by_cases e4 : kind = 4
  · subst e4
    rw [show ofS 4 n = freshS by unfold ofS; rw [if_neg (by decide), if_neg (by decide), if_neg (by decide), if_pos rfl]]
    go_enter Tryz.func15, Tryz.ntmps15
    go_wp2_with fail
    go_ret
    exact ⟨rfl, Below.refl _ _⟩
  by_cases hr : 1 ≤ n ∧ n ≤ 999999999999999999
  · have hd := dd_dig hr
    have hne := digS_ne.2 hr
    have hle := digS_len n
    have hs2 : (S8 (digS n)).size ≤ 18 := by rw [S8_size]; exact hle
    rw [hd] at H1
    obtain ⟨hr1, hr2⟩ := hr
    by_cases e1 : kind = 1
    · subst e1
      rw [show ofS 1 n = logS ++ digS n by unfold ofS withS; rw [if_pos rfl, if_neg hne], ← S8_app]
      clear hd hne hle
      generalize S8 (digS n) = t at H1 hs2 ⊢
      go_enter Tryz.func15, Tryz.ntmps15
      go_wp2_with (go_at_call 42; (with_reducible refine (H1.out).mono ?_); rintro e w1 ⟨rfl, b1⟩)
      go_ret
      exact ⟨rfl, b1⟩
    by_cases e2 : kind = 2
    · subst e2
      rw [show ofS 2 n = imgS ++ digS n by unfold ofS withS; rw [if_neg (by decide), if_pos rfl, if_neg hne], ← S8_app]
      clear hd hne hle e1
      generalize S8 (digS n) = t at H1 hs2 ⊢
      go_enter Tryz.func15, Tryz.ntmps15
      go_wp2_with (go_at_call 42; (with_reducible refine (H1.out).mono ?_); rintro e w1 ⟨rfl, b1⟩)
      go_ret
      exact ⟨rfl, b1⟩
    rw [show ofS kind n = [] by unfold ofS; rw [if_neg e1, if_neg e2, if_neg e3, if_neg e4], S8_nil]
    clear hd hne hle H1 hs2
    go_enter Tryz.func15, Tryz.ntmps15
    go_wp2_with fail
    go_ret
    exact ⟨rfl, Below.refl _ _⟩
  · have hd : digS n = [] := by unfold digS; rw [if_neg hr]
    rw [show ofS kind n = [] by unfold ofS withS; simp [hd, e3, e4], S8_nil]
    clear H1 hd
    by_cases h1 : n < 1
    · go_enter Tryz.func15, Tryz.ntmps15
      go_wp2_with fail
      go_ret
      exact ⟨rfl, Below.refl _ _⟩
    · have h2 : 999999999999999999 < n := by omega
      go_enter Tryz.func15, Tryz.ntmps15
      go_wp2_with fail
      go_ret
      exact ⟨rfl, Below.refl _ _⟩
/-- what the document's number gives -/
def rnum (l : List UInt8) : Nat := if okN l = true then val l else 0
theorem rnum_of {l : List UInt8} {n : Int} (hn : 1 ≤ n) (hl : l.length ≤ 18) (h : dd n.toNat = l) : (rnum l : Int) = n := by
  unfold dd at h
  rw [if_neg (by omega)] at h
  obtain ⟨h1, h2⟩ := okN_of_dec (show 1 ≤ n.toNat by omega) hl h
  unfold rnum
  rw [if_pos h1, h2]
  omega
theorem rnum_no {l : List UInt8} {n : Int} (hd : (∀ c ∈ l, isDig c = true) → n = val l) (h : n < 1 ∨ dd n.toNat ≠ l) : rnum l = 0 := by
  unfold rnum
  split
  · rename_i ho
    obtain ⟨v1, v2, v3⟩ := okN_val ho
    have := hd (okN_iff.1 ho).2.2.2
    rcases h with h | h
    · omega
    · exfalso
      apply h
      unfold dd
      rw [this, Int.toNat_natCast, if_neg (by omega), v3]
  · rfl
theorem wrap_I64 (x : Int) : I64 (RowKit.wrap64 x) := by unfold RowKit.wrap64 I64; omega
theorem wrap_id {x : Int} (h : I64 x) : RowKit.wrap64 x = x := by unfold I64 at h; unfold RowKit.wrap64; omega
theorem wrap_num (v c : Int) (hv : 0 ≤ v) (hv2 : v ≤ 100000000000000000) (hc : 48 ≤ c) (hc2 : c ≤ 57) : RowKit.wrap64 (RowKit.wrap64 (RowKit.wrap64 (v * 10) + RowKit.wrap64 c) - 48) = v * 10 + (c - 48) := by
  rw [wrap_id (x := v * 10) (by unfold I64; omega), wrap_id (x := c) (by unfold I64; omega), wrap_id (x := v * 10 + c) (by unfold I64; omega), wrap_id (by unfold I64; omega)]
  omega
theorem num_step {s : List UInt8} {k : Nat} (hs : s.length ≤ 18) (hk : k < s.length) {x : Int} (HX : (∀ c ∈ s.take k, isDig c = true) → x = val (s.take k)) (hd : ∀ c ∈ s.take (k + 1), isDig c = true) : RowKit.wrap64 (RowKit.wrap64 (RowKit.wrap64 (x * 10) + RowKit.wrap64 ((s[k]'hk).toNat : Int)) - 48) = val (s.take (k + 1)) := by
  have ht : s.take (k + 1) = s.take k ++ [s[k]] := List.take_succ_eq_append_getElem hk
  have hpre : ∀ c ∈ s.take k, isDig c = true := fun c hc => hd c (by rw [ht]; exact List.mem_append_left _ hc)
  have hg : isDig (s[k]'hk) = true := hd _ (by rw [ht]; exact List.mem_append_right _ (List.mem_singleton.2 rfl))
  have h2 : 48 ≤ (s[k]'hk).toNat ∧ (s[k]'hk).toNat ≤ 57 := by unfold isDig at hg; simpa using hg
  have h1 := val_lt _ hpre
  have h2' := Nat.pow_le_pow_right (show 0 < 10 by omega) (show (s.take k).length ≤ 17 by rw [List.length_take]; omega)
  have h3 : (10 : Nat) ^ 17 = 100000000000000000 := by decide
  rw [HX hpre, ht, val_snoc, wrap_num _ _ (by omega) (by omega) (by omega) (by omega)]
  omega

set_option maxRecDepth 100000 in
set_option maxHeartbeats 4000000 in
theorem ref8_number (s : List UInt8) (hs : s.length ≤ 1000000) (w : World) : Calls Tryz.prog 63 #[.string (S8 s)] w fun e w' => e = .returned (.int .i64 (rnum s : Nat)) ∧ Below w.heap.size w w' := by
  have hsz := S8_size s
  by_cases h18 : 18 < s.length
  · have e : rnum s = 0 := by unfold rnum; rw [if_neg (fun h => by have := (okN_iff.1 h).2.1; omega)]
    rw [e]
    have h2 : 18 < (S8 s).size := by omega
    have h3 : (S8 s).size ≤ 1000000 := by omega
    clear e h18 hsz hs
    generalize S8 s = t at h2 h3
    go_enter Tryz.func63, Tryz.ntmps63
    go_wp2_with fail
    refine wp_loop_rounds 1 ?_
    rw [rounds_succ]
    go_wp2
    go_ret
    exact ⟨rfl, Below.refl _ _⟩
  · have h2 : (S8 s).size ≤ 18 := by omega
    have HSZ := Lib.hid hsz
    have HDEC := Lib.hid (fun (n : Int) (hn : I64 n) => ref8_dec n hn w)
    clear hsz
    go_enter Tryz.func63, Tryz.ntmps63
    go_wp2_with fail
    go_loopw [3, 4] (fun vn vi wr => ∃ (k : Nat) (x : Int), k ≤ (S8 s).size ∧ vi = .int .i64 k ∧ vn = .int .i64 x ∧ I64 x ∧ Hid ((∀ c ∈ s.take k, isDig c = true) → x = val (s.take k)) ∧ wr = w) (fun _ vi _ => (S8 s).size - (intOf vi).toNat)
    case atStart => exact ⟨0, 0, by omega, rfl, rfl, by unfold I64; omega, Lib.hid (fun _ => rfl), rfl⟩
    case round =>
      obtain ⟨k, x, hk, rfl, rfl, hx, HX, rfl⟩ := hrel
      have hI := hx
      have hsz := HSZ.out
      unfold I64 at hx
      by_cases hlt : k < (S8 s).size
      · have hj : (k : Int) < ((S8 s).size : Int) := by omega
        go_wp2_with fail
        exact ⟨⟨k + 1, _, by omega, by go_num, rfl, wrap_I64 _, Lib.hid (fun hd => num_step (s := s) (by omega) (by omega) HX.out hd), trivial⟩, by show (S8 s).size - ((k : Int) + 1).toNat < (S8 s).size - ((k : Int)).toNat; omega⟩
      · have hj : ¬ (k : Int) < ((S8 s).size : Int) := by omega
        have HX2 : (∀ c ∈ s, isDig c = true) → x = val s := by
          have := HX.out
          rwa [List.take_of_length_le (by omega)] at this
        have HX3 := Lib.hid HX2
        have HD := Lib.hid (HDEC.out x hI)
        clear HX HX2 HDEC hI
        by_cases hx1 : x < 1
        · have e : rnum s = 0 := rnum_no HX3.out (.inl hx1)
          have HE := Lib.hid e
          clear e HX3 HD hsz
          go_wp2_with fail
          go_ret
          exact ⟨by rw [HE.out]; rfl, Below.refl _ _⟩
        · by_cases hdd : dd x.toNat = s
          · have e : (rnum s : Int) = x := rnum_of (by omega) (by omega) hdd
            have HE := Lib.hid e
            rw [hdd] at HD
            have hee : ((S8 s).toList == (S8 s).toList) = true := by simp
            clear e HX3 hdd hsz
            go_wp2_with (go_at_call 42; (with_reducible refine (HD.out).mono ?_); rintro e w1 ⟨rfl, b1⟩)
            go_ret
            exact ⟨by rw [HE.out]; rfl, b1⟩
          · have e : rnum s = 0 := rnum_no HX3.out (.inr hdd)
            have HE := Lib.hid e
            have hee : ((S8 (dd x.toNat)).toList == (S8 s).toList) = false := by rw [S8_eq]; exact decide_eq_false hdd
            clear e HX3 hdd hsz
            generalize S8 (dd x.toNat) = t at *
            go_wp2_with (go_at_call 42; (with_reducible refine (HD.out).mono ?_); rintro e w1 ⟨rfl, b1⟩)
            go_ret
            exact ⟨by rw [HE.out]; rfl, b1⟩
end Go.Proofs.YtcpmicinibfepaaGreatDoor

namespace Go.Proofs.YtcpmicinibfepaaGreatDoor
open Go.ChangeShapes Go.WideShapes Go.ChangeAt Go.RowKit Go.Deep NameP Go.Sort


theorem numS_rnum {first s : List UInt8} (hp : first.isPrefixOf s = true) : numS first s = if 0 < rnum (s.drop first.length) then some (rnum (s.drop first.length)) else none := by
  unfold numS rnum
  by_cases ho : okN (s.drop first.length) = true
  · have := okN_val ho
    rw [if_pos ⟨hp, ho⟩, if_pos ho, if_pos (by omega)]
  · rw [if_neg (fun h => ho h.2), if_neg ho, if_neg (by omega)]
theorem numS_rnum_no {first s : List UInt8} (hp : ¬ first.isPrefixOf s = true) : numS first s = none := by
  unfold numS
  rw [if_neg (fun h => hp h.1)]
theorem S8_ext (s : List UInt8) (n : Nat) : (S8 s).extract n (S8 s).size = S8 (s.drop n) := by
  apply ByteArray.ext
  apply Array.ext'
  rw [ByteArray.data_extract, Array.toList_extract, S8_toList, S8_toList, S8_size, List.extract_eq_take_drop]
  rw [List.take_of_length_le (by rw [List.length_drop]; omega)]
theorem S8_pre (s p : List UInt8) : (((S8 s).extract 0 p.length).toList == p) = p.isPrefixOf s := by
  rw [Lib.toList_data, ByteArray.data_extract, Array.toList_extract, S8_toList, List.extract_eq_take_drop, Bool.eq_iff_iff, List.isPrefixOf_iff_prefix, List.prefix_iff_eq_take]
  simp
  exact ⟨fun h => h.symm, fun h => h.symm⟩
theorem rnum_nil : rnum [] = 0 := rfl

set_option maxRecDepth 100000 in
theorem ref8_Kind (s : List UInt8) (hs : s.length ≤ 1000000) (w : World) : Calls Tryz.prog 40 #[.string (S8 s)] w fun e w' => e = .returned (.tuple #[.int .i64 (kindS s).1, .int .i64 (kindS s).2]) ∧ Below w.heap.size w w' := by
  have H1' : ∀ (l : List UInt8), l.length ≤ 1000000 → ∀ W : World, Calls Tryz.prog 63 #[.string (S8 l)] W fun e w' => e = .returned (.int .i64 (rnum l : Nat)) ∧ Below W.heap.size W w' := fun l hl W => ref8_number l hl W
  have H1 := Lib.hid H1'
  clear H1'
  by_cases h1 : s = mainS
  · subst h1
    rw [show kindS mainS = (3, 0) by decide +kernel]
    have e1 : ((S8 mainS).toList == [109, 97, 105, 110]) = true := by rw [S8_eqL]; decide
    go_enter Tryz.func40, Tryz.ntmps40
    go_wp2_with fail
    go_ret2
    exact ⟨rfl, Below.refl _ _⟩
  have e1 : ((S8 s).toList == [109, 97, 105, 110]) = false := by rw [S8_eqL]; exact decide_eq_false h1
  by_cases h2 : s = freshS
  · subst h2
    rw [show kindS freshS = (4, 0) by decide +kernel]
    have e2 : ((S8 freshS).toList == [109, 97, 105, 110, 46, 110, 101, 119]) = true := by rw [S8_eqL]; decide
    go_enter Tryz.func40, Tryz.ntmps40
    go_wp2_with fail
    go_ret2
    exact ⟨rfl, Below.refl _ _⟩
  have e2 : ((S8 s).toList == [109, 97, 105, 110, 46, 110, 101, 119]) = false := by rw [S8_eqL]; exact decide_eq_false h2
  have hk : kindS s = match numS logS s with
    | some n => (1, (n : Int))
    | none => match numS imgS s with
      | some n => (2, (n : Int))
      | none => (0, 0) := by unfold kindS; rw [if_neg h1, if_neg h2]; rfl
  have hsz := S8_size s
  have hb : (S8 s).size ≤ 1000000 := by omega
  have H4' : ∀ W : World, Calls Tryz.prog 63 #[.string ((S8 s).extract 4 (S8 s).size)] W fun e w' => e = .returned (.int .i64 (rnum (s.drop 4) : Nat)) ∧ Below W.heap.size W w' := fun W => by
    rw [S8_ext]; exact ref8_number _ (by rw [List.length_drop]; omega) W
  have H4 := Lib.hid H4'
  clear H4'
  have H6' : ∀ W : World, Calls Tryz.prog 63 #[.string ((S8 s).extract 6 (S8 s).size)] W fun e w' => e = .returned (.int .i64 (rnum (s.drop 6) : Nat)) ∧ Below W.heap.size W w' := fun W => by
    rw [S8_ext]; exact ref8_number _ (by rw [List.length_drop]; omega) W
  have H6 := Lib.hid H6'
  clear H6' H1
  have p4 : (((S8 s).extract 0 4).toList == [108, 111, 103, 46]) = logS.isPrefixOf s := S8_pre s logS
  have p6 : (((S8 s).extract 0 6).toList == [105, 109, 97, 103, 101, 46]) = imgS.isPrefixOf s := S8_pre s imgS
  have z4 : 0 < rnum (s.drop 4) → 4 < (S8 s).size := fun h => by
    rw [hsz]
    apply Decidable.byContradiction
    intro h'
    rw [List.drop_eq_nil_of_le (by omega)] at h
    exact absurd h (by rw [rnum_nil]; omega)
  have z6 : 0 < rnum (s.drop 6) → 6 < (S8 s).size := fun h => by
    rw [hsz]
    apply Decidable.byContradiction
    intro h'
    rw [List.drop_eq_nil_of_le (by omega)] at h
    exact absurd h (by rw [rnum_nil]; omega)
  clear h1 h2 hs hsz
  by_cases q4 : logS.isPrefixOf s = true
  · have q6 : imgS.isPrefixOf s = false := by
      obtain ⟨t, rfl⟩ := List.isPrefixOf_iff_prefix.1 q4
      simp [logS, imgS, List.isPrefixOf]
    rw [q6] at p6
    rw [q4] at p4
    rw [numS_rnum q4, numS_rnum_no (by rw [q6]; decide)] at hk
    have e4 : logS.length = 4 := rfl
    rw [e4] at hk
    generalize hn : rnum (s.drop 4) = n at H4 hk z4
    by_cases h0 : 0 < n
    · rw [if_pos h0] at hk
      rw [hk]
      have hz := z4 h0
      clear hk z4 z6 hn q4 q6 H6 p6
      go_enter Tryz.func40, Tryz.ntmps40
      go_wp2_with (first | (go_at_call 63; (with_reducible refine (H4.out w).mono ?_); rintro e w1 ⟨rfl, b1⟩) | (go_at_call 63; (with_reducible refine (H4.out _).mono ?_); rintro e w2 ⟨rfl, b2⟩))
      go_ret2
      exact ⟨rfl, below_step b2 b1⟩
    · obtain rfl : n = 0 := by omega
      rw [if_neg h0] at hk
      rw [hk]
      clear hk z4 z6 hn q4 q6 H6 h0
      by_cases hz : 4 < (S8 s).size
      · by_cases hy : 6 < (S8 s).size
        · go_enter Tryz.func40, Tryz.ntmps40
          go_wp2_with (go_at_call 63; (with_reducible refine (H4.out _).mono ?_); rintro e w1 ⟨rfl, b1⟩)
          go_ret2
          exact ⟨rfl, b1⟩
        · go_enter Tryz.func40, Tryz.ntmps40
          go_wp2_with (go_at_call 63; (with_reducible refine (H4.out _).mono ?_); rintro e w1 ⟨rfl, b1⟩)
          go_ret2
          exact ⟨rfl, b1⟩
      · have hy : ¬ 6 < (S8 s).size := by omega
        go_enter Tryz.func40, Tryz.ntmps40
        go_wp2_with fail
        go_ret2
        exact ⟨rfl, Below.refl _ _⟩
  · rw [Bool.not_eq_true] at q4
    rw [q4] at p4
    rw [numS_rnum_no (by rw [q4]; decide)] at hk
    simp only at hk
    by_cases q6 : imgS.isPrefixOf s = true
    · rw [q6] at p6
      rw [numS_rnum q6] at hk
      have e6 : imgS.length = 6 := rfl
      rw [e6] at hk
      generalize hn : rnum (s.drop 6) = n at H6 hk z6
      by_cases h0 : 0 < n
      · rw [if_pos h0] at hk
        rw [hk]
        have hz := z6 h0
        have hy : 4 < (S8 s).size := by omega
        clear hk z4 z6 hn q4 q6 H4
        go_enter Tryz.func40, Tryz.ntmps40
        go_wp2_with (first | (go_at_call 63; (with_reducible refine (H6.out w).mono ?_); rintro e w1 ⟨rfl, b1⟩) | (go_at_call 63; (with_reducible refine (H6.out _).mono ?_); rintro e w2 ⟨rfl, b2⟩))
        go_ret2
        exact ⟨rfl, below_step b2 b1⟩
      · obtain rfl : n = 0 := by omega
        rw [if_neg h0] at hk
        rw [hk]
        clear hk z4 z6 hn q4 q6 H4 h0
        by_cases hy : 6 < (S8 s).size
        · have hz : 4 < (S8 s).size := by omega
          go_enter Tryz.func40, Tryz.ntmps40
          go_wp2_with (go_at_call 63; (with_reducible refine (H6.out _).mono ?_); rintro e w1 ⟨rfl, b1⟩)
          go_ret2
          exact ⟨rfl, b1⟩
        · by_cases hz : 4 < (S8 s).size
          · go_enter Tryz.func40, Tryz.ntmps40
            go_wp2_with fail
            go_ret2
            exact ⟨rfl, Below.refl _ _⟩
          · go_enter Tryz.func40, Tryz.ntmps40
            go_wp2_with fail
            go_ret2
            exact ⟨rfl, Below.refl _ _⟩
    · rw [Bool.not_eq_true] at q6
      rw [q6] at p6
      rw [numS_rnum_no (by rw [q6]; decide)] at hk
      rw [hk]
      clear hk z4 z6 q4 q6 H4 H6
      by_cases hy : 6 < (S8 s).size
      · have hz : 4 < (S8 s).size := by omega
        go_enter Tryz.func40, Tryz.ntmps40
        go_wp2_with fail
        go_ret2
        exact ⟨rfl, Below.refl _ _⟩
      · by_cases hz : 4 < (S8 s).size
        · go_enter Tryz.func40, Tryz.ntmps40
          go_wp2_with fail
          go_ret2
          exact ⟨rfl, Below.refl _ _⟩
        · go_enter Tryz.func40, Tryz.ntmps40
          go_wp2_with fail
          go_ret2
          exact ⟨rfl, Below.refl _ _⟩
end Go.Proofs.YtcpmicinibfepaaGreatDoor
