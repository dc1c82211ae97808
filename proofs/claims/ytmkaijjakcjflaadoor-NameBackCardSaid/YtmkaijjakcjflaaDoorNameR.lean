/- The document's names (layer 8): dec, Of, number, Kind. -/
import Derived.Test.YtmkaijjakcjflaaDoorNameC
namespace Go.Proofs.YtmkaijjakcjflaaDoor
open Go.ChangeShapes Go.WideShapes Go.ChangeAt Go.RowKit Go.Deep NameP Go.Sort

def dd (m : Nat) : List UInt8 := if m = 0 then [] else Lib.decDigits m
theorem dd_step (m : Nat) (h : 1 ≤ m) : dd m = dd (m / 10) ++ [UInt8.ofNat (48 + m % 10)] := by
  unfold dd
  rw [if_neg (by omega)]
  by_cases h9 : m < 10
  · rw [if_pos (by omega), Lib.decDigits_one h9, Nat.mod_eq_of_lt h9]; rfl
  · rw [if_neg (by omega)]
    conv => lhs; rw [Lib.decDigits]
    rw [dif_neg h9]
theorem dd_len (m : Nat) (h : m ≤ 9223372036854775807) : (dd m).length ≤ 19 := by
  unfold dd
  split
  · simp
  · rw [Lib.decDigits_length]
    have := nDigits_le m 18
    have h3 : (10 : Nat) ^ (18 + 1) = 10000000000000000000 := by decide
    omega
theorem digs_get (r : Nat) (h : r < 10) (h2 : r < (⟨#[48, 49, 50, 51, 52, 53, 54, 55, 56, 57]⟩ : ByteArray).size) : (⟨#[48, 49, 50, 51, 52, 53, 54, 55, 56, 57]⟩ : ByteArray)[r]'h2 = UInt8.ofNat (48 + r) := by
  match r, h with
  | 0, _ => rfl
  | 1, _ => rfl
  | 2, _ => rfl
  | 3, _ => rfl
  | 4, _ => rfl
  | 5, _ => rfl
  | 6, _ => rfl
  | 7, _ => rfl
  | 8, _ => rfl
  | 9, _ => rfl
theorem S8_one (c : UInt8) : (⟨#[c]⟩ : ByteArray) = S8 [c] := rfl

set_option maxRecDepth 100000 in
theorem ref8_dec (n : Int) (hn : I64 n) (w : World) : Calls Tryd.prog 17 #[.int .i64 n] w fun e w' => e = .returned (.string (S8 (dd n.toNat))) ∧ Below w.heap.size w w' := by
  unfold I64 at hn
  have hdl := dd_len n.toNat (by omega)
  go_enter Tryd.func17, Tryd.ntmps17
  go_wp2_with fail
  go_loopw [0, 3] (fun vn vs wr => ∃ (i : Int) (t : List UInt8), vn = .int .i64 i ∧ vs = .string (S8 t) ∧ i ≤ max n 0 ∧ (0 ≤ i ∨ i = n) ∧ dd i.toNat ++ t = dd n.toNat ∧ Below w.heap.size w wr) (fun vn _ _ => (intOf vn).toNat)
  case atStart => exact ⟨n, [], rfl, rfl, by omega, .inr rfl, by simp, Below.refl _ _⟩
  case round =>
    obtain ⟨i, t, rfl, rfl, hin, hi0, hdt, hb⟩ := hrel
    have HD := Lib.hid hdt
    have hlt := congrArg List.length hdt
    rw [List.length_append] at hlt
    by_cases hp : 0 < i
    · obtain ⟨m, rfl⟩ : ∃ m : Nat, i = (m : Int) := ⟨i.toNat, by omega⟩
      have hst : (S8 t).size ≤ 19 := by rw [S8_size]; omega
      have hm1 : 1 ≤ m := by omega
      have HS := Lib.hid (dd_step m hm1)
      have hm9 : m % 10 < 10 := Nat.mod_lt _ (by omega)
      clear hdt hlt
      go_wp2_with fail
      refine ⟨⟨((m / 10 : Nat) : Int), UInt8.ofNat (48 + m % 10) :: t, by rw [Int.natCast_ediv]; rfl, ?_, by omega, by omega, ?_, ?_⟩, by show ((m : Int) / 10).toNat < ((m : Int)).toNat; omega⟩
      · rw [digs_get _ hm9, S8_one, S8_app]; rfl
      · have h1 := HD.out
        rw [Int.toNat_natCast, HS.out, List.append_assoc] at h1
        exact h1
      · exact hb.alloc hb.size _
    · have e : dd i.toNat = [] := by unfold dd; rw [if_pos (by omega)]
      rw [e, List.nil_append] at hdt
      subst hdt
      have HL := Lib.hid hdl
      clear hdl hlt HD e
      go_wp2_with fail
      go_ret
      exact ⟨rfl, hb⟩
theorem dd_dig {n : Int} (h : 1 ≤ n ∧ n ≤ 999999999999999999) : dd n.toNat = digS n := by unfold dd digS; rw [if_neg (by omega), if_pos h]

theorem ref8_Of (kind n : Int) (hn : I64 n) (w : World) : Calls Tryd.prog 10 #[.int .i64 kind, .int .i64 n] w fun e w' => e = .returned (.string (S8 (ofS kind n))) ∧ Below w.heap.size w w' := by
  have H1 := Lib.hid (ref8_dec n hn w)
  by_cases e3 : kind = 3
  · subst e3
    rw [show ofS 3 n = mainS by unfold ofS; rw [if_neg (by decide), if_neg (by decide), if_pos rfl]]
    go_enter Tryd.func10, Tryd.ntmps10
    go_wp2_with fail
    go_ret
    exact ⟨rfl, Below.refl _ _⟩
  by_cases e4 : kind = 4
  · subst e4
    rw [show ofS 4 n = freshS by unfold ofS; rw [if_neg (by decide), if_neg (by decide), if_neg (by decide), if_pos rfl]]
    go_enter Tryd.func10, Tryd.ntmps10
    go_wp2_with fail
    go_ret
    exact ⟨rfl, Below.refl _ _⟩
  by_cases hr : 1 ≤ n ∧ n ≤ 999999999999999999
  · have hd := dd_dig hr
    have hne := digS_ne.2 hr
    have hle := digS_len n
    have hs2 : (S8 (digS n)).size ≤ 18 := by rw [S8_size]; exact hle
    rw [hd] at H1
    obtain ⟨hr1, hr2⟩ := hr
    by_cases e1 : kind = 1
    · subst e1
      rw [show ofS 1 n = logS ++ digS n by unfold ofS withS; rw [if_pos rfl, if_neg hne], ← S8_app]
      clear hd hne hle
      generalize S8 (digS n) = t at H1 hs2 ⊢
      go_enter Tryd.func10, Tryd.ntmps10
      go_wp2_with (go_at_call 17; (with_reducible refine (H1.out).mono ?_); rintro e w1 ⟨rfl, b1⟩)
      go_ret
      exact ⟨rfl, b1⟩
    by_cases e2 : kind = 2
    · subst e2
      rw [show ofS 2 n = imgS ++ digS n by unfold ofS withS; rw [if_neg (by decide), if_pos rfl, if_neg hne], ← S8_app]
      clear hd hne hle e1
      generalize S8 (digS n) = t at H1 hs2 ⊢
      go_enter Tryd.func10, Tryd.ntmps10
      go_wp2_with (go_at_call 17; (with_reducible refine (H1.out).mono ?_); rintro e w1 ⟨rfl, b1⟩)
      go_ret
      exact ⟨rfl, b1⟩
    rw [show ofS kind n = [] by unfold ofS; rw [if_neg e1, if_neg e2, if_neg e3, if_neg e4], S8_nil]
    clear hd hne hle H1 hs2
    go_enter Tryd.func10, Tryd.ntmps10
    go_wp2_with fail
    go_ret
    exact ⟨rfl, Below.refl _ _⟩
  · have hd : digS n = [] := by unfold digS; rw [if_neg hr]
    rw [show ofS kind n = [] by unfold ofS withS; simp [hd, e3, e4], S8_nil]
    clear H1 hd
    by_cases h1 : n < 1
    · go_enter Tryd.func10, Tryd.ntmps10
      go_wp2_with fail
      go_ret
      exact ⟨rfl, Below.refl _ _⟩
    · have h2 : 999999999999999999 < n := by omega
      go_enter Tryd.func10, Tryd.ntmps10
      go_wp2_with fail
      go_ret
      exact ⟨rfl, Below.refl _ _⟩
/-- what the document's number gives -/
def rnum (l : List UInt8) : Nat := if okN l = true then val l else 0
theorem rnum_of {l : List UInt8} {n : Int} (hn : 1 ≤ n) (hl : l.length ≤ 18) (h : dd n.toNat = l) : (rnum l : Int) = n := by
  unfold dd at h
  rw [if_neg (by omega)] at h
  obtain ⟨h1, h2⟩ := okN_of_dec (show 1 ≤ n.toNat by omega) hl h
  unfold rnum
  rw [if_pos h1, h2]
  omega
theorem rnum_no {l : List UInt8} {n : Int} (hd : (∀ c ∈ l, isDig c = true) → n = val l) (h : n < 1 ∨ dd n.toNat ≠ l) : rnum l = 0 := by
  unfold rnum
  split
  · rename_i ho
    obtain ⟨v1, v2, v3⟩ := okN_val ho
    have := hd (okN_iff.1 ho).2.2.2
    rcases h with h | h
    · omega
    · exfalso
      apply h
      unfold dd
      rw [this, Int.toNat_natCast, if_neg (by omega), v3]
  · rfl
theorem wrap_I64 (x : Int) : I64 (RowKit.wrap64 x) := by unfold RowKit.wrap64 I64; omega
theorem wrap_id {x : Int} (h : I64 x) : RowKit.wrap64 x = x := by unfold I64 at h; unfold RowKit.wrap64; omega
theorem wrap_num (v c : Int) (hv : 0 ≤ v) (hv2 : v ≤ 100000000000000000) (hc : 48 ≤ c) (hc2 : c ≤ 57) : RowKit.wrap64 (RowKit.wrap64 (RowKit.wrap64 (v * 10) + RowKit.wrap64 c) - 48) = v * 10 + (c - 48) := by
  rw [wrap_id (x := v * 10) (by unfold I64; omega), wrap_id (x := c) (by unfold I64; omega), wrap_id (x := v * 10 + c) (by unfold I64; omega), wrap_id (by unfold I64; omega)]
  omega
theorem num_step {s : List UInt8} {k : Nat} (hs : s.length ≤ 18) (hk : k < s.length) {x : Int} (HX : (∀ c ∈ s.take k, isDig c = true) → x = val (s.take k)) (hd : ∀ c ∈ s.take (k + 1), isDig c = true) : RowKit.wrap64 (RowKit.wrap64 (RowKit.wrap64 (x * 10) + RowKit.wrap64 ((s[k]'hk).toNat : Int)) - 48) = val (s.take (k + 1)) := by
  have ht : s.take (k + 1) = s.take k ++ [s[k]] := List.take_succ_eq_append_getElem hk
  have hpre : ∀ c ∈ s.take k, isDig c = true := fun c hc => hd c (by rw [ht]; exact List.mem_append_left _ hc)
  have hg : isDig (s[k]'hk) = true := hd _ (by rw [ht]; exact List.mem_append_right _ (List.mem_singleton.2 rfl))
  have h2 : 48 ≤ (s[k]'hk).toNat ∧ (s[k]'hk).toNat ≤ 57 := by unfold isDig at hg; simpa using hg
  have h1 := val_lt _ hpre
  have h2' := Nat.pow_le_pow_right (show 0 < 10 by omega) (show (s.take k).length ≤ 17 by rw [List.length_take]; omega)
  have h3 : (10 : Nat) ^ 17 = 100000000000000000 := by decide
  rw [HX hpre, ht, val_snoc, wrap_num _ _ (by omega) (by omega) (by omega) (by omega)]
  omega

set_option maxRecDepth 100000 in
set_option maxHeartbeats 4000000 in
theorem ref8_number (s : List UInt8) (hs : s.length ≤ 1000000) (w : World) : Calls Tryd.prog 15 #[.string (S8 s)] w fun e w' => e = .returned (.int .i64 (rnum s : Nat)) ∧ Below w.heap.size w w' := by
  have hsz := S8_size s
  by_cases h18 : 18 < s.length
  · have e : rnum s = 0 := by unfold rnum; rw [if_neg (fun h => by have := (okN_iff.1 h).2.1; omega)]
    rw [e]
    have h2 : 18 < (S8 s).size := by omega
    have h3 : (S8 s).size ≤ 1000000 := by omega
    clear e h18 hsz hs
    generalize S8 s = t at h2 h3
    go_enter Tryd.func15, Tryd.ntmps15
    go_wp2_with fail
    refine wp_loop_rounds 1 ?_
    rw [rounds_succ]
    go_wp2
    go_ret
    exact ⟨rfl, Below.refl _ _⟩
  · have h2 : (S8 s).size ≤ 18 := by omega
    have HSZ := Lib.hid hsz
    have HDEC := Lib.hid (fun (n : Int) (hn : I64 n) => ref8_dec n hn w)
    clear hsz
    go_enter Tryd.func15, Tryd.ntmps15
    go_wp2_with fail
    go_loopw [3, 4] (fun vn vi wr => ∃ (k : Nat) (x : Int), k ≤ (S8 s).size ∧ vi = .int .i64 k ∧ vn = .int .i64 x ∧ I64 x ∧ Hid ((∀ c ∈ s.take k, isDig c = true) → x = val (s.take k)) ∧ wr = w) (fun _ vi _ => (S8 s).size - (intOf vi).toNat)
    case atStart => exact ⟨0, 0, by omega, rfl, rfl, by unfold I64; omega, Lib.hid (fun _ => rfl), rfl⟩
    case round =>
      obtain ⟨k, x, hk, rfl, rfl, hx, HX, rfl⟩ := hrel
      have hI := hx
      have hsz := HSZ.out
      unfold I64 at hx
      by_cases hlt : k < (S8 s).size
      · have hj : (k : Int) < ((S8 s).size : Int) := by omega
        go_wp2_with fail
        exact ⟨⟨k + 1, _, by omega, by go_num, rfl, wrap_I64 _, Lib.hid (fun hd => num_step (s := s) (by omega) (by omega) HX.out hd), trivial⟩, by show (S8 s).size - ((k : Int) + 1).toNat < (S8 s).size - ((k : Int)).toNat; omega⟩
      · have hj : ¬ (k : Int) < ((S8 s).size : Int) := by omega
        have HX2 : (∀ c ∈ s, isDig c = true) → x = val s := by
          have := HX.out
          rwa [List.take_of_length_le (by omega)] at this
        have HX3 := Lib.hid HX2
        have HD := Lib.hid (HDEC.out x hI)
        clear HX HX2 HDEC hI
        by_cases hx1 : x < 1
        · have e : rnum s = 0 := rnum_no HX3.out (.inl hx1)
          have HE := Lib.hid e
          clear e HX3 HD hsz
          go_wp2_with fail
          go_ret
          exact ⟨by rw [HE.out]; rfl, Below.refl _ _⟩
        · by_cases hdd : dd x.toNat = s
          · have e : (rnum s : Int) = x := rnum_of (by omega) (by omega) hdd
            have HE := Lib.hid e
            rw [hdd] at HD
            have hee : ((S8 s).toList == (S8 s).toList) = true := by simp
            clear e HX3 hdd hsz
            go_wp2_with (go_at_call 17; (with_reducible refine (HD.out).mono ?_); rintro e w1 ⟨rfl, b1⟩)
            go_ret
            exact ⟨by rw [HE.out]; rfl, b1⟩
          · have e : rnum s = 0 := rnum_no HX3.out (.inr hdd)
            have HE := Lib.hid e
            have hee : ((S8 (dd x.toNat)).toList == (S8 s).toList) = false := by rw [S8_eq]; exact decide_eq_false hdd
            clear e HX3 hdd hsz
            generalize S8 (dd x.toNat) = t at *
            go_wp2_with (go_at_call 17; (with_reducible refine (HD.out).mono ?_); rintro e w1 ⟨rfl, b1⟩)
            go_ret
            exact ⟨by rw [HE.out]; rfl, b1⟩
end Go.Proofs.YtmkaijjakcjflaaDoor
