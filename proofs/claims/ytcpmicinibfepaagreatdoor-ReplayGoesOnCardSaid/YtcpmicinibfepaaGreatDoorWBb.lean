/- Walks of layer 8 (name): digits, with, Of · Walks of layer 8 (name): number, Kind. -/
import Derived.Test.YtcpmicinibfepaaGreatDoorWAz
import Derived.Test.YtcpmicinibfepaaGreatDoorWAb
import Derived.Test.YtcpmicinibfepaaGreatDoorWBa
import Derived.Test.YtcpmicinibfepaaGreatDoorWAi
import Derived.Test.YtcpmicinibfepaaGreatDoorWAd
import Derived.Lib.SmallJoins
namespace Go.Proofs.YtcpmicinibfepaaGreatDoor
open Go.ChangeShapes Go.WideShapes Go.ChangeAt Go.RowKit Go.Deep NameP Go.Sort


/-- the library's table of powers of ten reads as it was laid -/
def TabW (w : World) : Prop := Lib.TabIs Tryz.prog w "internal/strconv.uint64pow10" .u64 Lib.pow10Tab
theorem TabW.below {w w' : World} (h : TabW w) (hb : Below w.heap.size w w') : TabW w' :=
  Go.Joins.tab_stays (g := (Tryz.prog.globalNamed "internal/strconv.uint64pow10").getD 0) (by kernel_rfl) h hb (Nat.le_refl _)
theorem grow_below (w : World) (k : Nat) (os : Array Obj) : Below w.heap.size w (grow (w.drewN k) os) := by
  refine ⟨rfl, rfl, rfl, ?_, fun j hj => ?_⟩
  · simp [grow]
  · simp [grow, Array.getElem?_append, hj]
/-- bytes as a text -/
def S8 (l : List UInt8) : ByteArray := ⟨l.toArray⟩
theorem S8_size (l : List UInt8) : (S8 l).size = l.length := by show l.toArray.size = _; simp
theorem S8_nil : S8 [] = ⟨#[]⟩ := rfl
theorem S8_toList (l : List UInt8) : (S8 l).data.toList = l := by unfold S8; simp
theorem S8_back (s : ByteArray) : S8 s.data.toList = s := by unfold S8; cases s; simp
theorem S8_app (a b : List UInt8) : S8 a ++ S8 b = S8 (a ++ b) := ba_append a b
theorem S8_emp (l : List UInt8) : (S8 l).toList.isEmpty = l.isEmpty := by rw [Lib.toList_data, S8_toList]
theorem Itoa_any (n : Int) (hn : I64 n) (w : World) (ht : TabW w) : Calls Tryz.prog 107 #[.int .i64 n] w fun e w' => e = .returned (.string (S8 (Lib.itoa n))) ∧ Below w.heap.size w w' := by
  unfold I64 at hn
  refine (Tryz.strconv_Itoa n hn.1 hn.2 w ht).mono ?_
  rintro e w' ⟨rfl, k, os, rfl⟩
  exact ⟨rfl, grow_below w k os⟩

theorem name_digits (n : Int) (hn : I64 n) (w : World) (ht : TabW w) : Calls Tryz.prog 89 #[.int .i64 n] w fun e w' => e = .returned (.string (S8 (digS n))) ∧ Below w.heap.size w w' := by
  have HT := Lib.hid (Itoa_any n hn w ht)
  unfold I64 at hn
  by_cases h1 : n < 1
  · have e : digS n = [] := by unfold digS; rw [if_neg (by omega)]
    rw [e, S8_nil]
    clear e
    generalize S8 (Lib.itoa n) = t at HT
    go_enter Tryz.func89, Tryz.ntmps89
    go_wp2_with (go_at_call 107; (with_reducible refine (HT.out).mono ?_); rintro e w1 ⟨rfl, b1⟩)
    go_ret
    exact ⟨rfl, b1⟩
  · have e0 : Lib.itoa n = Lib.decDigits n.toNat := by unfold Lib.itoa; rw [if_neg (by omega)]
    have hl := dec_len n.toNat
    by_cases h2 : n ≤ 999999999999999999
    · have e : digS n = Lib.decDigits n.toNat := by unfold digS; rw [if_pos ⟨by omega, h2⟩]
      rw [e0] at HT
      rw [e]
      have hle := hl.2 (by omega)
      have hsz : (S8 (Lib.decDigits n.toNat)).size ≤ 18 := by rw [S8_size]; exact hle
      clear e e0 hl hle
      generalize S8 (Lib.decDigits n.toNat) = t at HT hsz ⊢
      go_enter Tryz.func89, Tryz.ntmps89
      go_wp2_with (go_at_call 107; (with_reducible refine (HT.out).mono ?_); rintro e w1 ⟨rfl, b1⟩)
      go_ret
      exact ⟨rfl, b1⟩
    · have e : digS n = [] := by unfold digS; rw [if_neg (fun h => h2 h.2)]
      rw [e, S8_nil]
      rw [e0] at HT
      have hle : ¬ (Lib.decDigits n.toNat).length ≤ 18 := fun h => by have := hl.1 h; omega
      have hsz : ¬ (S8 (Lib.decDigits n.toNat)).size ≤ 18 := by rw [S8_size]; exact hle
      clear e e0 hl hle
      generalize S8 (Lib.decDigits n.toNat) = t at HT hsz
      go_enter Tryz.func89, Tryz.ntmps89
      go_wp2_with (go_at_call 107; (with_reducible refine (HT.out).mono ?_); rintro e w1 ⟨rfl, b1⟩)
      go_ret
      exact ⟨rfl, b1⟩
theorem name_with (first : List UInt8) (hf : first.length ≤ 100) (n : Int) (hn : I64 n) (w : World) (ht : TabW w) : Calls Tryz.prog 71 #[.string (S8 first), .int .i64 n] w fun e w' => e = .returned (.string (S8 (withS first n))) ∧ Below w.heap.size w w' := by
  have HT := Lib.hid (name_digits n hn w ht)
  have hdl := digS_len n
  by_cases hd : digS n = []
  · have e : withS first n = [] := by unfold withS; rw [if_pos hd]
    rw [e, S8_nil]
    rw [hd, S8_nil] at HT
    clear e hd hdl
    go_enter Tryz.func71, Tryz.ntmps71
    go_wp2_with (go_at_call 89; (with_reducible refine (HT.out).mono ?_); rintro e w1 ⟨rfl, b1⟩)
    go_ret
    exact ⟨rfl, b1⟩
  · have e : withS first n = first ++ digS n := by unfold withS; rw [if_neg hd]
    rw [e, ← S8_app]
    have he : (S8 (digS n)).toList.isEmpty = false := by rw [S8_emp]; simpa using hd
    have hs1 : (S8 first).size ≤ 100 := by rw [S8_size]; exact hf
    have hs2 : (S8 (digS n)).size ≤ 18 := by rw [S8_size]; exact hdl
    clear e hd hdl hf
    generalize S8 (digS n) = t at HT he hs2 ⊢
    generalize S8 first = f at hs1 ⊢
    go_enter Tryz.func71, Tryz.ntmps71
    go_wp2_with (go_at_call 89; (with_reducible refine (HT.out).mono ?_); rintro e w1 ⟨rfl, b1⟩)
    go_ret
    exact ⟨rfl, b1⟩
theorem name_Of (kind n : Int) (hn : I64 n) (w : World) (ht : TabW w) : Calls Tryz.prog 45 #[.int .i64 kind, .int .i64 n] w fun e w' => e = .returned (.string (S8 (ofS kind n))) ∧ Below w.heap.size w w' := by
  have H1 := Lib.hid (name_with logS (by decide) n hn w ht)
  have H2 := Lib.hid (name_with imgS (by decide) n hn w ht)
  by_cases e1 : kind = 1
  · subst e1
    rw [show ofS 1 n = withS logS n by unfold ofS; rw [if_pos rfl]]
    go_enter Tryz.func45, Tryz.ntmps45
    go_wp2_with (go_at_call 71; refine (H1.out).mono ?_; rintro e w1 ⟨rfl, b1⟩)
    go_ret
    exact ⟨rfl, b1⟩
  by_cases e2 : kind = 2
  · subst e2
    rw [show ofS 2 n = withS imgS n by unfold ofS; rw [if_neg (by decide), if_pos rfl]]
    go_enter Tryz.func45, Tryz.ntmps45
    go_wp2_with (go_at_call 71; refine (H2.out).mono ?_; rintro e w1 ⟨rfl, b1⟩)
    go_ret
    exact ⟨rfl, b1⟩
  by_cases e3 : kind = 3
  · subst e3
    rw [show ofS 3 n = mainS by unfold ofS; rw [if_neg (by decide), if_neg (by decide), if_pos rfl]]
    go_enter Tryz.func45, Tryz.ntmps45
    go_wp2_with fail
    go_ret
    exact ⟨rfl, Below.refl _ _⟩
  by_cases e4 : kind = 4
  · subst e4
    rw [show ofS 4 n = freshS by unfold ofS; rw [if_neg (by decide), if_neg (by decide), if_neg (by decide), if_pos rfl]]
    go_enter Tryz.func45, Tryz.ntmps45
    go_wp2_with fail
    go_ret
    exact ⟨rfl, Below.refl _ _⟩
  rw [show ofS kind n = [] by unfold ofS; rw [if_neg e1, if_neg e2, if_neg e3, if_neg e4], S8_nil]
  go_enter Tryz.func45, Tryz.ntmps45
  go_wp2_with fail
  go_ret
  exact ⟨rfl, Below.refl _ _⟩
end Go.Proofs.YtcpmicinibfepaaGreatDoor

namespace Go.Proofs.YtcpmicinibfepaaGreatDoor
open Go.ChangeShapes Go.WideShapes Go.ChangeAt Go.RowKit Go.Deep NameP Go.Sort


theorem val_lt (l : List UInt8) (h : ∀ c ∈ l, isDig c = true) : val l < 10 ^ l.length := by
  induction l using snoc_ind with
  | h0 => simp [val]
  | h1 l x ih =>
    have hx := h x (by simp)
    unfold isDig at hx
    simp at hx
    have := ih (fun c hc => h c (List.mem_append_left _ hc))
    rw [val_snoc, List.length_append, List.length_cons, List.length_nil, Nat.zero_add, Nat.pow_succ]
    omega
theorem val_lt18 (l : List UInt8) (h : ∀ c ∈ l, isDig c = true) (hl : l.length ≤ 18) : val l < 1000000000000000000 := by
  have h1 := val_lt l h
  have h2 := Nat.pow_le_pow_right (show 0 < 10 by omega) hl
  have h3 : (10 : Nat) ^ 18 = 1000000000000000000 := by decide
  omega
/-- what name.number gives -/
def numV (first s : List UInt8) : Int × Bool := match numS first s with
  | some n => ((n : Int), true)
  | none => (0, false)
theorem S8_nil_iff (l : List UInt8) : (S8 l).toList.isEmpty = true ↔ l = [] := by rw [S8_emp]; simp
theorem S8_get (l : List UInt8) (k : Nat) (h : k < (S8 l).size) : (S8 l)[k]'h = l[k]'(by rw [S8_size] at h; exact h) := by
  rfl
theorem numS_val {first s : List UInt8} (hp : Lib.hasPrefix s first = true) (ho : okN (s.drop first.length) = true) : numV first s = (((val (s.drop first.length) : Nat) : Int), true) := by unfold numV numS; rw [if_pos ⟨hp, ho⟩]
theorem numS_no {first s : List UInt8} (h : ¬ (Lib.hasPrefix s first = true ∧ okN (s.drop first.length) = true)) : numV first s = (0, false) := by unfold numV numS; rw [if_neg h]
theorem trim_is {first s : List UInt8} (hp : Lib.hasPrefix s first = true) : Lib.trimPrefix s first = s.drop first.length := by
  unfold Lib.trimPrefix
  simp [hp]

set_option maxRecDepth 100000 in
set_option maxHeartbeats 4000000 in
theorem name_number (first s : List UInt8) (hs : s.length ≤ 1000000) (w : World) : Calls Tryz.prog 85 #[.string (S8 s), .string (S8 first)] w fun e w' => e = .returned (.tuple #[.int .i64 (numV first s).1, .bool (numV first s).2]) ∧ Below w.heap.size w w' := by
  have HC := Lib.hid (Tryz.strings_CutPrefix (S8 s) (S8 first) w)
  rw [S8_toList, S8_toList] at HC
  cases hp : Lib.hasPrefix s first with
  | false =>
    rw [numS_no (by rw [hp]; simp)]
    rw [hp] at HC
    generalize Lib.trimPrefix s first = r at HC
    go_enter Tryz.func85, Tryz.ntmps85
    go_wp2_with (go_at_call 95; (with_reducible refine (HC.out).mono ?_); rintro e w1 ⟨rfl, hw1⟩; subst hw1)
    go_ret2
    exact ⟨rfl, Below.refl _ _⟩
  | true =>
    rw [hp, trim_is hp] at HC
    have HOK := Lib.hid (fun (ho : okN (s.drop first.length) = true) => numS_val hp ho)
    have HNO := Lib.hid (fun (ho : ¬ okN (s.drop first.length) = true) => numS_no (first := first) (s := s) (fun h => ho h.2))
    have hrl : (s.drop first.length).length ≤ 1000000 := by rw [List.length_drop]; omega
    generalize hV : numV first s = V at HOK HNO ⊢
    generalize s.drop first.length = r at HC HOK HNO hrl
    clear hV hp
    have HC2 : Calls Tryz.prog 95 #[.string (S8 s), .string (S8 first)] w fun e w' => e = .returned (.tuple #[.string (S8 r), .bool true]) ∧ w' = w := HC.out
    have HC3 := Lib.hid HC2
    clear HC HC2
    have hsz := S8_size r
    by_cases h0 : r = []
    · have hv := HNO.out (fun ho => (okN_iff.1 ho).1 h0)
      rw [hv]
      have he : (S8 r).toList.isEmpty = true := (S8_nil_iff r).2 h0
      clear h0 hv hsz
      generalize S8 r = t at HC3 he
      go_enter Tryz.func85, Tryz.ntmps85
      go_wp2_with (go_at_call 95; (with_reducible refine (HC3.out).mono ?_); rintro e w1 ⟨rfl, hw1⟩; subst hw1)
      go_ret2
      exact ⟨rfl, Below.refl _ _⟩
    · have he : (S8 r).toList.isEmpty = false := by rw [S8_emp]; simpa using h0
      by_cases h18 : 18 < r.length
      · have hv := HNO.out (fun ho => by have := (okN_iff.1 ho).2.1; omega)
        rw [hv]
        have hsz2 : 18 < (S8 r).size := by omega
        have hsz3 : (S8 r).size ≤ 1000000 := by omega
        clear h0 hv hsz h18
        generalize S8 r = t at HC3 he hsz2 hsz3
        go_enter Tryz.func85, Tryz.ntmps85
        go_wp2_with (go_at_call 95; (with_reducible refine (HC3.out).mono ?_); rintro e w1 ⟨rfl, hw1⟩; subst hw1)
        go_ret2
        exact ⟨rfl, Below.refl _ _⟩
      · have hlt0 : 0 < (S8 r).size := by rw [S8_size]; exact List.length_pos_iff.2 h0
        have hg0 : (S8 r)[0]'hlt0 = r[0]'(List.length_pos_iff.2 h0) := S8_get r 0 hlt0
        have hhd : r.head? = some (r[0]'(List.length_pos_iff.2 h0)) := by cases r with
          | nil => exact absurd rfl h0
          | cons x r => rfl
        by_cases h48 : r[0]'(List.length_pos_iff.2 h0) = 48
        · have hv := HNO.out (fun ho => (okN_iff.1 ho).2.2.1 (by rw [hhd, h48]))
          rw [hv]
          have hsz3 : (S8 r).size ≤ 18 := by omega
          have hb : (((S8 r)[0]'hlt0).toNat : Int) = 48 := by rw [hg0, h48]; rfl
          clear h0 hv hsz h18 hhd hg0 h48
          go_enter Tryz.func85, Tryz.ntmps85
          go_wp2_with (go_at_call 95; (with_reducible refine (HC3.out).mono ?_); rintro e w1 ⟨rfl, hw1⟩; subst hw1)
          go_ret2
          exact ⟨rfl, Below.refl _ _⟩
        · have hb : ((((S8 r)[0]'hlt0).toNat : Int) == 48) = false := by
            rw [beq_eq_false_iff_ne, hg0]
            intro e
            apply h48
            have : (r[0]'(List.length_pos_iff.2 h0)).toNat = 48 := by omega
            rw [← UInt8.ofNat_toNat (x := r[0]'(List.length_pos_iff.2 h0)), this]
            rfl
          have hsz3 : (S8 r).size ≤ 18 := by omega
          have hne48 : r.head? ≠ some 48 := by rw [hhd]; intro e; exact h48 (Option.some.inj e)
          have HD := Lib.hid (fun (hd : ∀ c ∈ r, isDig c = true) => HOK.out (okN_iff.2 ⟨h0, by omega, hne48, hd⟩))
          have HN := Lib.hid (fun (c : UInt8) (hc : c ∈ r) (hd : isDig c = false) => HNO.out (fun ho => by rw [(okN_iff.1 ho).2.2.2 c hc] at hd; cases hd))
          obtain ⟨q1, q2, q3⟩ := bytesWorld_facts w 5 (S8 r)
          have HQ := Lib.hid q1
          have hrl : r.length ≤ 18 := by omega
          have HSZ := Lib.hid hsz
          clear h0 hsz h18 hhd hg0 h48 hne48 q1 HOK HNO
          go_enter Tryz.func85, Tryz.ntmps85
          go_wp2_with (go_at_call 95; (with_reducible refine (HC3.out).mono ?_); rintro e w1 ⟨rfl, hw1⟩; subst hw1)
          go_loopw [8, 36] (fun vn vi wr => ∃ k : Nat, k ≤ (S8 r).size ∧ vi = .int .i64 k ∧ vn = .int .i64 (val (r.take k) : Nat) ∧ (∀ c ∈ r.take k, isDig c = true) ∧ wr = Lib.bytesWorld w1 5 (S8 r)) (fun _ vi _ => (S8 r).size - (intOf vi).toNat)
          case atStart => exact ⟨0, by omega, rfl, rfl, by simp, rfl⟩
          case round =>
            obtain ⟨k, hk, rfl, rfl, hpre, rfl⟩ := hrel
            have hsz := HSZ.out
            have hv := val_lt18 _ hpre (by rw [List.length_take]; omega)
            by_cases hlt : k < (S8 r).size
            · have hkr : k < r.length := by omega
              have hcell := HQ.out k hlt
              rw [S8_toList, List.getD_eq_getElem?_getD, List.getElem?_eq_getElem hkr, Option.getD_some] at hcell
              have HT := Lib.hid (show r.take (k + 1) = r.take k ++ [r[k]] from List.take_succ_eq_append_getElem hkr)
              have hmem : r[k] ∈ r := List.getElem_mem hkr
              have hc8 := UInt8.toNat_lt (r[k])
              have hv17 : val (r.take k) < 100000000000000000 := by
                have h1 := val_lt _ hpre
                have h2 := Nat.pow_le_pow_right (show 0 < 10 by omega) (show (r.take k).length ≤ 17 by rw [List.length_take]; omega)
                have h3 : (10 : Nat) ^ 17 = 100000000000000000 := by decide
                omega
              have HPRE := Lib.hid hpre
              have hj : (k : Int) < ((S8 r).size : Int) := by omega
              generalize hcc : r[k] = c at hcell HT hmem hc8
              by_cases hdg : isDig c = true
              · have h2 : 48 ≤ c.toNat ∧ c.toNat ≤ 57 := by unfold isDig at hdg; simpa using hdg
                obtain ⟨g1, g2⟩ := h2
                have HV := Lib.hid (show val (r.take (k + 1)) = val (r.take k) * 10 + (c.toNat - 48) by rw [HT.out, val_snoc])
                have HP2 := Lib.hid (show ∀ x ∈ r.take (k + 1), isDig x = true from fun x hx => by
                  rw [HT.out] at hx
                  rcases List.mem_append.1 hx with hx | hx
                  · exact HPRE.out x hx
                  · rw [List.mem_singleton.1 hx]; exact hdg)
                clear hpre hdg hcc HT hmem hsz
                generalize val (r.take k) = vv at hv hv17 HV ⊢
                have hv3 : (vv : Int) ≤ 100000000000000000 := by omega
                generalize c.toNat = n8 at hcell hc8 g1 g2 HV
                go_wp2_with fail
                exact ⟨⟨k + 1, by omega, by go_num, by rw [HV.out]; congr 1; omega, HP2.out, trivial⟩, by show (S8 r).size - ((k : Int) + 1).toNat < (S8 r).size - ((k : Int)).toNat; omega⟩
              · have hd : isDig c = false := by simpa using hdg
                have hvv := HN.out c hmem hd
                subst hvv
                have h2 : c.toNat < 48 ∨ 57 < c.toNat := by unfold isDig at hd; simp at hd; omega
                clear hpre hdg hcc HT hmem hsz hd HN HD
                generalize val (r.take k) = vv at hv hv17 ⊢
                generalize c.toNat = n8 at hcell hc8 h2
                by_cases g1 : n8 < 48
                · clear h2
                  go_wp2_with fail
                  go_ret2
                  exact ⟨rfl, q2⟩
                · have g2 : 57 < n8 := by omega
                  clear h2
                  go_wp2_with fail
                  go_ret2
                  exact ⟨rfl, q2⟩
            · have hall := HD.out (fun c hc => hpre c (by rwa [List.take_of_length_le (by omega)]))
              subst hall
              rw [List.take_of_length_le (by omega)] at hv ⊢
              have hj : ¬ (k : Int) < ((S8 r).size : Int) := by omega
              clear hpre hsz HD HN
              go_wp2_with fail
              go_ret2
              exact ⟨rfl, q2⟩
end Go.Proofs.YtcpmicinibfepaaGreatDoor
