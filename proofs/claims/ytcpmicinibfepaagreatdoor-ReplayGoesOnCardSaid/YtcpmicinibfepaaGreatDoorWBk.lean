/- Layer 33: the frames that a segment begins with (whole); the names of segments (files); a condition on frames · Layer 33: frames are struck from a row of frames (slices.DeleteFunc with Scan's condition). -/
import Derived.Test.YtcpmicinibfepaaGreatDoorWAa
import Derived.Test.YtcpmicinibfepaaGreatDoorWAk
import Derived.Test.YtcpmicinibfepaaGreatDoorWBj
namespace Go.Proofs.YtcpmicinibfepaaGreatDoor
open Go.ChangeShapes Go.WideShapes Go.ChangeAt Go.RowKit Go.Deep DiskP NameP



/-- what a reading of a segment leaves -/
def WholePost (l : List FrameP.Fr) (w : World) (e : Ending) (w' : World) : Prop :=
  ∃ A c, e = .returned (.tuple #[.slice A l.length c, .int .i64 (FrameP.bytes l : Nat)]) ∧ w'.ownsRow w.heap.size 46 2 (.slice A l.length c) l.length (fcells l) ∧ (l = [] → A = none ∧ c = 0) ∧ Below w.heap.size w w'
theorem whole_done {w wr : World} {v : Value} {l : List FrameP.Fr} {n : Nat} (hown : wr.ownsRow w.heap.size 46 2 v l.length (fcells l)) (hv : l = [] → v = .slice none 0 0) (hb : Below w.heap.size w wr) (hn : n = FrameP.bytes l) : WholePost l w (.returned (.tuple #[v, .int .i64 (n : Int)])) wr := by
  subst hn
  obtain ⟨A, c, rfl⟩ := own_slice hown
  exact ⟨A, c, rfl, hown, fun h => by have := hv h; injection this with h1 _ h2; exact ⟨h1, h2⟩, hb⟩
set_option maxRecDepth 100000 in
set_option maxHeartbeats 1000000 in
theorem rep_whole (s : ByteArray) (hs : s.size ≤ 1000000) (want : Int) (hw : 1 ≤ want ∧ want ≤ 999999999999999999) (w : World) :
    Calls Tryz.prog 47 #[.string s, .int .i64 want] w (WholePost (FrameP.whole s.data.toList want) w) := by
  obtain ⟨i0, hi, hz0, hz1, hz2⟩ := info_parts' info_frame
  have HI := Lib.hid (And.intro hi (And.intro hz0 (And.intro hz1 hz2)))
  clear hi hz0 hz1 hz2
  go_enter Tryz.func47, Tryz.ntmps47
  go_wp2_with fail
  go_loopw [0, 6, 7] (fun vt v i wr => ∃ (pre : List FrameP.Fr) (n : Nat) (t : ByteArray), vt = .string t ∧ i = .int .i64 n ∧ n + t.size ≤ 1000000 ∧ 16 * pre.length ≤ n ∧ wr.ownsRow w.heap.size 46 2 v pre.length (fcells pre) ∧ Below w.heap.size w wr ∧ Hid (pre = [] → v = .slice none 0 0) ∧
    Hid (n = FrameP.bytes pre ∧ FrameP.whole s.data.toList want = pre ++ FrameP.whole t.data.toList (want + pre.length))) (fun vt _ _ _ => match vt with | .string t => t.size | _ => 0)
  case atStart => exact ⟨[], 0, s, rfl, rfl, by omega, by simp, World.ownsRow_nil _ _ _ _, Below.refl _ _, Lib.hid (fun _ => rfl), Lib.hid ⟨rfl, by simp⟩⟩
  case round =>
    obtain ⟨pre, n, t, rfl, rfl, hnt, hpn, hown, hb, HV, HALL⟩ := hrel
    obtain ⟨A, c, rfl⟩ := own_slice hown
    have HO := Lib.hid hown
    clear hown
    by_cases hlt : 0 < t.size
    · have HNE := Lib.hid (show t.data.toList ≠ [] by
        intro h
        have h2 : t.data.toList.length = 0 := by rw [h]; rfl
        have h3 : t.data.toList.length = t.size := rfl
        omega)
      have hlt0 : (0 : Int) < (t.size : Int) := by omega
      have ht := frame_Take t (by unfold maxLen; omega)
      rcases htk : FrameP.take t.data.toList with ⟨x, m, er⟩
      rw [htk] at ht
      unfold tfV at ht
      simp only at ht
      have HT := Lib.hid ht
      clear ht
      by_cases her : er = 0
      · subst her
        obtain ⟨hm1, hm2, hm3, hm4, _⟩ := FrameP.take_ok _ _ _ htk
        have hm2' : m ≤ t.size := hm2
        clear hm2
        by_cases hx : x.1 = want + pre.length
        · have HS := Lib.hid (FrameP.whole_ok HNE.out htk hx)
          have HM := Lib.hid hm1
          have hx1 : (x.1 != want + (pre.length : Int)) = false := by simp [hx]
          clear htk
          have hm16 : 16 ≤ m := by omega
          have HX := Lib.hid hx
          clear hm1 hx hm3 hm4
          have HO1 := Lib.hid (fun (W : World) (h : Below wr.heap.size wr W) => own_below HO.out h)
          go_wp2_with (first
            | (go_at_call 74; refine (HT.out _).mono ?_; rintro e w1 ⟨rfl, hb1⟩)
            | (at_builtin; go_must (refine wpList_append_one rfl _ _ _ (by rfl) w.heap.size 46 i0 _ 2 24 Tryz.underlying42 HI.out.1 HI.out.2.1 HI.out.2.2.1 HI.out.2.2.2 rfl (by decide) (by decide) _ _ _ (by rfl) (w1.alloc (.cells #[.int .i64 x.1, .string ⟨x.2.toArray⟩] 46)) ((HO1.out w1 hb1).alloc _) _ (w1.heap.size + 1) (World.size_alloc _ _) (by rfl) (by rfl) (by simp [Value.oneCell']) (by omega) (by have h1 := hb1.size; have h2 := hb.size; rw [World.size_alloc]; omega) ?_; intro g cap w2 hA)))
          have HTL := Lib.hid (ex_drop t m)
          have hsz : (t.extract m t.size).size = t.size - m := by rw [ByteArray.size_extract]; omega
          refine ⟨⟨pre ++ [x], n + m, _, rfl, by go_num, by omega, by rw [List.length_append]; simp; omega, ?_, hA.below _ (below_alloc' _ (below_step hb1 hb)), Lib.hid (fun h => absurd h (by simp)), Lib.hid ⟨by rw [FrameP.bytes_snoc, ← HALL.out.1, ← HM.out], ?_⟩⟩, by simp [hsz]; omega⟩
          · rw [fcells_snoc, List.length_append]; exact hA.own
          · rw [HALL.out.2, HS.out, HTL.out, List.length_append, List.append_assoc]
            simp [Int.add_assoc]
        · have HS := Lib.hid (FrameP.whole_ne HNE.out htk hx)
          have hx1 : (x.1 != want + (pre.length : Int)) = true := by rw [bne_iff_ne]; exact hx
          clear htk hx hm1 hm3 hm4
          go_wp2_with (go_at_call 74; refine (HT.out _).mono ?_; rintro e w1 ⟨rfl, hb1⟩)
          go_ret2
          rw [HALL.out.2, HS.out, List.append_nil]
          exact whole_done (own_below HO.out (below_alloc' _ hb1)) HV.out (below_alloc' _ (below_step hb1 hb)) HALL.out.1
      · have HS := Lib.hid (FrameP.whole_bad HNE.out htk her (want + pre.length))
        clear htk
        have hne : (er != 0) = true := by rw [bne_iff_ne]; exact her
        clear her
        go_wp2_with (go_at_call 74; refine (HT.out _).mono ?_; rintro e w1 ⟨rfl, hb1⟩)
        go_ret2
        rw [HALL.out.2, HS.out, List.append_nil]
        exact whole_done (own_below HO.out (below_alloc' _ hb1)) HV.out (below_alloc' _ (below_step hb1 hb)) HALL.out.1
    · have HD := Lib.hid (show t.data.toList = [] from List.eq_nil_of_length_eq_zero (by show t.size = 0; omega))
      have hlt0 : ¬ (0 : Int) < (t.size : Int) := by omega
      go_wp2_with fail
      go_ret2
      rw [HALL.out.2, HD.out, FrameP.whole_nil, List.append_nil]
      exact whole_done HO.out HV.out hb HALL.out.1

set_option maxRecDepth 100000 in
theorem rep_files (A : Option Addr) (c : Nat) (ns : List Int) (hl : ns.length ≤ 100) (hn : ∀ n ∈ ns, 1 ≤ n ∧ n ≤ 999999999999999999) (w : World) (ht : ∀ W, Below w.heap.size w W → TabW W) (hr : Rd w w.heap.size A (ns.map (Value.int .i64))) :
    Calls Tryz.prog 48 #[.slice A ns.length c] w fun e w' => ∃ A' c', e = .returned (.slice A' ns.length c') ∧ w'.ownsRow w.heap.size 9 1 (.slice A' ns.length c') ns.length (ns.map fun n => Value.string (tB n)) ∧ Below w.heap.size w w' := by
  have HR := Lib.hid hr
  have HT := Lib.hid ht
  have HN := Lib.hid hn
  obtain ⟨i0, hi, hz0, hz1, hz2⟩ := info_parts' info_str
  have HI := Lib.hid (And.intro hi (And.intro hz0 (And.intro hz1 hz2)))
  clear hi hz0 hz1 hz2 hr ht hn
  go_enter Tryz.func48, Tryz.ntmps48
  go_wp2_with fail
  go_loopw [3, 8] (fun v i wr => ∃ k : Nat, k ≤ ns.length ∧ i = .int .i64 k ∧ wr.ownsRow w.heap.size 9 1 v k ((ns.take k).map fun n => Value.string (tB n)) ∧ Below w.heap.size w wr) (fun _ i _ => ns.length - (intOf i).toNat)
  case atStart => exact ⟨0, by omega, rfl, World.ownsRow_nil _ _ _ _, Below.refl _ _⟩
  case round =>
    obtain ⟨k, hk, rfl, hown, hb⟩ := hrel
    obtain ⟨A1, c1, rfl⟩ := own_slice hown
    have HO := Lib.hid hown
    have hbz := hb.size
    clear hown
    by_cases hlt : k < ns.length
    · obtain ⟨n, hnk⟩ : ∃ n, ns[k]? = some n := ⟨ns[k], List.getElem?_eq_getElem hlt⟩
      have z := (HR.out.below hb) k (.int .i64 n) (by rw [List.getElem?_map, hnk]; rfl)
      obtain ⟨ad, rfl, hadl, z0⟩ := z
      have HTS := Lib.hid (show (ns.take (k + 1)).map (fun n => Value.string (tB n)) = (ns.take k).map (fun n => Value.string (tB n)) ++ [.string (tB n)] by rw [List.take_add_one, hnk, List.map_append]; rfl)
      have hi1 : (k : Int) < (ns.length : Int) := by omega
      have CO' : Calls Tryz.prog 45 #[.int .i64 1, .int .i64 n] wr fun e w' => e = .returned (.string (tB n)) ∧ Below wr.heap.size wr w' := name_Of 1 n (I64_small (HN.out n (List.mem_of_getElem? hnk))) wr (HT.out wr hb)
      have CO := Lib.hid CO'
      clear hnk CO'
      generalize tB n = tg at *
      have HO1 := Lib.hid (fun (W : World) (h : Below wr.heap.size wr W) => own_below HO.out h)
      go_wp2_with (first
        | (go_at_call 45; (with_reducible refine (CO.out).mono ?_); rintro e w1 ⟨rfl, hb1⟩)
        | (at_builtin; go_must (refine wpList_append_one rfl _ _ _ (by rfl) w.heap.size 9 i0 _ 1 16 Tryz.underlying36 HI.out.1 HI.out.2.1 HI.out.2.2.1 HI.out.2.2.2 rfl (by decide) (by decide) _ _ _ (by rfl) w1 (HO1.out w1 hb1) _ (w1.heap.size) rfl (by rfl) (by rfl) (by simp [Value.oneCell']) (by omega) (by have h1 := hb1.size; omega) ?_; intro g cap w2 hA)))
      refine ⟨⟨k + 1, by omega, by go_num, ?_, hA.below _ (below_step hb1 hb)⟩, by simp [intOf]; omega⟩
      rw [HTS.out]
      exact hA.own
    · have hi1 : ¬ (k : Int) < (ns.length : Int) := by omega
      obtain rfl : k = ns.length := by omega
      rw [List.take_length] at HO
      go_wp2_with fail
      go_ret
      exact ⟨A1, c1, rfl, HO.out, hb⟩
end Go.Proofs.YtcpmicinibfepaaGreatDoor

namespace Go.Proofs.YtcpmicinibfepaaGreatDoor
open Go.ChangeShapes Go.WideShapes Go.ChangeAt Go.RowKit Go.Deep DiskP NameP



theorem rep_Scan1 (q : Int) (dt : ByteArray) (b : Nat) (after : Int) (w : World) (h : w.cell? ⟨b, 0, none⟩ = some (.int .i64 after)) (hb : b < w.heap.size) :
    Calls Tryz.prog 50 #[.agg #[.int .i64 q, .string dt], .pointer (some ⟨b, 0, none⟩)] w fun e w' => e = .returned (.bool (decide (q ≤ after))) ∧ Below w.heap.size w w' := by
  have h2 : ∀ o, (w.alloc o).cell? ⟨b, 0, none⟩ = some (.int .i64 after) := fun o => (((Below.refl w.heap.size w).alloc (Nat.le_refl _) o).cell (p := ⟨b, 0, none⟩) hb).trans h
  go_enter Tryz.func50, Tryz.ntmps50
  go_wp2_with fail
  go_ret
  exact ⟨rfl, by (repeat (first | assumption | exact Below.refl _ _ | refine below_step (by assumption) ?_ | refine below_alloc' _ ?_ | refine below_drewN ?_ _ | refine Below.drew ?_))⟩

set_option maxRecDepth 100000 in
theorem rep_Index (A : Option Addr) (c : Nat) (l : List FrameP.Fr) (hl : l.length ≤ 1000000) (n0 : Int) (hrow : FrameP.Row l n0) (b : Nat) (after : Int) (w : World) (h : w.cell? ⟨b, 0, none⟩ = some (.int .i64 after)) (hb : b < w.heap.size) (hr : RdF w w.heap.size A l) :
    Calls Tryz.prog 75 #[.slice A l.length c, .func (.func 50) #[] #[.pointer (some ⟨b, 0, none⟩)]] w fun e w' => e = .returned (.int .i64 (if l ≠ [] ∧ n0 ≤ after then 0 else -1)) ∧ Below w.heap.size w w' := by
  have HR := Lib.hid hr
  have HROW := Lib.hid hrow
  have HC := Lib.hid (fun (q : Int) (dt : ByteArray) (W : World) (hW : Below w.heap.size w W) => rep_Scan1 q dt b after W ((hW.cell (p := ⟨b, 0, none⟩) hb).trans h) (Nat.lt_of_lt_of_le hb hW.size))
  clear hr hrow h
  obtain ⟨res, hres⟩ : ∃ res, res = (if l ≠ [] ∧ n0 ≤ after then (0 : Int) else -1) := ⟨_, rfl⟩
  rw [← hres]
  have HRES := Lib.hid hres
  clear hres
  go_enter Tryz.func75, Tryz.ntmps75
  go_wp2_with fail
  go_loopw [8] (fun i wr => ∃ k : Nat, k ≤ l.length ∧ i = .int .i64 k ∧ Below w.heap.size w wr ∧ Hid (k = 0 ∨ after < n0)) (fun i _ => l.length - (intOf i).toNat)
  case atStart => exact ⟨0, by omega, rfl, Below.refl _ _, Lib.hid (.inl rfl)⟩
  case round =>
    obtain ⟨k, hk, rfl, hbw, HK⟩ := hrel
    by_cases hlt : k < l.length
    · obtain ⟨f, hk'⟩ : ∃ f, l[k]? = some f := ⟨l[k], List.getElem?_eq_getElem hlt⟩
      obtain ⟨ad, rfl, hadl, z0, z1⟩ := HR.out.below hbw k f hk'
      have hf := HROW.out k f hk'
      have hi1 : (k : Int) < (l.length : Int) := by omega
      have HL := Lib.hid (show l ≠ [] from fun e => by subst e; simp at hlt)
      clear hk'
      have CQ := Lib.hid (HC.out f.1 ⟨f.2.toArray⟩ wr hbw)
      by_cases hle : f.1 ≤ after
      · have hd : decide (f.1 ≤ after) = true := by simpa using hle
        rw [hd] at CQ
        have hr0 : res = 0 := by
          rw [HRES.out, if_pos]
          refine ⟨HL.out, ?_⟩
          rcases HK.out with h | h
          · subst h; simp at hf; omega
          · omega
        have hk0 : k = 0 := by
          rcases HK.out with h | h
          · exact h
          · omega
        have HR0 := Lib.hid (show res = (k : Int) by omega)
        clear hd hle hf HK hr0 hk0
        go_wp2_with (go_at_call 50; (with_reducible refine (CQ.out).mono ?_); rintro e w1 ⟨rfl, b1⟩)
        go_ret
        exact ⟨by rw [HR0.out]; rfl, below_step b1 hbw⟩
      · have hd : decide (f.1 ≤ after) = false := by simpa using hle
        rw [hd] at CQ
        have HK2 := Lib.hid (show k + 1 = 0 ∨ after < n0 from .inr (by rcases HK.out with h | h; (subst h; simp at hf; omega); exact h))
        clear hd hle hf HK
        go_wp2_with (go_at_call 50; (with_reducible refine (CQ.out).mono ?_); rintro e w1 ⟨rfl, b1⟩)
        exact ⟨⟨k + 1, by omega, by go_num, below_step b1 hbw, HK2⟩, by simp [intOf]; omega⟩
    · have hi1 : ¬ (k : Int) < (l.length : Int) := by omega
      have hr0 : res = -1 := by
        rw [HRES.out, if_neg]
        rintro ⟨h1, h2⟩
        rcases HK.out with h | h
        · subst h; exact h1 (List.eq_nil_of_length_eq_zero (by omega))
        · omega
      go_wp2_with fail
      go_ret
      exact ⟨rfl, hbw⟩

theorem grown_step {w u v : World} {g : Nat} (h : w.grownBy u (some g)) (k : Below u.heap.size u v) : w.grownBy v (some g) :=
  ⟨k.os.trans h.os, k.tape.trans h.tape, k.output.trans h.output, Nat.le_trans h.size k.size, fun b hb hne => (k.block b (Nat.lt_of_lt_of_le hb h.size)).trans (h.block b hb hne)⟩
theorem grown_trans {w u v : World} {r : Option Nat} (h : w.grownBy u r) (k : u.grownBy v r) : w.grownBy v r :=
  ⟨k.os.trans h.os, k.tape.trans h.tape, k.output.trans h.output, Nat.le_trans h.size k.size, fun b hb hne => (k.block b (Nat.lt_of_lt_of_le hb h.size) hne).trans (h.block b hb hne)⟩
theorem grown_set {w u : World} {g j : Nat} {x : Value} (h : w.grownBy u (some g)) : w.grownBy (u.setCell ⟨g, j, none⟩ x) (some g) :=
  ⟨h.os, h.tape, h.output, by simp [World.setCell]; exact h.size, fun b hb hne => (heap_setCell_other u ⟨g, j, none⟩ b x (by show b ≠ g; intro e; exact hne (by rw [e]))).trans (h.block b hb hne)⟩
/-- a row while frames are struck at its head: q of them, i moved already -/
def midF (l : List FrameP.Fr) (q i : Nat) : List FrameP.Fr := (l.drop q).take i ++ l.drop i
theorem midF_len (l : List FrameP.Fr) (q i : Nat) (h : i + q ≤ l.length) : (midF l q i).length = l.length := by
  unfold midF
  rw [List.length_append, List.length_take, List.length_drop, List.length_drop]
  omega
theorem midF_get (l : List FrameP.Fr) (q i j : Nat) (h : i + q ≤ l.length) (hj : i ≤ j) : (midF l q i)[j]? = l[j]? := by
  unfold midF
  rw [List.getElem?_append_right (by rw [List.length_take, List.length_drop]; omega), List.getElem?_drop, List.length_take, List.length_drop]
  congr 1
  omega
theorem midF_set (l : List FrameP.Fr) (q i : Nat) (f : FrameP.Fr) (h : i + q < l.length) (hf : l[i + q]? = some f) : (midF l q i).set i f = midF l q (i + 1) := by
  unfold midF
  have h1 : ((l.drop q).take i).length = i := by rw [List.length_take, List.length_drop]; omega
  rw [List.set_append_right _ _ (by omega), h1, Nat.sub_self, List.take_add_one, List.getElem?_drop, Nat.add_comm q i, hf, List.drop_eq_getElem_cons (show i < l.length by omega), List.set_cons_zero, List.append_assoc]
  rfl
theorem midF_end (l : List FrameP.Fr) (q : Nat) : (midF l q (l.length - q)).take (l.length - q) = l.drop q := by
  unfold midF
  rw [List.take_append_of_le_length (by rw [List.length_take, List.length_drop]; omega), List.take_take, Nat.min_self, List.take_of_length_le (by rw [List.length_drop]; omega)]
theorem fcells_set : ∀ (M : List FrameP.Fr) (k : Nat) (f : FrameP.Fr), ((fcells M).set (k * 2) (.int .i64 f.1)).set (k * 2 + 1) (.string ⟨f.2.toArray⟩) = fcells (M.set k f) := by
  intro M
  induction M with
  | nil => intro k f; rfl
  | cons x M ih =>
    intro k f
    cases k with
    | zero => rfl
    | succ k =>
      have e : fcells (x :: M) = .int .i64 x.1 :: .string ⟨x.2.toArray⟩ :: fcells M := rfl
      have e2 : fcells (x :: M.set k f) = .int .i64 x.1 :: .string ⟨x.2.toArray⟩ :: fcells (M.set k f) := rfl
      rw [List.set_cons_succ, e, e2, ← ih k f, show (k + 1) * 2 = k * 2 + 1 + 1 by omega, show k * 2 + 1 + 1 + 1 = k * 2 + 1 + 1 + 1 from rfl]
      rfl

theorem own_setF {w : World} {B g n c k : Nat} {M : List FrameP.Fr} {f : FrameP.Fr} (h : w.ownsRow B 46 2 (.slice (some ⟨g, 0, none⟩) n c) n (fcells M)) :
    ((w.setCell ⟨g, k * 2, none⟩ (.int .i64 f.1)).setCell ⟨g, k * 2 + 1, none⟩ (.string ⟨f.2.toArray⟩)).ownsRow B 46 2 (.slice (some ⟨g, 0, none⟩) n c) n (fcells (M.set k f)) := by
  rcases h.2 with ⟨e1, _⟩ | ⟨g', cap, cur, e1, e3, hg, hnc, hcm, hcs, htk⟩
  · cases e1
  · obtain ⟨rfl, rfl⟩ : g = g' ∧ c = cap := by simpa using e1
    refine ⟨by rw [← fcells_set, List.length_set, List.length_set, h.1], .inr ⟨g, c, _, rfl, e3, bx_set (bx_set hg _ _) _ _, hnc, hcm, by simp [hcs], ?_⟩⟩
    rw [Array.toList_setIfInBounds, Array.toList_setIfInBounds, List.take_set, List.take_set, htk, fcells_set]
theorem own_takeF {w : World} {B g n c k : Nat} {M : List FrameP.Fr} (h : w.ownsRow B 46 2 (.slice (some ⟨g, 0, none⟩) n c) n (fcells M)) (hn : M.length = n) (hk : k ≤ n) : w.ownsRow B 46 2 (.slice (some ⟨g, 0, none⟩) k c) k (fcells (M.take k)) := by
  rcases h.2 with ⟨e1, _⟩ | ⟨g', cap, cur, e1, e3, hg, hnc, hcm, hcs, htk⟩
  · cases e1
  · obtain ⟨rfl, rfl⟩ : g = g' ∧ c = cap := by simpa using e1
    refine ⟨by rw [fcells_length, List.length_take]; omega, .inr ⟨g, c, cur, rfl, e3, hg, by omega, hcm, hcs, ?_⟩⟩
    have e : ∀ (M : List FrameP.Fr) (k : Nat), (fcells M).take (k * 2) = fcells (M.take k) := by
      intro M
      induction M with
      | nil => intro k; simp [fcells]
      | cons x M ih =>
        intro k
        cases k with
        | zero => rfl
        | succ k =>
          have e : fcells (x :: M) = .int .i64 x.1 :: .string ⟨x.2.toArray⟩ :: fcells M := rfl
          rw [e, show (k + 1) * 2 = k * 2 + 1 + 1 by omega, List.take_succ_cons, List.take_succ_cons, ih k]
          rfl
    rw [← e, ← htk, List.take_take, Nat.min_eq_left (by omega)]
/-- what stands behind the first of a row is cleared -/
theorem fr_clear (w : World) (B g n c k : Nat) (M : List FrameP.Fr) (h : w.ownsRow B 46 2 (.slice (some ⟨g, 0, none⟩) n c) n (fcells M)) (hn : M.length = n) (hk : k < n) :
    ∃ w', (∀ ty cc, (Builtin.clear_ #[42] ty #[.slice (some ⟨g, k * 2, none⟩) (n - k) cc]).run Tryz.prog w = .ok (.tuple #[]) w') ∧ w'.ownsRow B 46 2 (.slice (some ⟨g, 0, none⟩) k c) k (fcells (M.take k)) ∧ w.grownBy w' (some g) := by
  have ht := own_takeF h hn (Nat.le_of_lt hk)
  obtain ⟨m, hm⟩ : ∃ m, n - k = m + 1 := ⟨n - k - 1, by omega⟩
  rw [hm]
  rcases id h.2 with ⟨e1, _⟩ | ⟨g', cap, cur, e1, e3, hg, hnc, hcm, hcs, htk⟩
  · cases e1
  · obtain ⟨rfl, rfl⟩ : g = g' ∧ c = cap := by simpa using e1
    obtain ⟨i, hi, hz, _, _⟩ := info_parts' info_frame
    obtain ⟨Z, hZ⟩ : ∃ Z, Z = (Builtin.zeroCells (Value.agg #[.int .i64 0, .string ⟨#[]⟩]).cells (m + 1)).toList := ⟨_, rfl⟩
    have hZl : Z.length = (m + 1) * 2 := by rw [hZ]; simp [Builtin.zeroCells, Value.cells]
    have hZ1 : ∀ v ∈ Z, v.oneCell' = true := by
      intro v hv
      rw [hZ] at hv
      unfold Builtin.zeroCells at hv
      simp only [Array.toList_map, List.mem_map] at hv
      obtain ⟨x, _, rfl⟩ := hv
      have hm : x % 2 = 0 ∨ x % 2 = 1 := by omega
      have e : (Value.agg #[.int .i64 0, .string ⟨#[]⟩]).cells = #[.int .i64 0, .string ⟨#[]⟩] := by kernel_rfl
      rw [e]
      rcases hm with hm | hm
      · show (#[Value.int .i64 0, .string ⟨#[]⟩][x % 2]!).oneCell' = true
        rw [hm]; rfl
      · show (#[Value.int .i64 0, .string ⟨#[]⟩][x % 2]!).oneCell' = true
        rw [hm]; rfl
    have hst := run_storeCells_at Tryz.prog g (k * 2) 46 Z 0 cur w hg (by rw [hZl]; omega) hZ1
    refine ⟨w.setRow g (cur.toList.take (k * 2 + 0) ++ Z ++ cur.toList.drop (k * 2 + 0 + Z.length)).toArray, fun ty cc => by simp [Builtin.clear_, run_underlying Tryz.underlying42, zeroValue, typeInfo, hi, hz, ← hZ, hst], ?_, setRow_grown w g _⟩
    rcases id ht.2 with ⟨e1, _⟩ | ⟨g', cap, cur', e1', e3', hg', hnc', hcm', hcs', htk'⟩
    · cases e1
    obtain ⟨rfl, rfl⟩ : g = g' ∧ c = cap := by simpa using e1'
    obtain rfl : cur = cur' := by rw [hg] at hg'; simpa using hg'
    have l1 : cur.toList.length = c * 2 := hcs
    refine ⟨ht.1, .inr ⟨g, c, _, rfl, e3, setRow_at hg _, by omega, hcm, ?_, ?_⟩⟩
    · simp only [List.size_toArray, List.length_append, List.length_take, List.length_drop, hZl, l1]; omega
    · rw [Nat.add_zero, List.append_assoc, List.take_left' (by rw [List.length_take]; omega), htk']

set_option maxRecDepth 100000 in
set_option maxHeartbeats 4000000 in
theorem rep_Delete (B g c : Nat) (l : List FrameP.Fr) (hl : l.length ≤ 1000) (n0 : Int) (hrow : FrameP.Row l n0) (hne : l ≠ []) (q : Nat) (hq : q ≤ l.length) (b : Nat) (after : Int) (hqa : (q : Int) = max 0 (after - n0 + 1)) (w : World) (h : w.cell? ⟨b, 0, none⟩ = some (.int .i64 after)) (hb : b < B) (hB : B ≤ w.heap.size)
    (ho : w.ownsRow B 46 2 (.slice (some ⟨g, 0, none⟩) l.length c) l.length (fcells l)) :
    Calls Tryz.prog 49 #[.slice (some ⟨g, 0, none⟩) l.length c, .func (.func 50) #[] #[.pointer (some ⟨b, 0, none⟩)]] w fun e w' => e = .returned (.slice (some ⟨g, 0, none⟩) (l.length - q) c) ∧ w'.ownsRow B 46 2 (.slice (some ⟨g, 0, none⟩) (l.length - q) c) (l.length - q) (fcells (l.drop q)) ∧ w.grownBy w' (some g) := by
  have hgb : B ≤ g ∧ g < w.heap.size := ho.lt g rfl
  have HIX := Lib.hid (rep_Index (some ⟨g, 0, none⟩) c l (by omega) n0 hrow b after w h (by omega) (RdF.own ho))
  by_cases h0 : after < n0
  · have hq0 : q = 0 := by omega
    subst hq0
    rw [if_neg (fun hc => by have := hc.2; omega)] at HIX
    have HO := Lib.hid ho
    clear ho h hrow hqa
    go_enter Tryz.func49, Tryz.ntmps49
    go_wp2_with (go_at_call 75; (with_reducible refine (HIX.out).mono ?_); rintro e w1 ⟨rfl, b1⟩)
    go_ret
    exact ⟨by simp, own_below HO.out b1, ⟨b1.os, b1.tape, b1.output, b1.size, fun k hk _ => b1.block k hk⟩⟩
  · rw [if_pos ⟨hne, by omega⟩] at HIX
    have HC := Lib.hid (fun (x : Int) (dt : ByteArray) (W : World) (h1 : W.cell? ⟨b, 0, none⟩ = some (.int .i64 after)) (h2 : b < W.heap.size) => rep_Scan1 x dt b after W h1 h2)
    have HO := Lib.hid ho
    have HROW := Lib.hid hrow
    have HB := Lib.hid h
    have HQA := Lib.hid (show (q : Int) = after - n0 + 1 by omega)
    have hq1 : 1 ≤ q := by omega
    obtain ⟨n, hn⟩ : ∃ n, n = l.length := ⟨_, rfl⟩
    have HN := Lib.hid hn
    have hn1 : 1 ≤ n := by omega
    have hqn : q ≤ n := by omega
    have hn1000 : n ≤ 1000 := by omega
    rw [← hn] at HO HIX ⊢
    clear ho h hrow hqa h0 hn hl hq hne
    go_enter Tryz.func49, Tryz.ntmps49
    go_wp2_with (go_at_call 75; (with_reducible refine (HIX.out).mono ?_); rintro e w1 ⟨rfl, b1⟩)
    have HO1 := Lib.hid (own_below HO.out b1)
    have G1 : w.grownBy w1 (some g) := ⟨b1.os, b1.tape, b1.output, b1.size, fun k hk _ => b1.block k hk⟩
    clear b1
    go_loopw [5, 6] (fun vi vj wr => ∃ i j : Nat, 1 ≤ j ∧ j ≤ n ∧ vi = .int .i64 i ∧ vj = .int .i64 j ∧ i = j - q ∧ wr.ownsRow B 46 2 (.slice (some ⟨g, 0, none⟩) n c) n (fcells (midF l q i)) ∧ w.grownBy wr (some g)) (fun _ vj _ => n - (intOf vj).toNat)
    case atStart => exact ⟨0, 1, by omega, hn1, rfl, rfl, by omega, by simpa [midF] using HO1.out, G1⟩
    case round =>
      obtain ⟨i, j, hj1, hjn, rfl, rfl, hij, ho, hg⟩ := hrel
      have HO := Lib.hid ho
      have HG := Lib.hid hg
      have HIJ := Lib.hid hij
      have hgz := hg.size
      have hbc := hg.cell HB.out (by simp; omega)
      clear ho
      by_cases hlt : j < n
      · obtain ⟨f, hf⟩ : ∃ f, l[j]? = some f := ⟨l[j]'(by rw [← HN.out]; exact hlt), List.getElem?_eq_getElem _⟩
        have hf1 := HROW.out j f hf
        have hmg : (midF l q i)[j]? = some f := by rw [midF_get l q i j (by rw [← HN.out]; omega) (by omega), hf]
        obtain ⟨f0, f1⟩ := fcells_get _ j f hmg
        have z0 := HO.out.cells (g := g) rfl _ _ f0
        have z1 := HO.out.cells (g := g) rfl _ _ f1
        rw [add0] at z0 z1
        have hi1 : (j : Int) < (n : Int) := by omega
        have hCQ : ∀ o, Calls Tryz.prog 50 #[.agg #[.int .i64 f.1, .string ⟨f.2.toArray⟩], .pointer (some ⟨b, 0, none⟩)] (wr.alloc o) fun e w' => e = .returned (.bool (decide (f.1 ≤ after))) ∧ Below (wr.alloc o).heap.size (wr.alloc o) w' := fun o => HC.out f.1 ⟨f.2.toArray⟩ (wr.alloc o) ((((Below.refl wr.heap.size wr).alloc (Nat.le_refl _) o).cell (p := ⟨b, 0, none⟩) (by show b < _; omega)).trans hbc) (by rw [World.size_alloc]; omega)
        have HMG := Lib.hid hf
        have hin : i < n := by omega
        have hii : (i : Int) < (n : Int) := by omega
        obtain ⟨fi, hfi⟩ : ∃ fi, l[i]? = some fi := ⟨l[i]'(by rw [← HN.out]; omega), List.getElem?_eq_getElem _⟩
        have hmi : (midF l q i)[i]? = some fi := by rw [midF_get l q i i (by rw [← HN.out]; omega) (Nat.le_refl _), hfi]
        obtain ⟨k0, k1⟩ := fcells_get _ i fi hmi
        have t0 := HO.out.cells (g := g) rfl _ _ k0
        have t1 := HO.out.cells (g := g) rfl _ _ k1
        rw [add0] at t0 t1
        clear hij hfi hmi k0 k1
        by_cases hjq : j < q
        · have hd : decide (f.1 ≤ after) = true := by rw [decide_eq_true_eq]; have := HQA.out; omega
          rw [hd] at hCQ
          have CQ := Lib.hid hCQ
          clear hCQ hd hf hmg f0 f1 hf1 hbc
          go_wp2_with (go_at_call 50; (with_reducible refine (CQ.out _).mono ?_); rintro e w2 ⟨rfl, b2⟩)
          have b02 := below_step b2 (below_alloc' _ (Below.refl wr.heap.size wr))
          exact ⟨⟨i, j + 1, by omega, by omega, rfl, by go_num, by have := HIJ.out; omega, own_below HO.out b02, grown_step HG.out b02⟩, by simp [intOf]; omega⟩
        · have hd : decide (f.1 ≤ after) = false := by rw [decide_eq_false_iff_not]; have := HQA.out; omega
          rw [hd] at hCQ
          have CQ := Lib.hid hCQ
          clear hCQ hd hf hmg f0 f1 hf1 hbc
          go_wp2_with (go_at_call 50; (with_reducible refine (CQ.out _).mono ?_); rintro e w2 ⟨rfl, b2⟩; have y0 := bx_cells (bx_kept (heap_alloc_new wr _) b2) 0; have y1 := bx_cells (bx_kept (heap_alloc_new wr _) b2) 1; have b02 := below_step b2 (below_alloc' _ (Below.refl wr.heap.size wr)); obtain ⟨cur, hcur⟩ := own_type (own_below HO.out b02) rfl; have fz0 := bx_free hcur (i * 2); have fz1 := bx_free hcur (i * 2 + 1); have t20 := (b02.cell (p := ⟨g, i * 2, none⟩) (by show g < _; omega)).trans t0; have t21 := (b02.cell (p := ⟨g, i * 2 + 1, none⟩) (by show g < _; omega)).trans t1)
          have hset := midF_set l q i f (by have := HIJ.out; have := HN.out; omega) (by rw [show i + q = j by have := HIJ.out; omega]; exact HMG.out)
          refine ⟨⟨i + 1, j + 1, by omega, by omega, by go_num, by go_num, by have := HIJ.out; omega, by rw [← hset]; exact own_setF (own_below HO.out b02), grown_set (grown_set (grown_step HG.out b02))⟩, by simp [intOf]; omega⟩
      · have hi1 : ¬ (j : Int) < (n : Int) := by omega
        obtain ⟨wc, hcl, hoc, hgc⟩ := fr_clear wr B g n c i (midF l q i) HO.out (by rw [midF_len l q i (by have := HN.out; omega), HN.out]) (by omega)
        have hinq : i = n - q := by omega
        have HIN := Lib.hid hinq
        have HCL := Lib.hid hcl
        have HOC := Lib.hid hoc
        have HGC := Lib.hid (grown_trans HG.out hgc)
        have hii : (i : Int) ≤ (n : Int) := by omega
        have hii2 : (n : Int) ≤ (c : Int) := by have := own_cap HO.out; omega
        have hii3 : (i : Int) ≤ (c : Int) := by omega
        have hci : ¬ (c = i) := by have := own_cap HO.out; omega
        have hcl0 := HCL.out 0 (c - i)
        clear hcl hoc hgc hij hinq hbc
        go_wp2_with fail
        go_ret
        have hfin := HOC.out
        rw [HIN.out, HN.out, midF_end l q, ← HN.out, ← HIN.out] at hfin
        exact ⟨by rw [← HIN.out]; rfl, by rw [← HIN.out]; exact hfin, HGC.out⟩
end Go.Proofs.YtcpmicinibfepaaGreatDoor
