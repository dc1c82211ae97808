/- Layer 33: what a repair leads to (plain) · Layer 33: behind a repair there is nothing left to do (plain) · Layer 33: what awake asks (plain): two appends to one segment, something torn behind them, what is read of it · Layer 33: what awake asks of a scan and a repair (plain). -/
import Derived.Test.YtcpmicinibfepaaGreatDoorWBo
import Derived.Test.YtcpmicinibfepaaGreatDoorWBn
import Derived.Test.YtcpmicinibfepaaGreatDoorWBi
namespace Go.Proofs.YtcpmicinibfepaaGreatDoor
open Go.ChangeShapes Go.WideShapes Go.ChangeAt Go.RowKit Go.Deep DiskP NameP FrameP


theorem RepS.readAt {S : DS} {l : Sgs} {x : Int × FrameP.Bs} (hs : Sorted S.fs) (hon : S.on = true) (h : RepS S l) (hx : x ∈ l) : readD S (tB x.1) = (⟨x.2.toArray⟩, 0) := by
  obtain ⟨X, O, hX, hf, _, _⟩ := h.ex
  have hm : segF x ∈ S.fs := hX.perm.mem_iff.1 (by rw [hf]; exact List.mem_append_left _ (List.mem_map_of_mem hx))
  have h1 := read_mem hs hon hm
  simp only [segF] at h1
  exact h1
theorem tB_ne0 {n : Int} (h : 1 ≤ n ∧ n ≤ 999999999999999999) : tB n ≠ ⟨#[]⟩ := fun e => by
  have := tB_pos h
  rw [e] at this
  exact absurd this (by decide)
/-- what a repair of a scan's answer leads to -/
def RepRes (S : DS) (l : Sgs) (a : Int) (D : DS × Int) : Prop :=
  (D.2 = 0 ∧ D.1.on = true ∧ ∃ l', RepS D.1 l' ∧ FinS l' a ∧ (scanF l' a).1 = (scanF l a).1) ∨ (D.2 = 9 ∧ D.1.on = false ∧ S.fuse ≠ -1 ∧ ∃ l', RepS D.1 l' ∧ (scanF l' a).1 = (scanF l a).1)
theorem repair_none {R : Int} {i j : Nat} {S : DS} {l : Sgs} {a : Int} (hI : DInv R i j S) (hon : S.on = true) (h : RepS S l) (hF : ¬ HasF l a) : RepRes S l a (repairD S ⟨#[]⟩ 0 ((l.map (·.1)).map tB)) := by
  have e : (l.map (·.1)).map tB = l.map fun x => tB x.1 := by rw [List.map_map]; rfl
  have hs : (scanF l a).1 = [] := by rw [scan_none hF]
  unfold RepRes
  rw [e, hs]
  unfold repairD
  rcases rem_all l i S [] hI hon h with ⟨b1, b2, _, b4⟩ | ⟨b1, b2, b3, m, b4⟩
  · rw [if_neg (by rw [b1]; decide), if_pos rfl]
    exact .inl ⟨rfl, b2, [], b4, .inl rfl, by simp [scanF, frS]⟩
  · rw [if_pos (by rw [b1]; decide)]
    exact .inr ⟨b1, b2, b3, l.take m, b4, scan_take_none hF m⟩
theorem repair_some {R : Int} {i j : Nat} {S : DS} {l : Sgs} {a : Int} (hI : DInv R i j S) (hon : S.on = true) (h : RepS S l) (hF : HasF l a) : RepRes S l a (repairD S (fileB (scanF l a).2.1.1) ((scanF l a).2.1.2 : Nat) ((scanF l a).2.2.map tB)) := by
  have hq0 := hasF_pos hF
  have hql := rdS_le l a
  obtain ⟨q, hq⟩ : ∃ q, rdS l a = q + 1 := ⟨rdS l a - 1, by omega⟩
  obtain ⟨x, hx⟩ : ∃ x, l[q]? = some x := ⟨l[q]'(by omega), List.getElem?_eq_getElem _⟩
  obtain ⟨l0, hl0⟩ : ∃ l0, l0 = l.take q := ⟨_, rfl⟩
  have hll : l0.length = q := by rw [hl0, List.length_take]; omega
  have htk : l.take (q + 1) = l0 ++ [x] := by rw [List.take_add_one, hx, hl0]; rfl
  have hsplit : l = l0 ++ x :: l.drop (q + 1) := by rw [hl0, ← drop_at hx, List.take_append_drop]
  have hmid := rdS_mid (l0 := l0) (r := l.drop (q + 1)) (x := x) (a := a) (by rw [← hsplit, hq, hll]; omega)
  have hfr : frS (l.take (rdS l a)) = frS l0 ++ whole x.2 x.1 := by rw [hq, htk, frS_snoc]
  have hfst : fst0 (l0 ++ [x]) = fst0 l := by rw [← htk, fst0_take (by omega)]
  have hrx := h.range x (List.mem_of_getElem? hx)
  have hsc : scanF l a = ((frS (l.take (rdS l a))).drop (a - fst0 l + 1).toNat, (some x.1, FrameP.bytes (whole x.2 x.1)), (l.drop (q + 1)).map (·.1)) := by
    rw [scan_some hF, hq, Nat.add_sub_cancel, hx]
    rfl
  have hkeep := whole_le x.2 x.1
  have hts := scan_take_some hF (m := q + 1) (by omega)
  rw [htk] at hts
  have e : ((l.drop (q + 1)).map (·.1)).map tB = (l.drop (q + 1)).map fun x => tB x.1 := by rw [List.map_map]; rfl
  have hrep : repairD S (fileB (scanF l a).2.1.1) ((scanF l a).2.1.2 : Nat) ((scanF l a).2.2.map tB) = repairD S (tB x.1) (FrameP.bytes (whole x.2 x.1) : Nat) ((l.drop (q + 1)).map fun x => tB x.1) := by
    rw [hsc, ← e]
    rfl
  unfold RepRes
  rw [hrep]
  unfold repairD
  rcases rem_all (l.drop (q + 1)) i S (l.take (q + 1)) hI hon (by rw [List.take_append_drop]; exact h) with ⟨b1, b2, b3, b4⟩ | ⟨b1, b2, b3, m, b4⟩
  · rw [if_neg (by rw [b1]; decide), if_neg (tB_ne0 hrx)]
    have hI1 := remAll_inv ((l.drop (q + 1)).map fun x => tB x.1).reverse i S hI
    generalize (remAll S ((l.drop (q + 1)).map fun x => tB x.1).reverse).1 = S1 at *
    rw [htk] at b4
    rw [b4.readAt hI1.sorted b2 (by simp)]
    rw [if_neg (by simp)]
    by_cases hk0 : FrameP.bytes (whole x.2 x.1) = 0
    · rw [if_pos (by omega)]
      have hw := whole_zero hk0
      rw [hw, List.append_nil] at hfr
      rcases b4.remove hI1.sorted b2 with ⟨c1, c2, _, c4⟩ | ⟨c1, c2, c3, c4⟩
      · refine .inl ⟨c1, c2, l0, c4, ?_, ?_⟩
        · right
          obtain ⟨m1, m2, m3, m4⟩ := hmid x rfl
          have hne : l0 ≠ [] := fun e => by
            rw [e] at hfr
            exact hF (.inl (by rw [hfr]; rfl))
          have hf0 : fst0 l0 = fst0 l := by
            rw [hl0, fst0_take]
            rcases Nat.eq_zero_or_pos q with h0 | h0
            · exact absurd (List.eq_nil_of_length_eq_zero (by omega)) hne
            · exact h0
          obtain ⟨g1, _⟩ := scan_same hF (l' := l0) (by rw [m2, List.take_length, hfr]) hf0
          refine ⟨g1, m2, l0.dropLast, l0.getLast hne, (List.dropLast_concat_getLast hne).symm, m3 _ (List.getLast_mem hne), ?_⟩
          rcases Nat.eq_zero_or_pos (l0.getLast hne).2.length with h0 | h0
          · exfalso
            have hd := List.dropLast_concat_getLast hne
            have e0 : ∀ D : Sgs, l0.dropLast ++ l0.getLast hne :: (x :: D) = l0 ++ x :: D := fun D => by
              have e1 : l0.dropLast ++ l0.getLast hne :: (x :: D) = (l0.dropLast ++ [l0.getLast hne]) ++ x :: D := by simp
              rw [e1, hd]
            have e2 : l0.dropLast ++ l0.getLast hne :: (x :: l.drop (q + 1)) = l := by rw [e0, ← hsplit]
            have hlt : l0.dropLast.length < rdS (l0.dropLast ++ l0.getLast hne :: (x :: l.drop (q + 1))) a := by
              rw [e2, hq, List.length_dropLast]
              omega
            obtain ⟨_, _, _, n4⟩ := rdS_mid hlt (l0.getLast hne) rfl
            rw [e2] at n4
            have e3 : frS l0 = frS l0.dropLast := by
              conv => lhs; rw [← hd]
              rw [frS_snoc, whole_zero (by have := whole_le (l0.getLast hne).2 (l0.getLast hne).1; omega), List.append_nil]
            rw [← hsplit, e3] at m4
            have hr := h.rise
            rw [hsplit, List.map_append, List.pairwise_append] at hr
            have := hr.2.2 (l0.getLast hne).1 (List.mem_map_of_mem (List.getLast_mem hne)) x.1 (by simp)
            omega
          · exact h0
        · obtain ⟨m1, m2, m3, m4⟩ := hmid x rfl
          have hne : l0 ≠ [] := fun e => by
            rw [e] at hfr
            exact hF (.inl (by rw [hfr]; rfl))
          exact (scan_same hF (l' := l0) (by rw [m2, List.take_length, hfr]) (by
            rw [hl0, fst0_take]
            rcases Nat.eq_zero_or_pos q with h0 | h0
            · exact absurd (List.eq_nil_of_length_eq_zero (by omega)) hne
            · exact h0)).2
      · exact .inr ⟨c1, c2, fun hf => c3 (b3 hf), l0 ++ [x], c4, hts.2⟩
    · rw [if_neg (by omega)]
      have hsz : (⟨x.2.toArray⟩ : ByteArray).size = x.2.length := by simp [ByteArray.size]
      rw [hsz]
      by_cases hkl : FrameP.bytes (whole x.2 x.1) = x.2.length
      · rw [if_pos (by omega)]
        refine .inl ⟨rfl, b2, l0 ++ [x], b4, .inr ⟨hts.1, ?_, l0, x, rfl, hkl, by omega⟩, hts.2⟩
        rw [(hmid x rfl).1]
        simp
      · rw [if_neg (by omega)]
        rcases b4.cut hI1.sorted b2 (FrameP.bytes (whole x.2 x.1)) hkeep with ⟨c1, c2, _, c4⟩ | ⟨c1, c2, c3, c4⟩
        · obtain ⟨m1, m2, m3, m4⟩ := hmid (x.1, x.2.take (FrameP.bytes (whole x.2 x.1))) rfl
          have hf2 : frS ((l0 ++ [(x.1, x.2.take (FrameP.bytes (whole x.2 x.1)))]).take (rdS (l0 ++ [(x.1, x.2.take (FrameP.bytes (whole x.2 x.1)))]) a)) = frS (l.take (rdS l a)) := by
            rw [m1, List.take_of_length_le (by simp), frS_snoc, hfr, whole_cut]
          have hfs : fst0 (l0 ++ [(x.1, x.2.take (FrameP.bytes (whole x.2 x.1)))]) = fst0 l := by
            rw [← hfst]
            cases l0 <;> rfl
          obtain ⟨g1, g2⟩ := scan_same hF hf2 hfs
          refine .inl ⟨c1, c2, _, c4, .inr ⟨g1, by rw [m1]; simp, l0, _, rfl, ?_, ?_⟩, g2⟩
          · show FrameP.bytes (whole (x.2.take _) x.1) = (x.2.take _).length
            rw [whole_cut, List.length_take]
            omega
          · show 0 < (x.2.take _).length
            rw [List.length_take]
            omega
        · exact .inr ⟨c1, c2, fun hf => c3 (b3 hf), l0 ++ [x], c4, hts.2⟩
  · rw [if_pos (by rw [b1]; decide)]
    refine .inr ⟨b1, b2, b3, l.take (q + 1 + m), ?_, (scan_take_some hF (by omega)).2⟩
    rw [List.take_add]
    exact b4
end Go.Proofs.YtcpmicinibfepaaGreatDoor

namespace Go.Proofs.YtcpmicinibfepaaGreatDoor
open Go.ChangeShapes Go.WideShapes Go.ChangeAt Go.RowKit Go.Deep DiskP NameP FrameP


/-- what a scan of what is repaired tells -/
theorem fin_scan {l : Sgs} {a : Int} (h : FinS l a) : (scanF l a).2.2 = [] ∧ ((scanF l a).2.1 = (none, 0) ∨ ∃ x ∈ l, (scanF l a).2.1 = (some x.1, x.2.length) ∧ 0 < x.2.length) := by
  rcases h with rfl | ⟨h1, h2, l0, x, hl, h3, h4⟩
  · exact ⟨by simp [scanF, frS], .inl (by simp [scanF, frS])⟩
  · rw [scan_some h1, h2]
    refine ⟨by simp, .inr ⟨x, by rw [hl]; simp, ?_, h4⟩⟩
    have hx : l[l.length - 1]? = some x := by rw [hl]; simp
    rw [hx]
    simp only [Option.map_some, Option.getD_some, h3]
theorem fin_repair {S : DS} {l : Sgs} {a : Int} (hs : Sorted S.fs) (hon : S.on = true) (h : RepS S l) (hf : FinS l a) : repairD S (fileB (scanF l a).2.1.1) ((scanF l a).2.1.2 : Nat) ((scanF l a).2.2.map tB) = (S, 0) := by
  obtain ⟨h1, h2⟩ := fin_scan hf
  rw [h1]
  rcases h2 with h2 | ⟨x, hx, h2, h3⟩
  · rw [h2]
    unfold repairD
    have e : remAll S (([] : List Int).map tB).reverse = (S, 0) := rfl
    rw [e]
    simp only
    rw [if_neg (by decide), if_pos (show fileB none = ⟨#[]⟩ from rfl)]
  · rw [h2]
    have hr := h.readAt hs hon hx
    have hsz : (⟨x.2.toArray⟩ : ByteArray).size = x.2.length := by simp [ByteArray.size]
    unfold repairD
    have e : remAll S (([] : List Int).map tB).reverse = (S, 0) := rfl
    rw [e]
    simp only
    rw [if_neg (by decide), if_neg (show ¬ fileB (some x.1) = ⟨#[]⟩ from tB_ne0 (h.range x hx)), show fileB (some x.1) = tB x.1 from rfl, hr, if_neg (by simp), if_neg (by omega), hsz, if_pos rfl]
/-- a repair of a scan's answer -/
theorem repair_law {R : Int} {i j : Nat} {S : DS} {l : Sgs} {a : Int} (hI : DInv R i j S) (hon : S.on = true) (h : RepS S l) : RepRes S l a (repairD S (fileB (scanF l a).2.1.1) ((scanF l a).2.1.2 : Nat) ((scanF l a).2.2.map tB)) := by
  by_cases hF : HasF l a
  · exact repair_some hI hon h hF
  · have := repair_none hI hon h hF
    rw [scan_none hF]
    exact this
end Go.Proofs.YtcpmicinibfepaaGreatDoor

namespace Go.Proofs.YtcpmicinibfepaaGreatDoor
open Go.ChangeShapes Go.WideShapes Go.ChangeAt Go.RowKit Go.Deep DiskP NameP FrameP


def aB : ByteArray := ⟨#[97]⟩
def bB : ByteArray := ⟨#[98]⟩
def tornB : ByteArray := ⟨#[116, 111, 114, 110]⟩
theorem rwk1 (b : ByteArray) (hb : b.size = 17) : putW (placeW 1000 ⟨dA [] 0, 1, 0⟩ 17) b = (⟨dA [⟨tB 1, ⟨#[]⟩ ++ b, 0⟩] 1, 2, 0⟩, 1, 0) := by
  have hP : placeW 1000 ⟨dA [] 0, 1, 0⟩ 17 = (⟨dA [] 0, 1, 0⟩, tB 1, 0) := by
    unfold placeW
    rw [if_pos (show lastW (⟨dA [] 0, 1, 0⟩ : WL).S.fs = ⟨#[]⟩ from rfl)]
  have hA : appendD (dA [] 0) (tB 1) b = (dA [⟨tB 1, ⟨#[]⟩ ++ b, 0⟩] 1, 0) := by
    unfold appendD
    rw [if_neg (by simp [dA]), if_neg (by rw [namedD_tB (by omega)]; simp), if_neg (by simp [dA, used, hb])]
    rfl
  rw [hP]
  unfold putW
  simp only [hA]
  simp
theorem app_1 (x b : ByteArray) (n : Int) (hx : x.size + b.size ≤ 1000) : appendD (dA [⟨tB 1, x, 0⟩] n) (tB 1) b = (dA [⟨tB 1, x ++ b, 0⟩] (n + 1), 0) := by
  unfold appendD
  rw [if_neg (by simp [dA]), if_neg (by rw [namedD_tB (by omega)]; simp), if_neg (by simp [dA, used, has, pos, cmpN_self]; omega)]
  simp [begun, blow, dA, putF, has, pos, cmpN_self]
theorem rwk2 (x b : ByteArray) (hx : x.size = 17) (hb : b.size = 17) : putW (placeW 1000 ⟨dA [⟨tB 1, x, 0⟩] 1, 2, 0⟩ 17) b = (⟨dA [⟨tB 1, x ++ b, 0⟩] 2, 3, 0⟩, 2, 0) := by
  have hr : readD (dA [⟨tB 1, x, 0⟩] 1) (tB 1) = (x, 0) := by simp [readD, dA, has, pos, cmpN_self]
  have hP : placeW 1000 ⟨dA [⟨tB 1, x, 0⟩] 1, 2, 0⟩ 17 = (⟨dA [⟨tB 1, x, 0⟩] 1, 2, 0⟩, tB 1, 0) := by
    unfold placeW
    simp only [dA_fs, last_1, hr, hx]
    rw [if_neg (tB_ne0 (by omega)), if_neg (by simp), if_pos (.inr (by omega))]
  rw [hP]
  unfold putW
  simp only [app_1 x b 1 (by omega)]
  simp
theorem whole_torn : whole (FrameP.enc 1 [97] ++ (FrameP.enc 2 [98] ++ [116, 111, 114, 110])) 1 = [(1, [97]), (2, [98])] := by
  have t1 := take_enc 1 [97] (FrameP.enc 2 [98] ++ [116, 111, 114, 110]) (by omega) (by omega) (by simp)
  have t2 := take_enc 2 [98] [116, 111, 114, 110] (by omega) (by omega) (by simp)
  have n1 : FrameP.enc 1 [97] ++ (FrameP.enc 2 [98] ++ [116, 111, 114, 110]) ≠ [] := by simp
  have n2 : FrameP.enc 2 [98] ++ [116, 111, 114, 110] ≠ [] := by simp
  rw [whole_ok (n := 1) n1 t1 rfl, List.drop_left' (by rw [enc_length]), whole_ok (n := 1 + 1) n2 t2 rfl, List.drop_left' (by rw [enc_length])]
  have t3 : FrameP.take [116, 111, 114, 110] = ((0, []), 0, 3) := by unfold FrameP.take; rw [if_pos (by simp)]
  rw [whole_bad (by simp) t3 (by decide)]
  rfl
end Go.Proofs.YtcpmicinibfepaaGreatDoor

namespace Go.Proofs.YtcpmicinibfepaaGreatDoor
open Go.ChangeShapes Go.WideShapes Go.ChangeAt Go.RowKit Go.Deep DiskP NameP FrameP


/-- the bytes of awake's segment -/
def awL : FrameP.Bs := FrameP.enc 1 [97] ++ (FrameP.enc 2 [98] ++ [116, 111, 114, 110])
theorem awL_len : awL.length = 38 := by unfold awL; simp [enc_length]
theorem scan_two {L : FrameP.Bs} (hw : whole L 1 = [(1, [97]), (2, [98])]) (hl : L.length = 38) : scanF [(1, L)] 1 = ([(2, [98])], (some 1, 34), []) := by
  have hb : FrameP.bytes (whole L 1) = 34 := by rw [hw]; rfl
  have hr : rdS [(1, L)] 1 = 1 := by
    simp only [rdS]
    rw [if_neg (by omega)]
    simp only [cntS]
    rw [if_neg (by simp), if_pos (by rw [hb, hl]; omega)]
  have hf : frS [((1 : Int), L)] = [(1, [97]), (2, [98])] := by
    have : frS [((1 : Int), L)] = whole L 1 := by simp [frS]
    rw [this, hw]
  have hF : HasF [(1, L)] 1 := by
    unfold HasF
    rw [hr, show List.take 1 [((1 : Int), L)] = [(1, L)] from rfl, hf]
    simp [fst0]
  rw [scan_some hF, hr, show List.take 1 [((1 : Int), L)] = [(1, L)] from rfl, hf]
  simp [fst0, hb]
theorem scan_awake : scanF [(1, awL)] 1 = ([(2, [98])], (some 1, 34), []) := scan_two whole_torn awL_len
theorem cut_awake (y : ByteArray) (hy : y.size = 38) : cutD (dA [⟨tB 1, y, 0⟩] 3) (tB 1) 34 = (dA [⟨tB 1, y.extract 0 34, 0⟩] 4, 0) := by
  unfold cutD
  rw [if_neg (by simp [dA]), if_neg (by simp [dA, has, pos, cmpN_self]), if_neg (by simp [dA, pos, cmpN_self, hy])]
  simp [opD, blow, dA, modF, cutFl, pos, cmpN_self]
theorem repair_awake (y : ByteArray) (hy : y.size = 38) : repairD (dA [⟨tB 1, y, 0⟩] 3) (tB 1) 34 [] = (dA [⟨tB 1, y.extract 0 34, 0⟩] 4, 0) := by
  have e : remAll (dA [⟨tB 1, y, 0⟩] 3) ([] : List ByteArray).reverse = (dA [⟨tB 1, y, 0⟩] 3, 0) := rfl
  have hr : readD (dA [⟨tB 1, y, 0⟩] 3) (tB 1) = (y, 0) := by simp [readD, dA, has, pos, cmpN_self]
  unfold repairD
  rw [e]
  simp only
  rw [if_neg (by decide), if_neg (tB_ne0 (by omega)), hr, if_neg (by simp), if_neg (by omega), if_neg (by rw [hy]; omega), cut_awake y hy]
theorem segs_awake (y : ByteArray) (hy : y.data.toList = awL) : SegsD (dA [⟨tB 1, y, 0⟩] 3) [(1, awL)] := by
  have hs := tB_size 1
  refine ⟨rfl, by simp [Sorted, dA], by simp [dA], fun s h => ?_, ?_, fun k x hx => ?_, ?_⟩
  · simp [names, dA] at h
    subst h
    omega
  · show numsX 1 [tB 1] = [1]
    exact numsX_1
  · cases k with
    | zero =>
      simp at hx
      subst hx
      refine ⟨?_, by show awL.length ≤ 1000000; rw [awL_len]; omega⟩
      have hr : readD (dA [⟨tB 1, y, 0⟩] 3) (tB 1) = (y, 0) := by simp [readD, dA, has, pos, cmpN_self]
      show readD (dA [⟨tB 1, y, 0⟩] 3) (tB 1) = (⟨awL.toArray⟩, 0)
      rw [hr, ← hy]
    | succ k => simp at hx
  · have : frS [((1 : Int), awL)] = whole awL 1 := by simp [frS]
    rw [this, show whole awL 1 = [(1, [97]), (2, [98])] from whole_torn]
    simp
end Go.Proofs.YtcpmicinibfepaaGreatDoor
