/- Walks of layer 34 (manifest) and of its reference: the bytes of any, and what any bytes tell · Walks of layer 34 (manifest): what any bytes tell · Walks of the document's answer for layer 34: the bytes of any, and what any bytes tell. -/
import Derived.Test.YtabccphcoojbjaaGreatDoorPAe
import Derived.Test.YtabccphcoojbjaaGreatDoorPAi
import Derived.Test.YtabccphcoojbjaaGreatDoorPAp
import Derived.Test.YtabccphcoojbjaaGreatDoorPAf
namespace Go.Proofs.YtabccphcoojbjaaGreatDoor
open Go.ChangeShapes Go.WideShapes Go.ChangeAt Go.RowKit Go.Deep BigP ManP


/-- bytes as a text -/
def tx (l : List UInt8) : ByteArray := ⟨l.toArray⟩
theorem tx_size (l : List UInt8) : (tx l).size = l.length := by show l.toArray.size = _; simp
theorem tx_toList (l : List UInt8) : (tx l).data.toList = l := by unfold tx; simp
theorem tx_back (s : ByteArray) : tx s.data.toList = s := by unfold tx; cases s; simp
theorem tx_app (a b : List UInt8) : tx a ++ tx b = tx (a ++ b) := by
  apply ByteArray.ext
  rw [ByteArray.data_append]
  show a.toArray ++ b.toArray = (a ++ b).toArray
  simp
theorem big4_l (u : Nat) : big 4 u = [UInt8.ofNat (u / 16777216 % 256), UInt8.ofNat (u / 65536 % 256), UInt8.ofNat (u / 256 % 256), UInt8.ofNat (u % 256)] := by
  simp only [big, List.nil_append, List.cons_append, Nat.div_div_eq_div_mul]
theorem big4_l' (u : Nat) (hu : u < 4294967296) : big 4 u = [UInt8.ofNat (u / 16777216), UInt8.ofNat (u / 65536 % 256), UInt8.ofNat (u / 256 % 256), UInt8.ofNat (u % 256)] := by
  rw [big4_l, show u / 16777216 % 256 = u / 16777216 by omega]

theorem Tryz.cells_main : Tryz.prog.cellsOf 23 = 2 := by kernel_rfl
set_option maxRecDepth 100000 in
theorem open_main {H : Type} {enc : TypeId × Value → H} {w : World} {base : Nat} {spare : Nat → Bool} {held : Bool} {r : Reach} {b0 : Nat} {v : Value} {d : DataW H} {p : List MemPlace}
    (hv : Value.okWide Tryz.prog w r b0 23 v) (h : DataW.Trod enc Tryz.prog w base spare held 23 v d p) : ∃ a : Int × Int, v = .agg #[.int .i64 a.1, .int .i64 a.2] ∧ I64 a.1 ∧ I64 a.2 := by
  obtain ⟨⟨l⟩, rfl, hsz, hg⟩ := open_struct Tryz.underlying23 (by kernel_rfl) Tryz.cells_main hv h
  match l, hsz with
  | [c0, c1], _ =>
    obtain ⟨c, y, n, hc, h0⟩ := hg 0 _ rfl
    obtain rfl : c0 = c := by simpa using hc
    obtain ⟨a0, rfl, w0⟩ := cell_int Tryz.underlying3 h0
    obtain ⟨c, y, n, hc, h1⟩ := hg 1 _ rfl
    obtain rfl : c1 = c := by simpa using hc
    obtain ⟨a1, rfl, w1⟩ := cell_int Tryz.underlying3 h1
    exact ⟨(a0, a1), rfl, I64_of_wf w0, I64_of_wf w1⟩

theorem crc_Sum1 (s : ByteArray) (hs : s.size ≤ maxLen) (w : World) : Calls Tryz.prog 63 #[.slice (some ⟨w.heap.size, 0, none⟩) 1 1] (w.alloc (.cells #[.string s] 9)) fun e w' => e = .returned (.int .i64 ((FrameP.crc s.data.toList : Nat) : Int)) ∧ Below w.heap.size w w' := by
  have h := crc_Sum [s] w.heap.size 1 (by simp) (by simpa using hs) (w.alloc (.cells #[.string s] 9)) (by rw [World.size_alloc]; omega) (fun k x hk => by
    rw [cell_of_row _ _ _ #[.string s] 9 _ (heap_alloc_new w _)]
    match k, hk with
    | 0, hk => simp at hk; subst hk; rfl)
  have e : catL [s] = s.data.toList := by simp [catL]
  rw [e] at h
  refine h.mono ?_
  rintro e w' ⟨rfl, b⟩
  exact ⟨rfl, below_step b ((Below.refl _ w).alloc (Nat.le_refl _) _)⟩

set_option maxRecDepth 100000 in
theorem man_sum (s : ByteArray) (hs : s.size ≤ maxLen) (w : World) : Calls Tryz.prog 30 #[.string s] w fun e w' => e = .returned (.string (tx (crc4 s.data.toList))) ∧ Below w.heap.size w w' := by
  have HS := Lib.hid (crc_Sum1 s hs)
  have hv := FrameP.crc_lt s.data.toList
  unfold crc4
  generalize FrameP.crc s.data.toList = v at HS hv
  go_enter Tryz.func30, Tryz.ntmps30
  go_wp2_with (go_at_call 63; (with_reducible refine (HS.out _).mono ?_); rintro e w1 ⟨rfl, b1⟩)
  go_ret
  exact ⟨by rw [big4_l' v hv]; rfl, by (repeat (first | assumption | exact Below.refl _ _ | refine below_step (by assumption) ?_ | refine below_alloc' _ ?_ | refine below_drewN ?_ _ | refine Below.drew ?_))⟩

set_option maxRecDepth 100000 in
theorem ref31_Sum (s : ByteArray) (hs : s.size ≤ maxLen) (w : World) : Calls Tryz.prog 32 #[.string s] w fun e w' => e = .returned (.string (tx (crc4 s.data.toList))) ∧ Below w.heap.size w w' := by
  have HS' : ∀ W, Calls Tryz.prog 65 #[.string s] W fun e w' => e = .returned (.int .i64 ((FrameP.crc s.data.toList : Nat) : Int)) ∧ W = w' := fun W => gossamerref02_Sum s hs W
  have HS := Lib.hid HS'
  clear HS'
  have hv := FrameP.crc_lt s.data.toList
  unfold crc4
  generalize FrameP.crc s.data.toList = v at HS hv
  go_enter Tryz.func32, Tryz.ntmps32
  go_wp2_with (go_at_call 65; (with_reducible refine (HS.out _).mono ?_); rintro e w1 ⟨rfl, rfl⟩)
  go_ret
  exact ⟨by rw [big4_l' v hv]; rfl, by (repeat (first | assumption | exact Below.refl _ _ | refine below_step (by assumption) ?_ | refine below_alloc' _ ?_ | refine below_drewN ?_ _ | refine Below.drew ?_))⟩

theorem man_may (m : Mn) (w : World) : Calls Tryz.prog 27 #[.agg #[.int .i64 m.1, .int .i64 m.2]] w fun e w' => e = .returned (.bool (mayM m)) ∧ Below w.heap.size w w' := by
  obtain ⟨a, b⟩ := m
  simp only
  have HM := Lib.hid (show mayM (a, b) = (decide (0 < a) && (decide (0 ≤ b) && !decide (a = b))) from rfl)
  by_cases h1 : 0 < a
  · by_cases h2 : 0 ≤ b
    · by_cases h3 : a = b
      · have h4 : (a != b) = false := by simp [h3]
        rw [HM.out, decide_eq_true h1, decide_eq_true h2, decide_eq_true h3]
        clear h3
        go_enter Tryz.func27, Tryz.ntmps27
        go_wp2_with fail
        go_ret
        exact ⟨rfl, by (repeat (first | assumption | exact Below.refl _ _ | refine below_step (by assumption) ?_ | refine below_alloc' _ ?_ | refine below_drewN ?_ _ | refine Below.drew ?_))⟩
      · have h4 : (a != b) = true := by simp [h3]
        rw [HM.out, decide_eq_true h1, decide_eq_true h2, decide_eq_false h3]
        clear h3
        go_enter Tryz.func27, Tryz.ntmps27
        go_wp2_with fail
        go_ret
        exact ⟨rfl, by (repeat (first | assumption | exact Below.refl _ _ | refine below_step (by assumption) ?_ | refine below_alloc' _ ?_ | refine below_drewN ?_ _ | refine Below.drew ?_))⟩
    · rw [HM.out, decide_eq_true h1, decide_eq_false h2]
      go_enter Tryz.func27, Tryz.ntmps27
      go_wp2_with fail
      go_ret
      exact ⟨rfl, by (repeat (first | assumption | exact Below.refl _ _ | refine below_step (by assumption) ?_ | refine below_alloc' _ ?_ | refine below_drewN ?_ _ | refine Below.drew ?_))⟩
  · rw [HM.out, decide_eq_false h1]
    go_enter Tryz.func27, Tryz.ntmps27
    go_wp2_with fail
    go_ret
    exact ⟨rfl, by (repeat (first | assumption | exact Below.refl _ _ | refine below_step (by assumption) ?_ | refine below_alloc' _ ?_ | refine below_drewN ?_ _ | refine Below.drew ?_))⟩
theorem box_of2 {w W : World} {t : TypeId} {c : Array Value} (hb : Below (w.heap.size + 1) (w.alloc (.cells c t)) W) (j : Nat) : W.cell? ⟨w.heap.size, j, none⟩ = c[j]? := by
  rw [hb.cell (p := ⟨w.heap.size, j, none⟩) (by show w.heap.size < _; omega)]
  exact cell_of_row _ _ _ c t _ (heap_alloc_new w _)
theorem body_len (m : Mn) : (bodyM m).length ≤ 20 := by
  have a := putI_len m.1
  have b := putI_len m.2
  unfold bodyM
  rw [List.length_append]
  omega

set_option maxRecDepth 100000 in
theorem man_Put (m : Mn) (i1 : I64 m.1) (i2 : I64 m.2) (w : World) : Calls Tryz.prog 6 #[.agg #[.int .i64 m.1, .int .i64 m.2]] w fun e w' => e = .returned (.tuple #[.string (tx (putM m).1), .int .i64 (putM m).2]) ∧ Below w.heap.size w w' := by
  have HM := Lib.hid (man_may m)
  have hbl := body_len m
  have HP := Lib.hid (show putM m = if mayM m then (bodyM m ++ crc4 (bodyM m), 0) else ([], 1) from rfl)
  cases hm : mayM m with
  | false =>
    rw [hm] at HM HP
    rw [HP.out]
    obtain ⟨a, b⟩ := m
    simp only
    clear HP hbl hm
    go_enter Tryz.func6, Tryz.ntmps6
    go_wp2_with (go_at_call 27; (with_reducible refine (HM.out _).mono ?_); rintro e w1 ⟨rfl, b1⟩)
    go_ret2
    exact ⟨rfl, by (repeat (first | assumption | exact Below.refl _ _ | refine below_step (by assumption) ?_ | refine below_alloc' _ ?_ | refine below_drewN ?_ _ | refine Below.drew ?_))⟩
  | true =>
    rw [hm] at HM HP
    rw [HP.out, if_pos rfl]
    have hl1 := putI_len m.1
    have HN1' : ∀ W : World, Calls Tryz.prog 28 #[.pointer (some ⟨W.heap.size, 0, none⟩), .int .i64 m.1] (W.alloc (.cells #[.pointer none, .slice none 0 0] 61)) fun e w' => e = .returned (.tuple #[]) ∧ Wr W.heap.size (VariP.putI m.1) w' ∧ Below W.heap.size W w' := fun W =>
      (pack_Num W.heap.size [] m.1 i1 _ (Wr.new W) (by simp)).mono (by rintro e w' ⟨rfl, q, b, _⟩; exact ⟨rfl, by simpa using q, ((Below.refl _ W).alloc (Nat.le_refl _) _).trans b⟩)
    have HN2' : ∀ (b : Nat) (W : World), Wr b (VariP.putI m.1) W → Calls Tryz.prog 28 #[.pointer (some ⟨b, 0, none⟩), .int .i64 m.2] W fun e w' => e = .returned (.tuple #[]) ∧ Wr b (bodyM m) w' ∧ Below b W w' := fun b W h =>
      (pack_Num b _ m.2 i2 W h (by omega)).mono (by rintro e w' ⟨rfl, q, b, _⟩; exact ⟨rfl, q, b⟩)
    have HB' : ∀ (b : Nat) (W : World), Wr b (bodyM m) W → Calls Tryz.prog 29 #[.pointer (some ⟨b, 0, none⟩)] W fun e w' => e = .returned (.string (tx (bodyM m))) ∧ Wr b (bodyM m) w' ∧ Below b W w' := fun b W h =>
      (pack_Bytes b _ W h).mono (by rintro e w' ⟨rfl, q, b, _⟩; exact ⟨rfl, q, b⟩)
    have HS' : ∀ W : World, Calls Tryz.prog 30 #[.string (tx (bodyM m))] W fun e w' => e = .returned (.string (tx (crc4 (bodyM m)))) ∧ Below W.heap.size W w' := fun W => by
      have := man_sum (tx (bodyM m)) (by rw [tx_size]; unfold maxLen; omega) W
      rw [tx_toList] at this
      exact this
    have HN1 := Lib.hid HN1'
    have HN2 := Lib.hid HN2'
    have HB := Lib.hid HB'
    have HS := Lib.hid HS'
    rw [← tx_app]
    have hs1 : (tx (bodyM m)).size ≤ 20 := by rw [tx_size]; exact hbl
    have hs2 : (tx (crc4 (bodyM m))).size ≤ 4 := by rw [tx_size, crc4_len]; exact Nat.le_refl _
    clear HN1' HN2' HB' HS' HP hm hbl hl1
    generalize tx (bodyM m) = x1 at *
    generalize tx (crc4 (bodyM m)) = x2 at *
    generalize bodyM m = bd at *
    generalize VariP.putI m.1 = pa at *
    obtain ⟨a, b⟩ := m
    simp only at *
    have HC := Lib.hid (fun (W : World) (hb : Below (w.heap.size + 1) (w.alloc (.cells #[.int .i64 a, .int .i64 b] 23)) W) => (⟨box_of2 hb 0, box_of2 hb 1⟩ : W.cell? ⟨w.heap.size, 0, none⟩ = some (.int .i64 a) ∧ W.cell? ⟨w.heap.size, 1, none⟩ = some (.int .i64 b)))
    have hle : (w.alloc (.cells #[.int .i64 a, .int .i64 b] 23)).heap.size = w.heap.size + 1 := World.size_alloc _ _
    have HLE := Lib.hid hle
    clear hle
    go_enter Tryz.func6, Tryz.ntmps6
    go_wp2_with (first
      | (go_at_call 27; (with_reducible refine (HM.out _).mono ?_); rintro e w1 ⟨rfl, b1⟩; rw [HLE.out] at b1; have b1z := b1.size; rw [HLE.out] at b1z; obtain ⟨z0, z1⟩ := HC.out _ (b1.alloc (by omega) (.cells #[.pointer none, .slice none 0 0] 61)))
      | (go_at_call 28; (with_reducible refine (HN1.out _).mono ?_); rintro e w2 ⟨rfl, q2, b2⟩; have b2' := b1.trans (b2.mono b1z); obtain ⟨y0, y1⟩ := HC.out _ b2')
      | (go_at_call 28; (with_reducible refine (HN2.out _ _ q2).mono ?_); rintro e w3 ⟨rfl, q3, b3⟩; have b3' := b2'.trans (b3.mono b1z))
      | (go_at_call 29; (with_reducible refine (HB.out _ _ q3).mono ?_); rintro e w4 ⟨rfl, q4, b4⟩; have b4' := b3'.trans (b4.mono b1z))
      | (go_at_call 29; (with_reducible refine (HB.out _ _ q4).mono ?_); rintro e w5 ⟨rfl, q5, b5⟩; have b5' := b4'.trans (b5.mono b1z))
      | (go_at_call 30; (with_reducible refine (HS.out _).mono ?_); rintro e w6 ⟨rfl, b6⟩))
    go_ret2
    exact ⟨rfl, below_step b6 (((Below.refl _ w).alloc (Nat.le_refl _) _).trans (b5'.mono (by omega)))⟩
end Go.Proofs.YtabccphcoojbjaaGreatDoor

namespace Go.Proofs.YtabccphcoojbjaaGreatDoor
open Go.ChangeShapes Go.WideShapes Go.ChangeAt Go.RowKit Go.Deep BigP ManP


theorem mbox_cells {B : Nat} {T : TypeId} {cs : Array Value} {w : World} (h : w.heap[B]? = some (.cells cs T (0, 0))) : ∀ j, w.cell? ⟨B, j, none⟩ = cs[j]? := fun j => by rw [cell_of_row _ _ _ _ T _ h]
theorem mbox_free {w : World} {B : Nat} {T : TypeId} {cs : Array Value} (h : w.heap[B]? = some (.cells cs T (0, 0))) : ∀ j, w.frozen? ⟨B, j, none⟩ = false := fun j => Lib.frozen_of_heap h j
theorem mbelow_own {w W : World} (h : Below w.heap.size w W) (j : Nat) (v : Value) : Below w.heap.size w (W.setCell ⟨w.heap.size, j, none⟩ v) := h.setCell (Nat.le_refl _) v
theorem mbox_of {w W : World} {o : Obj} (hb : Below (w.heap.size + 1) (w.alloc o) W) : W.heap[w.heap.size]? = some o := (hb.block w.heap.size (by omega)).trans (heap_alloc_new w o)
theorem mlater {w W : World} {t : TypeId} {cs : Array Value} (hb : Below (w.alloc (.cells cs t)).heap.size (w.alloc (.cells cs t)) W) : ∀ j, W.cell? ⟨w.heap.size, j, none⟩ = cs[j]? := fun j => by
  rw [World.size_alloc] at hb
  exact mbox_cells (mbox_of hb) j
/-- what is told of bytes, in parts -/
theorem takeM_parts (l : List UInt8) (h4 : ¬ l.length < 4) : takeM l = if crc4 (l.take (l.length - 4)) ≠ l.drop (l.length - 4) then ((0, 0), 4) else if (readM (l.take (l.length - 4))).2 ≠ 0 then ((0, 0), (readM (l.take (l.length - 4))).2) else if mayM (readM (l.take (l.length - 4))).1 = false then ((0, 0), 2) else ((readM (l.take (l.length - 4))).1, 0) := by
  unfold takeM
  rw [if_neg h4]
theorem tx_beq (a b : List UInt8) : ((tx a).toList == (tx b).toList) = decide (a = b) := by
  rw [Lib.toList_data, Lib.toList_data, tx_toList, tx_toList, Bool.eq_iff_iff]
  simp
theorem rNum_st (tk : List UInt8) : (PackP.rNum (tk, 0)).2.1.length ≤ tk.length := by
  unfold PackP.rNum
  rw [if_neg (by simp)]
  simp only
  split
  · exact Nat.le_refl _
  · rw [List.length_drop]; omega

set_option maxRecDepth 100000 in
set_option maxHeartbeats 2000000 in
theorem man_Take (s : ByteArray) (hs : s.size ≤ 100000) (w : World) :
    Calls Tryz.prog 8 #[.string s] w fun e w' => e = .returned (.tuple #[.agg #[.int .i64 (takeM s.data.toList).1.1, .int .i64 (takeM s.data.toList).1.2], .int .i64 (takeM s.data.toList).2]) ∧ Below w.heap.size w w' := by
  obtain ⟨l, rfl⟩ : ∃ l, s = tx l := ⟨s.data.toList, (tx_back s).symm⟩
  rw [tx_toList]
  have hsz := tx_size l
  by_cases h4 : l.length < 4
  · have e : takeM l = ((0, 0), 3) := by unfold takeM; rw [if_pos h4]
    rw [e]
    have h4' : ((tx l).size : Int) < 4 := by omega
    clear e hsz h4
    generalize tx l = s at *
    go_enter Tryz.func8, Tryz.ntmps8
    go_wp2_with fail
    refine bodyPost_ret (v := .tuple #[.agg #[.int .i64 0, .int .i64 0], .int .i64 3]) (by simp [results, Tryz.results8, go_sem]) rfl ⟨rfl, ?_⟩
    (repeat (first | assumption | exact Below.refl _ _ | refine below_step (by assumption) ?_ | refine below_alloc' _ ?_ | refine below_drewN ?_ _ | refine Below.drew ?_))
  · rw [takeM_parts l h4]
    obtain ⟨tk, htk⟩ : ∃ tk, tk = l.take (l.length - 4) := ⟨_, rfl⟩
    obtain ⟨dr, hdr⟩ : ∃ dr, dr = l.drop (l.length - 4) := ⟨_, rfl⟩
    have e1 : (tx l).extract 0 ((tx l).size - 4) = tx tk := by rw [htk, hsz]; exact bl_take l _
    have htl : tk.length = l.length - 4 := by rw [htk, List.length_take]; omega
    have e2 : (tx l).extract (tx tk).size (tx l).size = tx dr := by rw [hdr, tx_size, htl, hsz]; exact bl_drop l _ _ rfl
    rw [← htk, ← hdr]
    have HS' : ∀ W : World, Calls Tryz.prog 30 #[.string (tx tk)] W fun e w' => e = .returned (.string (tx (crc4 tk))) ∧ Below W.heap.size W w' := fun W => by
      have := man_sum (tx tk) (by rw [tx_size]; unfold maxLen; omega) W
      rw [tx_toList] at this
      exact this
    have HS := Lib.hid HS'
    have hcmp : ((tx (crc4 tk)).toList == ((tx l).extract (tx tk).size (tx l).size).toList) = decide (crc4 tk = dr) := by rw [e2, tx_beq]
    have h4' : ¬ ((tx l).size : Int) < 4 := by omega
    have htle : (tx tk).size ≤ (tx l).size := by rw [tx_size, hsz]; omega
    have hsm : (tx l).size ≤ 100000 := hs
    have HE1 := Lib.hid e1
    have hW0 : w.heap.size + 1 ≤ (w.alloc (.cells #[.int .i64 0, .int .i64 0] 23)).heap.size := by rw [World.size_alloc]; omega
    have HK := Lib.hid (fun (W : World) (hb : Below (w.heap.size + 1) (w.alloc (.cells #[.int .i64 0, .int .i64 0] 23)) W) => (⟨mbox_cells (mbox_of hb), mbox_free (mbox_of hb), ((Below.refl _ w).alloc (Nat.le_refl _) _).trans (hb.mono (by omega)), by have := hb.size; omega⟩ : (∀ j, W.cell? ⟨w.heap.size, j, none⟩ = #[Value.int .i64 0, .int .i64 0][j]?) ∧ (∀ j, W.frozen? ⟨w.heap.size, j, none⟩ = false) ∧ Below w.heap.size w W ∧ w.heap.size + 1 ≤ W.heap.size))
    have HGR := Lib.hid (fun (W W' : World) (row : Option Nat) (hb : Below (w.heap.size + 1) (w.alloc (.cells #[.int .i64 0, .int .i64 0] 23)) W) (hg : W.grownBy W' row) (hr : ∀ k, row = some k → w.heap.size + 1 ≤ k) => hb.grown hg (by have := hb.size; omega) hr)
    have htl2 : tk.length ≤ 100000 := by omega
    have hs1 := rNum_st tk
    have HN := Lib.hid (pack_New (tx tk))
    have HN1' : ∀ b W, Rdr 99 b (tk, 0) W → Calls Tryz.prog 34 #[.pointer (some ⟨b, 0, none⟩)] W (RdPost 99 b (PackP.rNum (tk, 0)).2 (.int .i64 (PackP.rNum (tk, 0)).1) W) := fun b W h => pack_Num_at b (tk, 0) (by simp only; omega) W h
    have HN2' : ∀ b W, Rdr 99 b (PackP.rNum (tk, 0)).2 W → Calls Tryz.prog 34 #[.pointer (some ⟨b, 0, none⟩)] W (RdPost 99 b (PackP.rNum (PackP.rNum (tk, 0)).2).2 (.int .i64 (PackP.rNum (PackP.rNum (tk, 0)).2).1) W) := fun b W h => pack_Num_at b _ (by omega) W h
    have HEN' : ∀ b W, Rdr 99 b (PackP.rNum (PackP.rNum (tk, 0)).2).2 W → Calls Tryz.prog 35 #[.pointer (some ⟨b, 0, none⟩)] W fun e w' => e = .returned (.int .i64 (readM tk).2) ∧ W = w' := fun b W h => pack_End b _ W h
    have HM' : ∀ W, Calls Tryz.prog 27 #[.agg #[.int .i64 (PackP.rNum (tk, 0)).1, .int .i64 (PackP.rNum (PackP.rNum (tk, 0)).2).1]] W fun e w' => e = .returned (.bool (mayM (readM tk).1)) ∧ Below W.heap.size W w' := fun W => man_may (readM tk).1 W
    have hr1 : (readM tk).1 = ((PackP.rNum (tk, 0)).1, (PackP.rNum (PackP.rNum (tk, 0)).2).1) := rfl
    have HR1 := Lib.hid hr1
    rw [tx_toList] at HN
    have HN1 := Lib.hid HN1'
    have HN2 := Lib.hid HN2'
    have HEN := Lib.hid HEN'
    have HM := Lib.hid HM'
    clear HS' HN1' HN2' HEN' HM' e1 e2 hsz hs htl h4 htl2 hs1 hr1
    generalize (readM tk).2 = en at *
    generalize mayM (readM tk).1 = my at *
    generalize (readM tk).1 = rd at *
    generalize (PackP.rNum (PackP.rNum (tk, 0)).2).1 = rb at *
    generalize (PackP.rNum (PackP.rNum (tk, 0)).2).2 = st2 at *
    generalize (PackP.rNum (tk, 0)).1 = ra at *
    generalize (PackP.rNum (tk, 0)).2 = st1 at *
    by_cases hc : crc4 tk ≠ dr
    · rw [if_pos hc]
      rw [decide_eq_false hc] at hcmp
      clear hc HN HN1 HN2 HEN HM HR1
      generalize tx (crc4 tk) = x2 at *
      generalize tx tk = x1 at *
      go_enter Tryz.func8, Tryz.ntmps8
      go_wp2_with fail
      rw [HE1.out]
      refine wp_region_later (w.heap.size + 1) (by kernel_rfl) (by kernel_rfl) ?_
      repeat (go_big_quiet_step ((first
        | (go_at_call 30; with_reducible exact later_of _ hW0 (HS.out _)))))
      refine wpQuiet_nil ?_; intro _ hw'; obtain ⟨u, hw''⟩ := hw'; subst hw''
      obtain ⟨cA, fA, bA, _⟩ := HK.out _ u.h
      go_wp2_with fail
      refine bodyPost_ret (v := .tuple #[.agg #[.int .i64 0, .int .i64 0], .int .i64 4]) (by simp [results, Tryz.results8, go_sem, cA]) rfl ⟨rfl, ?_⟩
      repeat (with_reducible refine mbelow_own ?_ _ _)
      exact bA
    · rw [if_neg hc]
      rw [decide_eq_true (Decidable.not_not.1 hc)] at hcmp
      clear hc
      generalize hx2 : tx (crc4 tk) = x2 at *
      generalize hx1 : tx tk = x1 at *
      clear hx1 hx2
      by_cases hen : en = 0
      · subst hen
        rw [if_neg (by simp)]
        cases my with
        | false =>
          rw [if_pos rfl]
          clear HR1
          go_enter Tryz.func8, Tryz.ntmps8
          go_wp2_with fail
          rw [HE1.out]
          refine wp_region_later (w.heap.size + 1) (by kernel_rfl) (by kernel_rfl) ?_
          repeat (go_big_quiet_step ((first
            | (go_at_call 30; with_reducible exact later_of _ hW0 (HS.out _)))))
          refine wpQuiet_nil ?_; intro _ hw'; obtain ⟨u, hw''⟩ := hw'; subst hw''
          have hb := u.h
          obtain ⟨cA, fA, bA, hbz⟩ := HK.out _ hb
          go_wp2_with (first
        | (go_at_call 33; (with_reducible refine (HN.out _).mono ?_); rintro e w1 ⟨rfl, q1, g1⟩; have hb1 := HGR.out _ _ _ hb g1 (by simp))
        | (go_at_call 34; (with_reducible refine (HN1.out _ _ q1).mono ?_); rintro e w2 ⟨rfl, q2, g2⟩; have hb2 := HGR.out _ _ _ hb1 g2 (by simpa using hbz))
        | (go_at_call 34; (with_reducible refine (HN2.out _ _ q2).mono ?_); rintro e w3 ⟨rfl, q3, g3⟩; have hb3 := HGR.out _ _ _ hb2 g3 (by simpa using hbz); have hb3z := (HK.out _ hb3).2.2.2; have hb4 := hb3.alloc hb3z (.cells #[.int .i64 ra, .int .i64 rb] 23); obtain ⟨cB, fB, bB, _⟩ := HK.out _ hb4)
        | (go_at_call 35; (with_reducible refine (HEN.out _ _ (q3.kept (World.grownBy_alloc _ _ none) (by simp))).mono ?_); rintro e w4 ⟨rfl, rfl⟩)
        | (go_at_call 27; (with_reducible refine (HM.out _).mono ?_); rintro e w5 ⟨rfl, b5⟩; have z5 := mlater b5; have hb5 := hb4.trans (b5.mono (by rw [World.size_alloc]; omega)); obtain ⟨cC, fC, bC, _⟩ := HK.out _ hb5))
          refine bodyPost_ret (v := .tuple #[.agg #[.int .i64 0, .int .i64 0], .int .i64 2]) (by simp [results, Tryz.results8, go_sem, cC]) rfl ⟨rfl, ?_⟩
          repeat (with_reducible refine mbelow_own ?_ _ _)
          exact bC
        | true =>
          rw [if_neg (by simp), HR1.out]
          clear HR1
          go_enter Tryz.func8, Tryz.ntmps8
          go_wp2_with fail
          rw [HE1.out]
          refine wp_region_later (w.heap.size + 1) (by kernel_rfl) (by kernel_rfl) ?_
          repeat (go_big_quiet_step ((first
            | (go_at_call 30; with_reducible exact later_of _ hW0 (HS.out _)))))
          refine wpQuiet_nil ?_; intro _ hw'; obtain ⟨u, hw''⟩ := hw'; subst hw''
          have hb := u.h
          obtain ⟨cA, fA, bA, hbz⟩ := HK.out _ hb
          go_wp2_with (first
        | (go_at_call 33; (with_reducible refine (HN.out _).mono ?_); rintro e w1 ⟨rfl, q1, g1⟩; have hb1 := HGR.out _ _ _ hb g1 (by simp))
        | (go_at_call 34; (with_reducible refine (HN1.out _ _ q1).mono ?_); rintro e w2 ⟨rfl, q2, g2⟩; have hb2 := HGR.out _ _ _ hb1 g2 (by simpa using hbz))
        | (go_at_call 34; (with_reducible refine (HN2.out _ _ q2).mono ?_); rintro e w3 ⟨rfl, q3, g3⟩; have hb3 := HGR.out _ _ _ hb2 g3 (by simpa using hbz); have hb3z := (HK.out _ hb3).2.2.2; have hb4 := hb3.alloc hb3z (.cells #[.int .i64 ra, .int .i64 rb] 23); obtain ⟨cB, fB, bB, _⟩ := HK.out _ hb4)
        | (go_at_call 35; (with_reducible refine (HEN.out _ _ (q3.kept (World.grownBy_alloc _ _ none) (by simp))).mono ?_); rintro e w4 ⟨rfl, rfl⟩)
        | (go_at_call 27; (with_reducible refine (HM.out _).mono ?_); rintro e w5 ⟨rfl, b5⟩; have z5 := mlater b5; have hb5 := hb4.trans (b5.mono (by rw [World.size_alloc]; omega)); obtain ⟨cC, fC, bC, _⟩ := HK.out _ hb5))
          refine bodyPost_ret (v := .tuple #[.agg #[.int .i64 ra, .int .i64 rb], .int .i64 0]) (by simp [results, Tryz.results8, go_sem, cC]) rfl ⟨rfl, ?_⟩
          repeat (with_reducible refine mbelow_own ?_ _ _)
          exact bC
      · rw [if_pos hen]
        have hee : (en != 0) = true := by rw [bne_iff_ne]; exact hen
        clear hen HR1
        go_enter Tryz.func8, Tryz.ntmps8
        go_wp2_with fail
        rw [HE1.out]
        refine wp_region_later (w.heap.size + 1) (by kernel_rfl) (by kernel_rfl) ?_
        repeat (go_big_quiet_step ((first
          | (go_at_call 30; with_reducible exact later_of _ hW0 (HS.out _)))))
        refine wpQuiet_nil ?_; intro _ hw'; obtain ⟨u, hw''⟩ := hw'; subst hw''
        have hb := u.h
        obtain ⟨cA, fA, bA, hbz⟩ := HK.out _ hb
        go_wp2_with (first
        | (go_at_call 33; (with_reducible refine (HN.out _).mono ?_); rintro e w1 ⟨rfl, q1, g1⟩; have hb1 := HGR.out _ _ _ hb g1 (by simp))
        | (go_at_call 34; (with_reducible refine (HN1.out _ _ q1).mono ?_); rintro e w2 ⟨rfl, q2, g2⟩; have hb2 := HGR.out _ _ _ hb1 g2 (by simpa using hbz))
        | (go_at_call 34; (with_reducible refine (HN2.out _ _ q2).mono ?_); rintro e w3 ⟨rfl, q3, g3⟩; have hb3 := HGR.out _ _ _ hb2 g3 (by simpa using hbz); have hb3z := (HK.out _ hb3).2.2.2; have hb4 := hb3.alloc hb3z (.cells #[.int .i64 ra, .int .i64 rb] 23); obtain ⟨cB, fB, bB, _⟩ := HK.out _ hb4)
        | (go_at_call 35; (with_reducible refine (HEN.out _ _ (q3.kept (World.grownBy_alloc _ _ none) (by simp))).mono ?_); rintro e w4 ⟨rfl, rfl⟩)
        | (go_at_call 27; (with_reducible refine (HM.out _).mono ?_); rintro e w5 ⟨rfl, b5⟩; have z5 := mlater b5; have hb5 := hb4.trans (b5.mono (by rw [World.size_alloc]; omega)); obtain ⟨cC, fC, bC, _⟩ := HK.out _ hb5))
        refine bodyPost_ret (v := .tuple #[.agg #[.int .i64 0, .int .i64 0], .int .i64 en]) (by simp [results, Tryz.results8, go_sem, cB]) rfl ⟨rfl, ?_⟩
        repeat (with_reducible refine mbelow_own ?_ _ _)
        exact bB
end Go.Proofs.YtabccphcoojbjaaGreatDoor

namespace Go.Proofs.YtabccphcoojbjaaGreatDoor
open Go.ChangeShapes Go.WideShapes Go.ChangeAt Go.RowKit Go.Deep BigP ManP


theorem putB_tx (n : Int) : putB n = tx (VariP.putI n) := rfl

set_option maxRecDepth 100000 in
theorem ref34_Put (m : Mn) (i1 : I64 m.1) (i2 : I64 m.2) (w : World) : Calls Tryz.prog 7 #[.agg #[.int .i64 m.1, .int .i64 m.2]] w fun e w' => e = .returned (.tuple #[.string (tx (putM m).1), .int .i64 (putM m).2]) ∧ Below w.heap.size w w' := by
  obtain ⟨a, b⟩ := m
  simp only at *
  have HP := Lib.hid (show putM (a, b) = if mayM (a, b) then (bodyM (a, b) ++ crc4 (bodyM (a, b)), 0) else ([], 1) from rfl)
  have HM := Lib.hid (show mayM (a, b) = (decide (0 < a) && (decide (0 ≤ b) && !decide (a = b))) from rfl)
  by_cases h1 : a < 1
  · have e : mayM (a, b) = false := by rw [HM.out, decide_eq_false (by omega)]; rfl
    rw [HP.out, e]
    clear HP HM e i1 i2
    go_enter Tryz.func7, Tryz.ntmps7
    go_wp2_with fail
    go_ret2
    exact ⟨rfl, by (repeat (first | assumption | exact Below.refl _ _ | refine below_step (by assumption) ?_ | refine below_alloc' _ ?_ | refine below_drewN ?_ _ | refine Below.drew ?_))⟩
  · by_cases h2 : b < 0
    · have e : mayM (a, b) = false := by rw [HM.out, decide_eq_false (p := 0 ≤ b) (by omega)]; simp
      rw [HP.out, e]
      clear HP HM e i1 i2
      go_enter Tryz.func7, Tryz.ntmps7
      go_wp2_with fail
      go_ret2
      exact ⟨rfl, by (repeat (first | assumption | exact Below.refl _ _ | refine below_step (by assumption) ?_ | refine below_alloc' _ ?_ | refine below_drewN ?_ _ | refine Below.drew ?_))⟩
    · by_cases h3 : a = b
      · have e : mayM (a, b) = false := by rw [HM.out, decide_eq_true h3]; simp
        have h4 : (a == b) = true := by simp [h3]
        rw [HP.out, e]
        clear HP HM e i1 i2 h3
        go_enter Tryz.func7, Tryz.ntmps7
        go_wp2_with fail
        go_ret2
        exact ⟨rfl, by (repeat (first | assumption | exact Below.refl _ _ | refine below_step (by assumption) ?_ | refine below_alloc' _ ?_ | refine below_drewN ?_ _ | refine Below.drew ?_))⟩
      · have e : mayM (a, b) = true := by rw [HM.out, decide_eq_true (p := 0 < a) (by omega), decide_eq_true (p := 0 ≤ b) (by omega), decide_eq_false h3]; rfl
        have h4 : (a == b) = false := by simp [h3]
        rw [HP.out, e, if_pos rfl]
        have hbl := body_len (a, b)
        have hx : putB a ++ putB b = tx (bodyM (a, b)) := by rw [putB_tx, putB_tx, tx_app]; rfl
        have HS' : ∀ W : World, Calls Tryz.prog 32 #[.string (putB a ++ putB b)] W fun e w' => e = .returned (.string (tx (crc4 (bodyM (a, b))))) ∧ Below W.heap.size W w' := fun W => by
          rw [hx]
          have := ref31_Sum (tx (bodyM (a, b))) (by rw [tx_size]; unfold maxLen; omega) W
          rw [tx_toList] at this
          exact this
        have HS := Lib.hid HS'
        have HA := Lib.hid (ref_Put a i1)
        have HB := Lib.hid (ref_Put b i2)
        rw [← tx_app, ← hx]
        have hs1 := putB_size a
        have hs2 := putB_size b
        have hs3 : (tx (crc4 (bodyM (a, b)))).size ≤ 4 := by rw [tx_size, crc4_len]; exact Nat.le_refl _
        clear HS' hx hbl HP HM e i1 i2 h3
        generalize tx (crc4 (bodyM (a, b))) = x2 at *
        generalize putB a = pa at *
        generalize putB b = pb at *
        go_enter Tryz.func7, Tryz.ntmps7
        go_wp2_with fail
        have hcell := fun (u : Later (w.heap.size + 1) (w.alloc (.cells #[.int .i64 a, .int .i64 b] 23))) j => later_row u j
        refine wp_region_later (w.heap.size + 1) (by kernel_rfl) (by kernel_rfl) ?_
        repeat (go_big_quiet_step ((first
          | (go_at_call 31; with_reducible exact later_of _ (by simp) (HA.out _))
          | (go_at_call 31; with_reducible exact later_of _ (by simp) (HB.out _)))))
        refine wpQuiet_nil ?_; intro _ hw'; obtain ⟨u, hw''⟩ := hw'; subst hw''
        go_wp2_with (go_at_call 32; (with_reducible refine (HS.out _).mono ?_); rintro e w1 ⟨rfl, b1⟩)
        go_ret2
        exact ⟨rfl, below_step b1 (((Below.refl _ w).alloc (Nat.le_refl _) _).trans (u.h.mono (by omega)))⟩
theorem rNum_I64 (r : PackP.St) : I64 (PackP.rNum r).1 := by
  obtain ⟨l, er⟩ := r
  by_cases he : er = 0
  · subst he
    rcases ht : VariP.take 9 l with ⟨x, k, e⟩
    by_cases h0 : e = 0
    · have h : PackP.rNum (l, 0) = ((x : Int), (l.drop k, 0)) := by
        unfold PackP.rNum
        rw [if_neg (by simp)]
        simp only [ht]
        rw [if_neg (by simp [h0])]
      obtain ⟨_, h1, h2⟩ := PackP.rNum_back _ _ _ h
      rw [h]
      unfold I64
      simp only
      omega
    · have h : (PackP.rNum (l, 0)).1 = 0 := by
        unfold PackP.rNum
        rw [if_neg (by simp)]
        simp only [ht]
        rw [if_pos h0]
      rw [h]
      unfold I64
      omega
  · rw [PackP.rNum_err _ he]
    unfold I64
    simp only
    omega
theorem mbox_set {w : World} {B : Nat} {T : TypeId} {cs : Array Value} (h : w.heap[B]? = some (.cells cs T (0, 0))) (j : Nat) (v : Value) : (w.setCell ⟨B, j, none⟩ v).heap[B]? = some (.cells (cs.setIfInBounds j v) T (0, 0)) := by
  simp [World.setCell, Array.getElem?_modify, h]
theorem lt_of_grown {w w2 : World} {o : Obj} {row : Option Nat} (g : (w.alloc o).grownBy w2 row) : w.heap.size < w2.heap.size := by
  have := g.size
  rw [World.size_alloc] at this
  omega
theorem far_box {w2 w3 : World} {b : Nat} {o : Obj} (g : (w2.alloc o).grownBy w3 (some b)) (h : b < w2.heap.size) : w3.heap[w2.heap.size]? = some o :=
  (g.block w2.heap.size (by rw [World.size_alloc]; omega) (fun e => by have := Option.some.inj e; omega)).trans (heap_alloc_new w2 o)

set_option maxRecDepth 100000 in
set_option maxHeartbeats 2000000 in
theorem ref34_Take (s : ByteArray) (hs : s.size ≤ 100000) (w : World) :
    Calls Tryz.prog 9 #[.string s] w fun e w' => e = .returned (.tuple #[.agg #[.int .i64 (takeM s.data.toList).1.1, .int .i64 (takeM s.data.toList).1.2], .int .i64 (takeM s.data.toList).2]) ∧ Below w.heap.size w w' := by
  obtain ⟨l, rfl⟩ : ∃ l, s = tx l := ⟨s.data.toList, (tx_back s).symm⟩
  rw [tx_toList]
  have hsz := tx_size l
  by_cases h4 : l.length < 4
  · have e : takeM l = ((0, 0), 3) := by unfold takeM; rw [if_pos h4]
    rw [e]
    have h4' : ((tx l).size : Int) < 4 := by omega
    clear e hsz h4
    generalize tx l = s at *
    go_enter Tryz.func9, Tryz.ntmps9
    go_wp2_with fail
    refine bodyPost_ret (v := .tuple #[.agg #[.int .i64 0, .int .i64 0], .int .i64 3]) (by simp [results, Tryz.results9, go_sem]) rfl ⟨rfl, ?_⟩
    (repeat (first | assumption | exact Below.refl _ _ | refine below_step (by assumption) ?_ | refine below_alloc' _ ?_ | refine below_drewN ?_ _ | refine Below.drew ?_))
  · rw [takeM_parts l h4]
    obtain ⟨tk, htk⟩ : ∃ tk, tk = l.take (l.length - 4) := ⟨_, rfl⟩
    obtain ⟨dr, hdr⟩ : ∃ dr, dr = l.drop (l.length - 4) := ⟨_, rfl⟩
    have e1 : (tx l).extract 0 ((tx l).size - 4) = tx tk := by rw [htk, hsz]; exact bl_take l _
    have htl : tk.length = l.length - 4 := by rw [htk, List.length_take]; omega
    have e2 : (tx l).extract ((tx l).size - 4) (tx l).size = tx dr := by rw [hdr, hsz]; exact bl_drop l _ _ rfl
    rw [← htk, ← hdr]
    have HS' : ∀ W : World, Calls Tryz.prog 32 #[.string (tx tk)] W fun e w' => e = .returned (.string (tx (crc4 tk))) ∧ Below W.heap.size W w' := fun W => by
      have := ref31_Sum (tx tk) (by rw [tx_size]; unfold maxLen; omega) W
      rw [tx_toList] at this
      exact this
    have HS := Lib.hid HS'
    have hcmp : ((tx (crc4 tk)).toList == ((tx l).extract ((tx l).size - 4) (tx l).size).toList) = decide (crc4 tk = dr) := by rw [e2, tx_beq]
    have h4' : ¬ ((tx l).size : Int) < 4 := by omega
    have hsm : (tx l).size ≤ 100000 := hs
    have HE1 := Lib.hid e1
    have hW0 : w.heap.size + 1 ≤ (w.alloc (.cells #[.int .i64 0, .int .i64 0] 23)).heap.size := by rw [World.size_alloc]; omega
    have HK := Lib.hid (fun (W : World) (hb : Below (w.heap.size + 1) (w.alloc (.cells #[.int .i64 0, .int .i64 0] 23)) W) => (⟨mbox_cells (mbox_of hb), mbox_free (mbox_of hb), ((Below.refl _ w).alloc (Nat.le_refl _) _).trans (hb.mono (by omega)), by have := hb.size; omega⟩ : (∀ j, W.cell? ⟨w.heap.size, j, none⟩ = #[Value.int .i64 0, .int .i64 0][j]?) ∧ (∀ j, W.frozen? ⟨w.heap.size, j, none⟩ = false) ∧ Below w.heap.size w W ∧ w.heap.size + 1 ≤ W.heap.size))
    have HGR := Lib.hid (fun (W W' : World) (row : Option Nat) (hb : Below (w.heap.size + 1) (w.alloc (.cells #[.int .i64 0, .int .i64 0] 23)) W) (hg : W.grownBy W' row) (hr : ∀ k, row = some k → w.heap.size + 1 ≤ k) => hb.grown hg (by have := hb.size; omega) hr)
    have htl2 : tk.length ≤ 100000 := by omega
    have hs1 := rNum_st tk
    have HN1' : ∀ W : World, Calls Tryz.prog 36 #[.pointer (some ⟨W.heap.size, 0, none⟩)] (W.alloc (.cells #[.string (tx tk), .int .i64 0] 71)) (RdPost 71 W.heap.size (PackP.rNum (tk, 0)).2 (.int .i64 (PackP.rNum (tk, 0)).1) (W.alloc (.cells #[.string (tx tk), .int .i64 0] 71))) := fun W => ref5_Num W.heap.size (tk, 0) (by simp only; omega) _ (by have := Rdr.new 71 (tx tk) W; rwa [tx_toList] at this)
    have HN2' : ∀ b W, Rdr 71 b (PackP.rNum (tk, 0)).2 W → Calls Tryz.prog 36 #[.pointer (some ⟨b, 0, none⟩)] W (RdPost 71 b (PackP.rNum (PackP.rNum (tk, 0)).2).2 (.int .i64 (PackP.rNum (PackP.rNum (tk, 0)).2).1) W) := fun b W h => ref5_Num b _ (by omega) W h
    have HEN' : ∀ b W, Rdr 71 b (PackP.rNum (PackP.rNum (tk, 0)).2).2 W → Calls Tryz.prog 37 #[.pointer (some ⟨b, 0, none⟩)] W fun e w' => e = .returned (.int .i64 (readM tk).2) ∧ W = w' := fun b W h => ref5_End b _ W h
    have HP' : ∀ W, Calls Tryz.prog 7 #[.agg #[.int .i64 (PackP.rNum (tk, 0)).1, .int .i64 (PackP.rNum (PackP.rNum (tk, 0)).2).1]] W fun e w' => e = .returned (.tuple #[.string (tx (putM (readM tk).1).1), .int .i64 (if mayM (readM tk).1 then 0 else 1)]) ∧ Below W.heap.size W w' := fun W => by
      have := ref34_Put (readM tk).1 (rNum_I64 _) (rNum_I64 _) W
      rw [show (putM (readM tk).1).2 = if mayM (readM tk).1 then 0 else 1 by unfold putM; split <;> rfl] at this
      exact this
    have hr1 : (readM tk).1 = ((PackP.rNum (tk, 0)).1, (PackP.rNum (PackP.rNum (tk, 0)).2).1) := rfl
    have HR1 := Lib.hid hr1
    have HN1 := Lib.hid HN1'
    have HN2 := Lib.hid HN2'
    have HEN := Lib.hid HEN'
    have HP := Lib.hid HP'
    clear HS' HN1' HN2' HEN' HP' e1 e2 hsz hs htl h4 htl2 hs1 hr1
    generalize (readM tk).2 = en at *
    generalize tx (putM (readM tk).1).1 = pm at *
    generalize mayM (readM tk).1 = my at *
    generalize (readM tk).1 = rd at *
    generalize (PackP.rNum (PackP.rNum (tk, 0)).2).1 = rb at *
    generalize (PackP.rNum (PackP.rNum (tk, 0)).2).2 = st2 at *
    generalize (PackP.rNum (tk, 0)).1 = ra at *
    generalize (PackP.rNum (tk, 0)).2 = st1 at *
    by_cases hc : crc4 tk = dr
    · rw [if_neg (by simp [hc])]
      rw [decide_eq_true hc] at hcmp
      clear hc
      generalize hx2 : tx (crc4 tk) = x2 at *
      generalize hx1 : tx tk = x1 at *
      clear hx1 hx2
      by_cases hen : en = 0
      · subst hen
        rw [if_neg (by simp)]
        cases my with
        | false =>
          rw [if_pos rfl]
          rw [if_neg (by simp)] at HP
          clear HR1
          go_enter Tryz.func9, Tryz.ntmps9
          go_wp2_with fail
          rw [HE1.out]
          refine wp_region_later (w.heap.size + 1) (by kernel_rfl) (by kernel_rfl) ?_
          repeat (go_big_quiet_step ((first
            | (go_at_call 32; with_reducible exact later_of _ hW0 (HS.out _)))))
          refine wpQuiet_nil ?_; intro _ hw'; obtain ⟨u, hw''⟩ := hw'; subst hw''
          have hb := u.h
          obtain ⟨cA, fA, bA, hbz⟩ := HK.out _ hb
          go_wp2_with (first
        | (go_at_call 36; (with_reducible refine (HN1.out _).mono ?_); rintro e w2 ⟨rfl, q2, g2⟩; have hb1 := hb.alloc hbz (.cells #[.string x1, .int .i64 0] 71); have hb2 := HGR.out _ _ _ hb1 g2 (by simpa using hbz); have hb2z := (HK.out _ hb2).2.2.2; have hb3 := hb2.alloc hb2z (.cells #[.int .i64 ra, .int .i64 0] 23); have hbc := lt_of_grown g2)
        | (go_at_call 36; (with_reducible refine (HN2.out _ _ (q2.kept (World.grownBy_alloc _ _ none) (by simp))).mono ?_); rintro e w3 ⟨rfl, q3, g3⟩; have hb4 := HGR.out _ _ _ hb3 g3 (by simpa using hbz); have kB := far_box g3 hbc; have cB := mbox_cells kB; have fB := mbox_free kB; have kC := mbox_set kB 1 (.int .i64 rb); have cC := mbox_cells kC; have fC := mbox_free kC; have qE : Rdr 71 u.w.heap.size st2 (w3.setCell ⟨w2.heap.size, 1, none⟩ (.int .i64 rb)) := (Below.heap_setCell w3 ⟨w2.heap.size, 1, none⟩ (.int .i64 rb) _ (Nat.ne_of_lt hbc)).trans q3; have hb5 := hb4.setCell (p := ⟨w2.heap.size, 1, none⟩) hb2z (.int .i64 rb); obtain ⟨cD, fD, bD, _⟩ := HK.out _ hb5)
        | (go_at_call 37; (with_reducible refine (HEN.out _ _ qE).mono ?_); rintro e w4 ⟨rfl, rfl⟩)
        | (go_at_call 7; (with_reducible refine (HP.out _).mono ?_); rintro e w5 ⟨rfl, b5⟩; have kE := (b5.block w2.heap.size (Array.getElem?_eq_some_iff.1 kC).1).trans kC; have cE := mbox_cells kE; have fE := mbox_free kE; have hb6 := hb5.trans (b5.mono (HK.out _ hb5).2.2.2); obtain ⟨cF, fF, bF, _⟩ := HK.out _ hb6))
          refine bodyPost_ret (v := .tuple #[.agg #[.int .i64 0, .int .i64 0], .int .i64 2]) (by simp [results, Tryz.results9, go_sem, cF]) rfl ⟨rfl, ?_⟩
          repeat (with_reducible refine mbelow_own ?_ _ _)
          exact bF
        | true =>
          rw [if_neg (by simp), HR1.out]
          rw [if_pos rfl] at HP
          clear HR1
          go_enter Tryz.func9, Tryz.ntmps9
          go_wp2_with fail
          rw [HE1.out]
          refine wp_region_later (w.heap.size + 1) (by kernel_rfl) (by kernel_rfl) ?_
          repeat (go_big_quiet_step ((first
            | (go_at_call 32; with_reducible exact later_of _ hW0 (HS.out _)))))
          refine wpQuiet_nil ?_; intro _ hw'; obtain ⟨u, hw''⟩ := hw'; subst hw''
          have hb := u.h
          obtain ⟨cA, fA, bA, hbz⟩ := HK.out _ hb
          go_wp2_with (first
        | (go_at_call 36; (with_reducible refine (HN1.out _).mono ?_); rintro e w2 ⟨rfl, q2, g2⟩; have hb1 := hb.alloc hbz (.cells #[.string x1, .int .i64 0] 71); have hb2 := HGR.out _ _ _ hb1 g2 (by simpa using hbz); have hb2z := (HK.out _ hb2).2.2.2; have hb3 := hb2.alloc hb2z (.cells #[.int .i64 ra, .int .i64 0] 23); have hbc := lt_of_grown g2)
        | (go_at_call 36; (with_reducible refine (HN2.out _ _ (q2.kept (World.grownBy_alloc _ _ none) (by simp))).mono ?_); rintro e w3 ⟨rfl, q3, g3⟩; have hb4 := HGR.out _ _ _ hb3 g3 (by simpa using hbz); have kB := far_box g3 hbc; have cB := mbox_cells kB; have fB := mbox_free kB; have kC := mbox_set kB 1 (.int .i64 rb); have cC := mbox_cells kC; have fC := mbox_free kC; have qE : Rdr 71 u.w.heap.size st2 (w3.setCell ⟨w2.heap.size, 1, none⟩ (.int .i64 rb)) := (Below.heap_setCell w3 ⟨w2.heap.size, 1, none⟩ (.int .i64 rb) _ (Nat.ne_of_lt hbc)).trans q3; have hb5 := hb4.setCell (p := ⟨w2.heap.size, 1, none⟩) hb2z (.int .i64 rb); obtain ⟨cD, fD, bD, _⟩ := HK.out _ hb5)
        | (go_at_call 37; (with_reducible refine (HEN.out _ _ qE).mono ?_); rintro e w4 ⟨rfl, rfl⟩)
        | (go_at_call 7; (with_reducible refine (HP.out _).mono ?_); rintro e w5 ⟨rfl, b5⟩; have kE := (b5.block w2.heap.size (Array.getElem?_eq_some_iff.1 kC).1).trans kC; have cE := mbox_cells kE; have fE := mbox_free kE; have hb6 := hb5.trans (b5.mono (HK.out _ hb5).2.2.2); obtain ⟨cF, fF, bF, _⟩ := HK.out _ hb6))
          refine bodyPost_ret (v := .tuple #[.agg #[.int .i64 ra, .int .i64 rb], .int .i64 0]) (by simp [results, Tryz.results9, go_sem, cF]) rfl ⟨rfl, ?_⟩
          repeat (with_reducible refine mbelow_own ?_ _ _)
          exact bF
      · rw [if_pos hen]
        have hee : (en != 0) = true := by rw [bne_iff_ne]; exact hen
        clear hen HR1
        go_enter Tryz.func9, Tryz.ntmps9
        go_wp2_with fail
        rw [HE1.out]
        refine wp_region_later (w.heap.size + 1) (by kernel_rfl) (by kernel_rfl) ?_
        repeat (go_big_quiet_step ((first
          | (go_at_call 32; with_reducible exact later_of _ hW0 (HS.out _)))))
        refine wpQuiet_nil ?_; intro _ hw'; obtain ⟨u, hw''⟩ := hw'; subst hw''
        have hb := u.h
        obtain ⟨cA, fA, bA, hbz⟩ := HK.out _ hb
        go_wp2_with (first
        | (go_at_call 36; (with_reducible refine (HN1.out _).mono ?_); rintro e w2 ⟨rfl, q2, g2⟩; have hb1 := hb.alloc hbz (.cells #[.string x1, .int .i64 0] 71); have hb2 := HGR.out _ _ _ hb1 g2 (by simpa using hbz); have hb2z := (HK.out _ hb2).2.2.2; have hb3 := hb2.alloc hb2z (.cells #[.int .i64 ra, .int .i64 0] 23); have hbc := lt_of_grown g2)
        | (go_at_call 36; (with_reducible refine (HN2.out _ _ (q2.kept (World.grownBy_alloc _ _ none) (by simp))).mono ?_); rintro e w3 ⟨rfl, q3, g3⟩; have hb4 := HGR.out _ _ _ hb3 g3 (by simpa using hbz); have kB := far_box g3 hbc; have cB := mbox_cells kB; have fB := mbox_free kB; have kC := mbox_set kB 1 (.int .i64 rb); have cC := mbox_cells kC; have fC := mbox_free kC; have qE : Rdr 71 u.w.heap.size st2 (w3.setCell ⟨w2.heap.size, 1, none⟩ (.int .i64 rb)) := (Below.heap_setCell w3 ⟨w2.heap.size, 1, none⟩ (.int .i64 rb) _ (Nat.ne_of_lt hbc)).trans q3; have hb5 := hb4.setCell (p := ⟨w2.heap.size, 1, none⟩) hb2z (.int .i64 rb); obtain ⟨cD, fD, bD, _⟩ := HK.out _ hb5)
        | (go_at_call 37; (with_reducible refine (HEN.out _ _ qE).mono ?_); rintro e w4 ⟨rfl, rfl⟩)
        | (go_at_call 7; (with_reducible refine (HP.out _).mono ?_); rintro e w5 ⟨rfl, b5⟩; have kE := (b5.block w2.heap.size (Array.getElem?_eq_some_iff.1 kC).1).trans kC; have cE := mbox_cells kE; have fE := mbox_free kE; have hb6 := hb5.trans (b5.mono (HK.out _ hb5).2.2.2); obtain ⟨cF, fF, bF, _⟩ := HK.out _ hb6))
        refine bodyPost_ret (v := .tuple #[.agg #[.int .i64 0, .int .i64 0], .int .i64 en]) (by simp [results, Tryz.results9, go_sem, cD]) rfl ⟨rfl, ?_⟩
        repeat (with_reducible refine mbelow_own ?_ _ _)
        exact bD
    · rw [if_pos hc]
      rw [decide_eq_false hc] at hcmp
      clear hc HN1 HN2 HEN HP HR1
      generalize tx (crc4 tk) = x2 at *
      generalize tx tk = x1 at *
      go_enter Tryz.func9, Tryz.ntmps9
      go_wp2_with fail
      rw [HE1.out]
      refine wp_region_later (w.heap.size + 1) (by kernel_rfl) (by kernel_rfl) ?_
      repeat (go_big_quiet_step ((first
        | (go_at_call 32; with_reducible exact later_of _ hW0 (HS.out _)))))
      refine wpQuiet_nil ?_; intro _ hw'; obtain ⟨u, hw''⟩ := hw'; subst hw''
      have hb := u.h
      obtain ⟨cA, fA, bA, hbz⟩ := HK.out _ hb
      go_wp2_with fail
      refine bodyPost_ret (v := .tuple #[.agg #[.int .i64 0, .int .i64 0], .int .i64 4]) (by simp [results, Tryz.results9, go_sem, cA]) rfl ⟨rfl, ?_⟩
      repeat (with_reducible refine mbelow_own ?_ _ _)
      exact bA
end Go.Proofs.YtabccphcoojbjaaGreatDoor
