/- Walks of layer 34 (manifest) and of its reference: the bytes of any, and what any bytes tell · Walks of layer 34 (manifest): what any bytes tell. -/
import Derived.Test.YtabccphcoojbjaaDoorQAe
import Derived.Test.YtabccphcoojbjaaDoorQAi
import Derived.Test.YtabccphcoojbjaaDoorQAp
import Derived.Test.YtabccphcoojbjaaDoorQAf
namespace Go.Proofs.YtabccphcoojbjaaDoor
open Go.ChangeShapes Go.WideShapes Go.ChangeAt Go.RowKit Go.Deep BigP ManP


/-- bytes as a text -/
def tx (l : List UInt8) : ByteArray := ⟨l.toArray⟩
theorem tx_size (l : List UInt8) : (tx l).size = l.length := by show l.toArray.size = _; simp
theorem tx_toList (l : List UInt8) : (tx l).data.toList = l := by unfold tx; simp
theorem tx_back (s : ByteArray) : tx s.data.toList = s := by unfold tx; cases s; simp
theorem tx_app (a b : List UInt8) : tx a ++ tx b = tx (a ++ b) := by
  apply ByteArray.ext
  rw [ByteArray.data_append]
  show a.toArray ++ b.toArray = (a ++ b).toArray
  simp
theorem big4_l (u : Nat) : big 4 u = [UInt8.ofNat (u / 16777216 % 256), UInt8.ofNat (u / 65536 % 256), UInt8.ofNat (u / 256 % 256), UInt8.ofNat (u % 256)] := by
  simp only [big, List.nil_append, List.cons_append, Nat.div_div_eq_div_mul]
theorem big4_l' (u : Nat) (hu : u < 4294967296) : big 4 u = [UInt8.ofNat (u / 16777216), UInt8.ofNat (u / 65536 % 256), UInt8.ofNat (u / 256 % 256), UInt8.ofNat (u % 256)] := by
  rw [big4_l, show u / 16777216 % 256 = u / 16777216 by omega]

theorem Tryd.cells_main : Tryd.prog.cellsOf 28 = 2 := by kernel_rfl
set_option maxRecDepth 100000 in
theorem open_main {H : Type} {enc : TypeId × Value → H} {w : World} {base : Nat} {spare : Nat → Bool} {held : Bool} {r : Reach} {b0 : Nat} {v : Value} {d : DataW H} {p : List MemPlace}
    (hv : Value.okWide Tryd.prog w r b0 28 v) (h : DataW.Trod enc Tryd.prog w base spare held 28 v d p) : ∃ a : Int × Int, v = .agg #[.int .i64 a.1, .int .i64 a.2] ∧ I64 a.1 ∧ I64 a.2 := by
  obtain ⟨⟨l⟩, rfl, hsz, hg⟩ := open_struct Tryd.underlying28 (by kernel_rfl) Tryd.cells_main hv h
  match l, hsz with
  | [c0, c1], _ =>
    obtain ⟨c, y, n, hc, h0⟩ := hg 0 _ rfl
    obtain rfl : c0 = c := by simpa using hc
    obtain ⟨a0, rfl, w0⟩ := cell_int Tryd.underlying3 h0
    obtain ⟨c, y, n, hc, h1⟩ := hg 1 _ rfl
    obtain rfl : c1 = c := by simpa using hc
    obtain ⟨a1, rfl, w1⟩ := cell_int Tryd.underlying3 h1
    exact ⟨(a0, a1), rfl, I64_of_wf w0, I64_of_wf w1⟩

theorem crc_Sum1 (s : ByteArray) (hs : s.size ≤ maxLen) (w : World) : Calls Tryd.prog 50 #[.slice (some ⟨w.heap.size, 0, none⟩) 1 1] (w.alloc (.cells #[.string s] 9)) fun e w' => e = .returned (.int .i64 ((FrameP.crc s.data.toList : Nat) : Int)) ∧ Below w.heap.size w w' := by
  have h := crc_Sum [s] w.heap.size 1 (by simp) (by simpa using hs) (w.alloc (.cells #[.string s] 9)) (by rw [World.size_alloc]; omega) (fun k x hk => by
    rw [cell_of_row _ _ _ #[.string s] 9 _ (heap_alloc_new w _)]
    match k, hk with
    | 0, hk => simp at hk; subst hk; rfl)
  have e : catL [s] = s.data.toList := by simp [catL]
  rw [e] at h
  refine h.mono ?_
  rintro e w' ⟨rfl, b⟩
  exact ⟨rfl, below_step b ((Below.refl _ w).alloc (Nat.le_refl _) _)⟩

set_option maxRecDepth 100000 in
theorem man_sum (s : ByteArray) (hs : s.size ≤ maxLen) (w : World) : Calls Tryd.prog 30 #[.string s] w fun e w' => e = .returned (.string (tx (crc4 s.data.toList))) ∧ Below w.heap.size w w' := by
  have HS := Lib.hid (crc_Sum1 s hs)
  have hv := FrameP.crc_lt s.data.toList
  unfold crc4
  generalize FrameP.crc s.data.toList = v at HS hv
  go_enter Tryd.func30, Tryd.ntmps30
  go_wp2_with (go_at_call 50; (with_reducible refine (HS.out _).mono ?_); rintro e w1 ⟨rfl, b1⟩)
  go_ret
  exact ⟨by rw [big4_l' v hv]; rfl, by (repeat (first | assumption | exact Below.refl _ _ | refine below_step (by assumption) ?_ | refine below_alloc' _ ?_ | refine below_drewN ?_ _ | refine Below.drew ?_))⟩

theorem man_may (m : Mn) (w : World) : Calls Tryd.prog 27 #[.agg #[.int .i64 m.1, .int .i64 m.2]] w fun e w' => e = .returned (.bool (mayM m)) ∧ Below w.heap.size w w' := by
  obtain ⟨a, b⟩ := m
  simp only
  have HM := Lib.hid (show mayM (a, b) = (decide (0 < a) && (decide (0 ≤ b) && !decide (a = b))) from rfl)
  by_cases h1 : 0 < a
  · by_cases h2 : 0 ≤ b
    · by_cases h3 : a = b
      · have h4 : (a != b) = false := by simp [h3]
        rw [HM.out, decide_eq_true h1, decide_eq_true h2, decide_eq_true h3]
        clear h3
        go_enter Tryd.func27, Tryd.ntmps27
        go_wp2_with fail
        go_ret
        exact ⟨rfl, by (repeat (first | assumption | exact Below.refl _ _ | refine below_step (by assumption) ?_ | refine below_alloc' _ ?_ | refine below_drewN ?_ _ | refine Below.drew ?_))⟩
      · have h4 : (a != b) = true := by simp [h3]
        rw [HM.out, decide_eq_true h1, decide_eq_true h2, decide_eq_false h3]
        clear h3
        go_enter Tryd.func27, Tryd.ntmps27
        go_wp2_with fail
        go_ret
        exact ⟨rfl, by (repeat (first | assumption | exact Below.refl _ _ | refine below_step (by assumption) ?_ | refine below_alloc' _ ?_ | refine below_drewN ?_ _ | refine Below.drew ?_))⟩
    · rw [HM.out, decide_eq_true h1, decide_eq_false h2]
      go_enter Tryd.func27, Tryd.ntmps27
      go_wp2_with fail
      go_ret
      exact ⟨rfl, by (repeat (first | assumption | exact Below.refl _ _ | refine below_step (by assumption) ?_ | refine below_alloc' _ ?_ | refine below_drewN ?_ _ | refine Below.drew ?_))⟩
  · rw [HM.out, decide_eq_false h1]
    go_enter Tryd.func27, Tryd.ntmps27
    go_wp2_with fail
    go_ret
    exact ⟨rfl, by (repeat (first | assumption | exact Below.refl _ _ | refine below_step (by assumption) ?_ | refine below_alloc' _ ?_ | refine below_drewN ?_ _ | refine Below.drew ?_))⟩
theorem box_of2 {w W : World} {t : TypeId} {c : Array Value} (hb : Below (w.heap.size + 1) (w.alloc (.cells c t)) W) (j : Nat) : W.cell? ⟨w.heap.size, j, none⟩ = c[j]? := by
  rw [hb.cell (p := ⟨w.heap.size, j, none⟩) (by show w.heap.size < _; omega)]
  exact cell_of_row _ _ _ c t _ (heap_alloc_new w _)
theorem body_len (m : Mn) : (bodyM m).length ≤ 20 := by
  have a := putI_len m.1
  have b := putI_len m.2
  unfold bodyM
  rw [List.length_append]
  omega

set_option maxRecDepth 100000 in
theorem man_Put (m : Mn) (i1 : I64 m.1) (i2 : I64 m.2) (w : World) : Calls Tryd.prog 10 #[.agg #[.int .i64 m.1, .int .i64 m.2]] w fun e w' => e = .returned (.tuple #[.string (tx (putM m).1), .int .i64 (putM m).2]) ∧ Below w.heap.size w w' := by
  have HM := Lib.hid (man_may m)
  have hbl := body_len m
  have HP := Lib.hid (show putM m = if mayM m then (bodyM m ++ crc4 (bodyM m), 0) else ([], 1) from rfl)
  cases hm : mayM m with
  | false =>
    rw [hm] at HM HP
    rw [HP.out]
    obtain ⟨a, b⟩ := m
    simp only
    clear HP hbl hm
    go_enter Tryd.func10, Tryd.ntmps10
    go_wp2_with (go_at_call 27; (with_reducible refine (HM.out _).mono ?_); rintro e w1 ⟨rfl, b1⟩)
    go_ret2
    exact ⟨rfl, by (repeat (first | assumption | exact Below.refl _ _ | refine below_step (by assumption) ?_ | refine below_alloc' _ ?_ | refine below_drewN ?_ _ | refine Below.drew ?_))⟩
  | true =>
    rw [hm] at HM HP
    rw [HP.out, if_pos rfl]
    have hl1 := putI_len m.1
    have HN1' : ∀ W : World, Calls Tryd.prog 28 #[.pointer (some ⟨W.heap.size, 0, none⟩), .int .i64 m.1] (W.alloc (.cells #[.pointer none, .slice none 0 0] 62)) fun e w' => e = .returned (.tuple #[]) ∧ Wr W.heap.size (VariP.putI m.1) w' ∧ Below W.heap.size W w' := fun W =>
      (pack_Num W.heap.size [] m.1 i1 _ (Wr.new W) (by simp)).mono (by rintro e w' ⟨rfl, q, b, _⟩; exact ⟨rfl, by simpa using q, ((Below.refl _ W).alloc (Nat.le_refl _) _).trans b⟩)
    have HN2' : ∀ (b : Nat) (W : World), Wr b (VariP.putI m.1) W → Calls Tryd.prog 28 #[.pointer (some ⟨b, 0, none⟩), .int .i64 m.2] W fun e w' => e = .returned (.tuple #[]) ∧ Wr b (bodyM m) w' ∧ Below b W w' := fun b W h =>
      (pack_Num b _ m.2 i2 W h (by omega)).mono (by rintro e w' ⟨rfl, q, b, _⟩; exact ⟨rfl, q, b⟩)
    have HB' : ∀ (b : Nat) (W : World), Wr b (bodyM m) W → Calls Tryd.prog 29 #[.pointer (some ⟨b, 0, none⟩)] W fun e w' => e = .returned (.string (tx (bodyM m))) ∧ Wr b (bodyM m) w' ∧ Below b W w' := fun b W h =>
      (pack_Bytes b _ W h).mono (by rintro e w' ⟨rfl, q, b, _⟩; exact ⟨rfl, q, b⟩)
    have HS' : ∀ W : World, Calls Tryd.prog 30 #[.string (tx (bodyM m))] W fun e w' => e = .returned (.string (tx (crc4 (bodyM m)))) ∧ Below W.heap.size W w' := fun W => by
      have := man_sum (tx (bodyM m)) (by rw [tx_size]; unfold maxLen; omega) W
      rw [tx_toList] at this
      exact this
    have HN1 := Lib.hid HN1'
    have HN2 := Lib.hid HN2'
    have HB := Lib.hid HB'
    have HS := Lib.hid HS'
    rw [← tx_app]
    have hs1 : (tx (bodyM m)).size ≤ 20 := by rw [tx_size]; exact hbl
    have hs2 : (tx (crc4 (bodyM m))).size ≤ 4 := by rw [tx_size, crc4_len]; exact Nat.le_refl _
    clear HN1' HN2' HB' HS' HP hm hbl hl1
    generalize tx (bodyM m) = x1 at *
    generalize tx (crc4 (bodyM m)) = x2 at *
    generalize bodyM m = bd at *
    generalize VariP.putI m.1 = pa at *
    obtain ⟨a, b⟩ := m
    simp only at *
    have HC := Lib.hid (fun (W : World) (hb : Below (w.heap.size + 1) (w.alloc (.cells #[.int .i64 a, .int .i64 b] 28)) W) => (⟨box_of2 hb 0, box_of2 hb 1⟩ : W.cell? ⟨w.heap.size, 0, none⟩ = some (.int .i64 a) ∧ W.cell? ⟨w.heap.size, 1, none⟩ = some (.int .i64 b)))
    have hle : (w.alloc (.cells #[.int .i64 a, .int .i64 b] 28)).heap.size = w.heap.size + 1 := World.size_alloc _ _
    have HLE := Lib.hid hle
    clear hle
    go_enter Tryd.func10, Tryd.ntmps10
    go_wp2_with (first
      | (go_at_call 27; (with_reducible refine (HM.out _).mono ?_); rintro e w1 ⟨rfl, b1⟩; rw [HLE.out] at b1; have b1z := b1.size; rw [HLE.out] at b1z; obtain ⟨z0, z1⟩ := HC.out _ (b1.alloc (by omega) (.cells #[.pointer none, .slice none 0 0] 62)))
      | (go_at_call 28; (with_reducible refine (HN1.out _).mono ?_); rintro e w2 ⟨rfl, q2, b2⟩; have b2' := b1.trans (b2.mono b1z); obtain ⟨y0, y1⟩ := HC.out _ b2')
      | (go_at_call 28; (with_reducible refine (HN2.out _ _ q2).mono ?_); rintro e w3 ⟨rfl, q3, b3⟩; have b3' := b2'.trans (b3.mono b1z))
      | (go_at_call 29; (with_reducible refine (HB.out _ _ q3).mono ?_); rintro e w4 ⟨rfl, q4, b4⟩; have b4' := b3'.trans (b4.mono b1z))
      | (go_at_call 29; (with_reducible refine (HB.out _ _ q4).mono ?_); rintro e w5 ⟨rfl, q5, b5⟩; have b5' := b4'.trans (b5.mono b1z))
      | (go_at_call 30; (with_reducible refine (HS.out _).mono ?_); rintro e w6 ⟨rfl, b6⟩))
    go_ret2
    exact ⟨rfl, below_step b6 (((Below.refl _ w).alloc (Nat.le_refl _) _).trans (b5'.mono (by omega)))⟩
end Go.Proofs.YtabccphcoojbjaaDoor

namespace Go.Proofs.YtabccphcoojbjaaDoor
open Go.ChangeShapes Go.WideShapes Go.ChangeAt Go.RowKit Go.Deep BigP ManP


theorem mbox_cells {B : Nat} {T : TypeId} {cs : Array Value} {w : World} (h : w.heap[B]? = some (.cells cs T (0, 0))) : ∀ j, w.cell? ⟨B, j, none⟩ = cs[j]? := fun j => by rw [cell_of_row _ _ _ _ T _ h]
theorem mbox_free {w : World} {B : Nat} {T : TypeId} {cs : Array Value} (h : w.heap[B]? = some (.cells cs T (0, 0))) : ∀ j, w.frozen? ⟨B, j, none⟩ = false := fun j => Lib.frozen_of_heap h j
theorem mbelow_own {w W : World} (h : Below w.heap.size w W) (j : Nat) (v : Value) : Below w.heap.size w (W.setCell ⟨w.heap.size, j, none⟩ v) := h.setCell (Nat.le_refl _) v
theorem mbox_of {w W : World} {o : Obj} (hb : Below (w.heap.size + 1) (w.alloc o) W) : W.heap[w.heap.size]? = some o := (hb.block w.heap.size (by omega)).trans (heap_alloc_new w o)
theorem mlater {w W : World} {t : TypeId} {cs : Array Value} (hb : Below (w.alloc (.cells cs t)).heap.size (w.alloc (.cells cs t)) W) : ∀ j, W.cell? ⟨w.heap.size, j, none⟩ = cs[j]? := fun j => by
  rw [World.size_alloc] at hb
  exact mbox_cells (mbox_of hb) j
/-- what is told of bytes, in parts -/
theorem takeM_parts (l : List UInt8) (h4 : ¬ l.length < 4) : takeM l = if crc4 (l.take (l.length - 4)) ≠ l.drop (l.length - 4) then ((0, 0), 4) else if (readM (l.take (l.length - 4))).2 ≠ 0 then ((0, 0), (readM (l.take (l.length - 4))).2) else if mayM (readM (l.take (l.length - 4))).1 = false then ((0, 0), 2) else ((readM (l.take (l.length - 4))).1, 0) := by
  unfold takeM
  rw [if_neg h4]
theorem tx_beq (a b : List UInt8) : ((tx a).toList == (tx b).toList) = decide (a = b) := by
  rw [Lib.toList_data, Lib.toList_data, tx_toList, tx_toList, Bool.eq_iff_iff]
  simp
theorem rNum_st (tk : List UInt8) : (PackP.rNum (tk, 0)).2.1.length ≤ tk.length := by
  unfold PackP.rNum
  rw [if_neg (by simp)]
  simp only
  split
  · exact Nat.le_refl _
  · rw [List.length_drop]; omega

set_option maxRecDepth 100000 in
set_option maxHeartbeats 2000000 in
theorem man_Take (s : ByteArray) (hs : s.size ≤ 100000) (w : World) :
    Calls Tryd.prog 15 #[.string s] w fun e w' => e = .returned (.tuple #[.agg #[.int .i64 (takeM s.data.toList).1.1, .int .i64 (takeM s.data.toList).1.2], .int .i64 (takeM s.data.toList).2]) ∧ Below w.heap.size w w' := by
  obtain ⟨l, rfl⟩ : ∃ l, s = tx l := ⟨s.data.toList, (tx_back s).symm⟩
  rw [tx_toList]
  have hsz := tx_size l
  by_cases h4 : l.length < 4
  · have e : takeM l = ((0, 0), 3) := by unfold takeM; rw [if_pos h4]
    rw [e]
    have h4' : ((tx l).size : Int) < 4 := by omega
    clear e hsz h4
    generalize tx l = s at *
    go_enter Tryd.func15, Tryd.ntmps15
    go_wp2_with fail
    refine bodyPost_ret (v := .tuple #[.agg #[.int .i64 0, .int .i64 0], .int .i64 3]) (by simp [results, Tryd.results15, go_sem]) rfl ⟨rfl, ?_⟩
    (repeat (first | assumption | exact Below.refl _ _ | refine below_step (by assumption) ?_ | refine below_alloc' _ ?_ | refine below_drewN ?_ _ | refine Below.drew ?_))
  · rw [takeM_parts l h4]
    obtain ⟨tk, htk⟩ : ∃ tk, tk = l.take (l.length - 4) := ⟨_, rfl⟩
    obtain ⟨dr, hdr⟩ : ∃ dr, dr = l.drop (l.length - 4) := ⟨_, rfl⟩
    have e1 : (tx l).extract 0 ((tx l).size - 4) = tx tk := by rw [htk, hsz]; exact bl_take l _
    have htl : tk.length = l.length - 4 := by rw [htk, List.length_take]; omega
    have e2 : (tx l).extract (tx tk).size (tx l).size = tx dr := by rw [hdr, tx_size, htl, hsz]; exact bl_drop l _ _ rfl
    rw [← htk, ← hdr]
    have HS' : ∀ W : World, Calls Tryd.prog 30 #[.string (tx tk)] W fun e w' => e = .returned (.string (tx (crc4 tk))) ∧ Below W.heap.size W w' := fun W => by
      have := man_sum (tx tk) (by rw [tx_size]; unfold maxLen; omega) W
      rw [tx_toList] at this
      exact this
    have HS := Lib.hid HS'
    have hcmp : ((tx (crc4 tk)).toList == ((tx l).extract (tx tk).size (tx l).size).toList) = decide (crc4 tk = dr) := by rw [e2, tx_beq]
    have h4' : ¬ ((tx l).size : Int) < 4 := by omega
    have htle : (tx tk).size ≤ (tx l).size := by rw [tx_size, hsz]; omega
    have hsm : (tx l).size ≤ 100000 := hs
    have HE1 := Lib.hid e1
    have hW0 : w.heap.size + 1 ≤ (w.alloc (.cells #[.int .i64 0, .int .i64 0] 28)).heap.size := by rw [World.size_alloc]; omega
    have HK := Lib.hid (fun (W : World) (hb : Below (w.heap.size + 1) (w.alloc (.cells #[.int .i64 0, .int .i64 0] 28)) W) => (⟨mbox_cells (mbox_of hb), mbox_free (mbox_of hb), ((Below.refl _ w).alloc (Nat.le_refl _) _).trans (hb.mono (by omega)), by have := hb.size; omega⟩ : (∀ j, W.cell? ⟨w.heap.size, j, none⟩ = #[Value.int .i64 0, .int .i64 0][j]?) ∧ (∀ j, W.frozen? ⟨w.heap.size, j, none⟩ = false) ∧ Below w.heap.size w W ∧ w.heap.size + 1 ≤ W.heap.size))
    have HGR := Lib.hid (fun (W W' : World) (row : Option Nat) (hb : Below (w.heap.size + 1) (w.alloc (.cells #[.int .i64 0, .int .i64 0] 28)) W) (hg : W.grownBy W' row) (hr : ∀ k, row = some k → w.heap.size + 1 ≤ k) => hb.grown hg (by have := hb.size; omega) hr)
    have htl2 : tk.length ≤ 100000 := by omega
    have hs1 := rNum_st tk
    have HN := Lib.hid (pack_New (tx tk))
    have HN1' : ∀ b W, Rdr 88 b (tk, 0) W → Calls Tryd.prog 35 #[.pointer (some ⟨b, 0, none⟩)] W (RdPost 88 b (PackP.rNum (tk, 0)).2 (.int .i64 (PackP.rNum (tk, 0)).1) W) := fun b W h => pack_Num_at b (tk, 0) (by simp only; omega) W h
    have HN2' : ∀ b W, Rdr 88 b (PackP.rNum (tk, 0)).2 W → Calls Tryd.prog 35 #[.pointer (some ⟨b, 0, none⟩)] W (RdPost 88 b (PackP.rNum (PackP.rNum (tk, 0)).2).2 (.int .i64 (PackP.rNum (PackP.rNum (tk, 0)).2).1) W) := fun b W h => pack_Num_at b _ (by omega) W h
    have HEN' : ∀ b W, Rdr 88 b (PackP.rNum (PackP.rNum (tk, 0)).2).2 W → Calls Tryd.prog 36 #[.pointer (some ⟨b, 0, none⟩)] W fun e w' => e = .returned (.int .i64 (readM tk).2) ∧ W = w' := fun b W h => pack_End b _ W h
    have HM' : ∀ W, Calls Tryd.prog 27 #[.agg #[.int .i64 (PackP.rNum (tk, 0)).1, .int .i64 (PackP.rNum (PackP.rNum (tk, 0)).2).1]] W fun e w' => e = .returned (.bool (mayM (readM tk).1)) ∧ Below W.heap.size W w' := fun W => man_may (readM tk).1 W
    have hr1 : (readM tk).1 = ((PackP.rNum (tk, 0)).1, (PackP.rNum (PackP.rNum (tk, 0)).2).1) := rfl
    have HR1 := Lib.hid hr1
    rw [tx_toList] at HN
    have HN1 := Lib.hid HN1'
    have HN2 := Lib.hid HN2'
    have HEN := Lib.hid HEN'
    have HM := Lib.hid HM'
    clear HS' HN1' HN2' HEN' HM' e1 e2 hsz hs htl h4 htl2 hs1 hr1
    generalize (readM tk).2 = en at *
    generalize mayM (readM tk).1 = my at *
    generalize (readM tk).1 = rd at *
    generalize (PackP.rNum (PackP.rNum (tk, 0)).2).1 = rb at *
    generalize (PackP.rNum (PackP.rNum (tk, 0)).2).2 = st2 at *
    generalize (PackP.rNum (tk, 0)).1 = ra at *
    generalize (PackP.rNum (tk, 0)).2 = st1 at *
    by_cases hc : crc4 tk ≠ dr
    · rw [if_pos hc]
      rw [decide_eq_false hc] at hcmp
      clear hc HN HN1 HN2 HEN HM HR1
      generalize tx (crc4 tk) = x2 at *
      generalize tx tk = x1 at *
      go_enter Tryd.func15, Tryd.ntmps15
      go_wp2_with fail
      rw [HE1.out]
      refine wp_region_later (w.heap.size + 1) (by kernel_rfl) (by kernel_rfl) ?_
      repeat (go_big_quiet_step ((first
        | (go_at_call 30; with_reducible exact later_of _ hW0 (HS.out _)))))
      refine wpQuiet_nil ?_; intro _ hw'; obtain ⟨u, hw''⟩ := hw'; subst hw''
      obtain ⟨cA, fA, bA, _⟩ := HK.out _ u.h
      go_wp2_with fail
      refine bodyPost_ret (v := .tuple #[.agg #[.int .i64 0, .int .i64 0], .int .i64 4]) (by simp [results, Tryd.results15, go_sem, cA]) rfl ⟨rfl, ?_⟩
      repeat (with_reducible refine mbelow_own ?_ _ _)
      exact bA
    · rw [if_neg hc]
      rw [decide_eq_true (Decidable.not_not.1 hc)] at hcmp
      clear hc
      generalize hx2 : tx (crc4 tk) = x2 at *
      generalize hx1 : tx tk = x1 at *
      clear hx1 hx2
      by_cases hen : en = 0
      · subst hen
        rw [if_neg (by simp)]
        cases my with
        | false =>
          rw [if_pos rfl]
          clear HR1
          go_enter Tryd.func15, Tryd.ntmps15
          go_wp2_with fail
          rw [HE1.out]
          refine wp_region_later (w.heap.size + 1) (by kernel_rfl) (by kernel_rfl) ?_
          repeat (go_big_quiet_step ((first
            | (go_at_call 30; with_reducible exact later_of _ hW0 (HS.out _)))))
          refine wpQuiet_nil ?_; intro _ hw'; obtain ⟨u, hw''⟩ := hw'; subst hw''
          have hb := u.h
          obtain ⟨cA, fA, bA, hbz⟩ := HK.out _ hb
          go_wp2_with (first
        | (go_at_call 34; (with_reducible refine (HN.out _).mono ?_); rintro e w1 ⟨rfl, q1, g1⟩; have hb1 := HGR.out _ _ _ hb g1 (by simp))
        | (go_at_call 35; (with_reducible refine (HN1.out _ _ q1).mono ?_); rintro e w2 ⟨rfl, q2, g2⟩; have hb2 := HGR.out _ _ _ hb1 g2 (by simpa using hbz))
        | (go_at_call 35; (with_reducible refine (HN2.out _ _ q2).mono ?_); rintro e w3 ⟨rfl, q3, g3⟩; have hb3 := HGR.out _ _ _ hb2 g3 (by simpa using hbz); have hb3z := (HK.out _ hb3).2.2.2; have hb4 := hb3.alloc hb3z (.cells #[.int .i64 ra, .int .i64 rb] 28); obtain ⟨cB, fB, bB, _⟩ := HK.out _ hb4)
        | (go_at_call 36; (with_reducible refine (HEN.out _ _ (q3.kept (World.grownBy_alloc _ _ none) (by simp))).mono ?_); rintro e w4 ⟨rfl, rfl⟩)
        | (go_at_call 27; (with_reducible refine (HM.out _).mono ?_); rintro e w5 ⟨rfl, b5⟩; have z5 := mlater b5; have hb5 := hb4.trans (b5.mono (by rw [World.size_alloc]; omega)); obtain ⟨cC, fC, bC, _⟩ := HK.out _ hb5))
          refine bodyPost_ret (v := .tuple #[.agg #[.int .i64 0, .int .i64 0], .int .i64 2]) (by simp [results, Tryd.results15, go_sem, cC]) rfl ⟨rfl, ?_⟩
          repeat (with_reducible refine mbelow_own ?_ _ _)
          exact bC
        | true =>
          rw [if_neg (by simp), HR1.out]
          clear HR1
          go_enter Tryd.func15, Tryd.ntmps15
          go_wp2_with fail
          rw [HE1.out]
          refine wp_region_later (w.heap.size + 1) (by kernel_rfl) (by kernel_rfl) ?_
          repeat (go_big_quiet_step ((first
            | (go_at_call 30; with_reducible exact later_of _ hW0 (HS.out _)))))
          refine wpQuiet_nil ?_; intro _ hw'; obtain ⟨u, hw''⟩ := hw'; subst hw''
          have hb := u.h
          obtain ⟨cA, fA, bA, hbz⟩ := HK.out _ hb
          go_wp2_with (first
        | (go_at_call 34; (with_reducible refine (HN.out _).mono ?_); rintro e w1 ⟨rfl, q1, g1⟩; have hb1 := HGR.out _ _ _ hb g1 (by simp))
        | (go_at_call 35; (with_reducible refine (HN1.out _ _ q1).mono ?_); rintro e w2 ⟨rfl, q2, g2⟩; have hb2 := HGR.out _ _ _ hb1 g2 (by simpa using hbz))
        | (go_at_call 35; (with_reducible refine (HN2.out _ _ q2).mono ?_); rintro e w3 ⟨rfl, q3, g3⟩; have hb3 := HGR.out _ _ _ hb2 g3 (by simpa using hbz); have hb3z := (HK.out _ hb3).2.2.2; have hb4 := hb3.alloc hb3z (.cells #[.int .i64 ra, .int .i64 rb] 28); obtain ⟨cB, fB, bB, _⟩ := HK.out _ hb4)
        | (go_at_call 36; (with_reducible refine (HEN.out _ _ (q3.kept (World.grownBy_alloc _ _ none) (by simp))).mono ?_); rintro e w4 ⟨rfl, rfl⟩)
        | (go_at_call 27; (with_reducible refine (HM.out _).mono ?_); rintro e w5 ⟨rfl, b5⟩; have z5 := mlater b5; have hb5 := hb4.trans (b5.mono (by rw [World.size_alloc]; omega)); obtain ⟨cC, fC, bC, _⟩ := HK.out _ hb5))
          refine bodyPost_ret (v := .tuple #[.agg #[.int .i64 ra, .int .i64 rb], .int .i64 0]) (by simp [results, Tryd.results15, go_sem, cC]) rfl ⟨rfl, ?_⟩
          repeat (with_reducible refine mbelow_own ?_ _ _)
          exact bC
      · rw [if_pos hen]
        have hee : (en != 0) = true := by rw [bne_iff_ne]; exact hen
        clear hen HR1
        go_enter Tryd.func15, Tryd.ntmps15
        go_wp2_with fail
        rw [HE1.out]
        refine wp_region_later (w.heap.size + 1) (by kernel_rfl) (by kernel_rfl) ?_
        repeat (go_big_quiet_step ((first
          | (go_at_call 30; with_reducible exact later_of _ hW0 (HS.out _)))))
        refine wpQuiet_nil ?_; intro _ hw'; obtain ⟨u, hw''⟩ := hw'; subst hw''
        have hb := u.h
        obtain ⟨cA, fA, bA, hbz⟩ := HK.out _ hb
        go_wp2_with (first
        | (go_at_call 34; (with_reducible refine (HN.out _).mono ?_); rintro e w1 ⟨rfl, q1, g1⟩; have hb1 := HGR.out _ _ _ hb g1 (by simp))
        | (go_at_call 35; (with_reducible refine (HN1.out _ _ q1).mono ?_); rintro e w2 ⟨rfl, q2, g2⟩; have hb2 := HGR.out _ _ _ hb1 g2 (by simpa using hbz))
        | (go_at_call 35; (with_reducible refine (HN2.out _ _ q2).mono ?_); rintro e w3 ⟨rfl, q3, g3⟩; have hb3 := HGR.out _ _ _ hb2 g3 (by simpa using hbz); have hb3z := (HK.out _ hb3).2.2.2; have hb4 := hb3.alloc hb3z (.cells #[.int .i64 ra, .int .i64 rb] 28); obtain ⟨cB, fB, bB, _⟩ := HK.out _ hb4)
        | (go_at_call 36; (with_reducible refine (HEN.out _ _ (q3.kept (World.grownBy_alloc _ _ none) (by simp))).mono ?_); rintro e w4 ⟨rfl, rfl⟩)
        | (go_at_call 27; (with_reducible refine (HM.out _).mono ?_); rintro e w5 ⟨rfl, b5⟩; have z5 := mlater b5; have hb5 := hb4.trans (b5.mono (by rw [World.size_alloc]; omega)); obtain ⟨cC, fC, bC, _⟩ := HK.out _ hb5))
        refine bodyPost_ret (v := .tuple #[.agg #[.int .i64 0, .int .i64 0], .int .i64 en]) (by simp [results, Tryd.results15, go_sem, cB]) rfl ⟨rfl, ?_⟩
        repeat (with_reducible refine mbelow_own ?_ _ _)
        exact bB
end Go.Proofs.YtabccphcoojbjaaDoor
