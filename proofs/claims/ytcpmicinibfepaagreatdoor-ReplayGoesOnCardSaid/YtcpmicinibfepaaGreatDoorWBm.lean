/- Layer 33: what a scan tells: what is asked of its disk, what it leaves · Layer 33: what a scan tells (Scan). -/
import Derived.Test.YtcpmicinibfepaaGreatDoorWBk
import Derived.Test.YtcpmicinibfepaaGreatDoorWBl
import Derived.WalkMore
namespace Go.Proofs.YtcpmicinibfepaaGreatDoor
open Go.ChangeShapes Go.WideShapes Go.ChangeAt Go.RowKit Go.Deep DiskP NameP


/-- a segment's name; none: nothing -/
def fileB : Option Int → ByteArray
  | none => ⟨#[]⟩
  | some n => tB n
/-- what a disk's segments are -/
structure SegsD (S : DS) (l : FrameP.Sgs) : Prop where
  on : S.on = true
  sorted : Sorted S.fs
  many : S.fs.length ≤ 64
  small : ∀ s ∈ names S.fs, s.size ≤ 100
  nums : numsX 1 (names S.fs) = l.map (·.1)
  read : ∀ (k : Nat) x, l[k]? = some x → readD S (tB x.1) = (⟨x.2.toArray⟩, 0) ∧ x.2.length ≤ 1000000
  few : (FrameP.frS l).length ≤ 1000
theorem SegsD.range {S : DS} {l : FrameP.Sgs} (h : SegsD S l) : ∀ n ∈ l.map (·.1), 1 ≤ n ∧ n ≤ 999999999999999999 := by
  rw [← h.nums]
  exact nums1_range _
theorem SegsD.len {S : DS} {l : FrameP.Sgs} (h : SegsD S l) : l.length ≤ 64 := by
  have h1 : (numsX 1 (names S.fs)).length ≤ (names S.fs).length := by
    have h2 := (nums_both 1 (names S.fs)).2.length_eq
    rw [h2, numsA_eq, List.length_map]
    exact List.length_filter_le _ _
  rw [h.nums, List.length_map] at h1
  have : (names S.fs).length = S.fs.length := by unfold names; simp
  have := h.many
  omega
def fileK (l : FrameP.Sgs) (k : Nat) : Option Int := if k = 0 then none else l[k - 1]?.map (·.1)
def keepK (l : FrameP.Sgs) (k : Nat) : Nat := if k = 0 then 0 else (l[k - 1]?.map fun x => FrameP.bytes (FrameP.whole x.2 x.1)).getD 0
/-- what a scan leaves -/
def ScanPost (r : List FrameP.Fr × (Option Int × Nat) × List Int) (w : World) (e : Ending) (w' : World) : Prop :=
  ∃ A1 c1 A2 c2, e = .returned (.tuple #[.agg #[.slice A1 r.1.length c1, .string (fileB r.2.1.1), .int .i64 (r.2.1.2 : Nat), .slice A2 r.2.2.length c2], .int .i64 0]) ∧ w'.ownsRow (w.heap.size + 1) 46 2 (.slice A1 r.1.length c1) r.1.length (fcells r.1) ∧ w'.ownsRow (w.heap.size + 1) 9 1 (.slice A2 r.2.2.length c2) r.2.2.length (r.2.2.map fun n => Value.string (tB n)) ∧ Below w.heap.size w w'
theorem append_nil_run (A : Option Addr) (n c : Nat) (hc : n ≤ c) (ty : TypeId) (W : World) : (Builtin.append_ #[42, 42] ty #[.slice A n c, .slice none 0 0]).run Tryz.prog W = .ok (.slice A n c) W := by
  obtain ⟨i, hi, _⟩ := info_parts' info_frame
  cases A <;> simp [Builtin.append_, run_underlying Tryz.underlying42, sizeOf, typeInfo, hi, Builtin.firstCells, Builtin.lenOf, hc, storeCells]
theorem wpList_append_nil {P : Program} {ops : Array Oper} {rest : List Oper} {o : Oper} {a : Act} {w : World} {Q : Exit → Act → World → Prop} (hgd : o.guard = none) (s x : Operand) (t : TypeId)
    (ho : o.op = .call { callee := .builtin .append, args := #[s, x], argTypes := #[t, t] }) (v : Value) (hs : a.eval s = v) (hx : a.eval x = .slice none 0 0)
    (hr : (Builtin.append_ #[t, t] o.type #[v, .slice none 0 0]).run P w = .ok v w) (h : wpList P ops Q rest (a.put o.dst v) w) : wpList P ops Q (o :: rest) a w :=
  wpList_plain hgd fun _ hK => Lib.wp_append_run w s x t t ho v _ hs hx v w hr (hK _ _ h)
theorem fcells_one (l : List FrameP.Fr) : ∀ u ∈ fcells l, u.oneCell' = true := by
  induction l with
  | nil => intro u hu; simp [fcells] at hu
  | cons x l ih =>
    intro u hu
    have e : fcells (x :: l) = .int .i64 x.1 :: .string ⟨x.2.toArray⟩ :: fcells l := rfl
    rw [e] at hu
    rcases List.mem_cons.1 hu with rfl | hu
    · rfl
    · rcases List.mem_cons.1 hu with rfl | hu
      · rfl
      · exact ih u hu
theorem fcells_app (a b : List FrameP.Fr) : fcells (a ++ b) = fcells a ++ fcells b := by
  induction a with
  | nil => rfl
  | cons x a ih =>
    have e : ∀ r, fcells (x :: r) = .int .i64 x.1 :: .string ⟨x.2.toArray⟩ :: fcells r := fun _ => rfl
    rw [List.cons_append, e, e, ih]
    rfl
theorem set4_own {z : World} {B n sz r : Nat} {e : TypeId} {v : Value} {xs : List Value} (o : z.ownsRow B e sz v n xs) (hr : r < B) (u0 u1 u2 u3 : Value) : ((((z.setCell ⟨r, 0, none⟩ u0).setCell ⟨r, 1, none⟩ u1).setCell ⟨r, 2, none⟩ u2).setCell ⟨r, 3, none⟩ u3).ownsRow B e sz v n xs := by
  have hne : v.ownBlock ≠ some r := fun e => by have := (o.lt _ e).1; omega
  exact ownsRow_setCell_other (ownsRow_setCell_other (ownsRow_setCell_other (ownsRow_setCell_other o (a := ⟨r, 0, none⟩) hne u0) (a := ⟨r, 1, none⟩) hne u1) (a := ⟨r, 2, none⟩) hne u2) (a := ⟨r, 3, none⟩) hne u3
theorem set4_below {B r : Nat} {w z : World} (h : Below B w z) (hr : B ≤ r) (u0 u1 u2 u3 : Value) : Below B w ((((z.setCell ⟨r, 0, none⟩ u0).setCell ⟨r, 1, none⟩ u1).setCell ⟨r, 2, none⟩ u2).setCell ⟨r, 3, none⟩ u3) :=
  (((h.setCell (p := ⟨r, 0, none⟩) hr u0).setCell (p := ⟨r, 1, none⟩) hr u1).setCell (p := ⟨r, 2, none⟩) hr u2).setCell (p := ⟨r, 3, none⟩) hr u3
theorem scan_done {w z : World} {B : Nat} {A1 A2 : Option Addr} {c1 c2 n1 n2 : Nat} {f : ByteArray} {k : Int} {r : List FrameP.Fr × (Option Int × Nat) × List Int} (hb : Below w.heap.size w z) (hB : w.heap.size + 1 < B)
    (o1 : z.ownsRow B 46 2 (.slice A1 n1 c1) n1 (fcells r.1)) (h1 : n1 = r.1.length) (o2 : z.ownsRow B 9 1 (.slice A2 n2 c2) n2 (r.2.2.map fun n => Value.string (tB n))) (h2 : n2 = r.2.2.length) (hf : f = fileB r.2.1.1) (hk : k = (r.2.1.2 : Nat)) (u0 u1 u2 u3 : Value) :
    ScanPost r w (.returned (.tuple #[.agg #[.slice A1 n1 c1, .string f, .int .i64 k, .slice A2 n2 c2], .int .i64 0])) ((((z.setCell ⟨w.heap.size + 1, 0, none⟩ u0).setCell ⟨w.heap.size + 1, 1, none⟩ u1).setCell ⟨w.heap.size + 1, 2, none⟩ u2).setCell ⟨w.heap.size + 1, 3, none⟩ u3) := by
  subst h1 h2 hf hk
  exact ⟨A1, c1, A2, c2, rfl, own_monoN (set4_own o1 hB u0 u1 u2 u3) (Nat.le_of_lt hB), own_monoN (set4_own o2 hB u0 u1 u2 u3) (Nat.le_of_lt hB), set4_below hb (by omega) u0 u1 u2 u3⟩
theorem Rd.tail {w : World} {base n c g : Nat} {e : TypeId} {xs : List Value} (h : w.ownsRow base e 1 (.slice (some ⟨g, 0, none⟩) n c) n xs) (q : Nat) : Rd w w.heap.size (some ⟨g, q, none⟩) (xs.drop q) := fun j u hj => by
  rw [List.getElem?_drop] at hj
  refine ⟨_, rfl, (h.lt g rfl).2, ?_⟩
  have e1 : (⟨g, q, none⟩ : Addr).add j = ⟨g, q + j, none⟩ := by unfold Addr.add; split <;> simp_all
  rw [e1]
  exact own_cell h (q + j) u hj

/-- what is said of Scan -/
def ScanC : Prop := ∀ (d : Nat) (A : Option Addr) (c : Nat) (S : DS) (segs : FrameP.Sgs), SegsD S segs → ∀ (after : Int) (w : World), TabW w → Dk d A c S w →
    Calls Tryz.prog 27 #[.pointer (some ⟨d, 0, none⟩), .int .i64 after] w (ScanPost (FrameP.scanF segs after) w)
end Go.Proofs.YtcpmicinibfepaaGreatDoor

namespace Go.Proofs.YtcpmicinibfepaaGreatDoor
open Go.ChangeShapes Go.WideShapes Go.ChangeAt Go.RowKit Go.Deep DiskP NameP


/-- contracts as one word each: the walk turns what stands in its context, and large facts make it slow -/
structure CfS (w : World) (segs : FrameP.Sgs) : Prop where
  out : ∀ (k : Nat) (A' : Option Addr) (c' : Nat) (W : World), Below w.heap.size w W → Rd W W.heap.size A' (((segs.drop k).map (·.1)).map (Value.int .i64)) → Calls Tryz.prog 48 #[.slice A' ((segs.drop k).map (·.1)).length c'] W fun e w' => ∃ A'' c'', e = .returned (.slice A'' ((segs.drop k).map (·.1)).length c'') ∧ w'.ownsRow W.heap.size 9 1 (.slice A'' ((segs.drop k).map (·.1)).length c'') ((segs.drop k).map (·.1)).length (((segs.drop k).map (·.1)).map fun n => Value.string (tB n)) ∧ Below W.heap.size W w'
structure CoS (tb : Nat) (y2 : World) (n : Int) (t : ByteArray) : Prop where
  out : ∀ W : World, Below tb y2 W → Calls Tryz.prog 45 #[.int .i64 1, .int .i64 n] W fun e w' => e = .returned (.string t) ∧ Below W.heap.size W w'
structure CrS (tb d : Nat) (y2 : World) (t bs : ByteArray) : Prop where
  out : ∀ W : World, Below tb y2 W → Calls Tryz.prog 14 #[.pointer (some ⟨d, 0, none⟩), .string t] W fun e w' => e = .returned (.tuple #[.string bs, .int .i64 0]) ∧ Below W.heap.size W w'
structure CwS (bs : ByteArray) (n : Int) (len : Nat) (l : List FrameP.Fr) (sz : Nat) : Prop where
  out : ∀ W : World, Calls Tryz.prog 47 #[.string bs, .int .i64 n] W fun e w' => ∃ A c, e = .returned (.tuple #[.slice A len c, .int .i64 (sz : Nat)]) ∧ w'.ownsRow W.heap.size 46 2 (.slice A len c) len (fcells l) ∧ (l = [] → A = none ∧ c = 0) ∧ Below W.heap.size W w'
structure HoS (tb na c3 : Nat) (A3 : Option Addr) (wr : World) (tg : ByteArray) (fr : List FrameP.Fr) : Prop where
  out : ∀ u v z : World, Below wr.heap.size wr u → Below (u.setCell ⟨tb, 1, none⟩ (.string tg)).heap.size (u.setCell ⟨tb, 1, none⟩ (.string tg)) v → Below v.heap.size v z → z.ownsRow (tb + 1) 46 2 (.slice A3 na c3) na (fcells fr)

set_option maxRecDepth 100000 in
set_option maxHeartbeats 20000000 in
theorem rep_Scan (d : Nat) (A : Option Addr) (c : Nat) (S : DS) (segs : FrameP.Sgs) (hS : SegsD S segs) (after : Int) (w : World) (ht : TabW w) (h : Dk d A c S w) :
    Calls Tryz.prog 27 #[.pointer (some ⟨d, 0, none⟩), .int .i64 after] w (ScanPost (FrameP.scanF segs after) w) := by
  have hdl := h.lt
  have hmany := hS.many
  have hsl := hS.len
  have hon := hS.on
  have HH := Lib.hid h
  have HT0 := Lib.hid (fun W (hb : Below w.heap.size w W) => TabW.below ht hb)
  have COn' : ∀ W, Below w.heap.size w W → Calls Tryz.prog 30 #[.pointer (some ⟨d, 0, none⟩)] W fun e w' => e = .returned (.bool true) ∧ W = w' := fun W hb => by
    have := disk_On d A c S W (h.kept hb)
    rw [hon] at this
    exact this
  have COn := Lib.hid COn'
  have CNm := Lib.hid (fun (W : World) (hb : Below w.heap.size w W) => disk_NamesW d A c S (by omega) W (h.kept hb))
  have CNu' : ∀ (A' : Option Addr) (c' : Nat) (W : World), Rd W W.heap.size A' ((names S.fs).map Value.string) → Calls Tryz.prog 43 #[.int .i64 1, .slice A' (names S.fs).length c'] W fun e w' => ∃ A2 c2, e = .returned (.slice A2 segs.length c2) ∧ w'.ownsRow W.heap.size 3 1 (.slice A2 segs.length c2) segs.length (segs.map fun x => Value.int .i64 x.1) ∧ Below W.heap.size W w' := fun A' c' W hr => by
    have := name_NumbersO 1 A' c' (names S.fs) (by unfold names; rw [List.length_map]; omega) hS.small W hr
    rw [hS.nums, List.length_map, List.map_map] at this
    exact this
  have CNu := Lib.hid CNu'
  have HS := Lib.hid hS
  have HRG := Lib.hid hS.range
  have CFl : CfS w segs := ⟨fun k A' c' W hb hr => by
    have h1 : ((segs.drop k).map (·.1)).length ≤ 100 := by rw [List.length_map, List.length_drop]; omega
    have h2 : ∀ n ∈ (segs.drop k).map (·.1), 1 ≤ n ∧ n ≤ 999999999999999999 := fun n hn => HRG.out n (by obtain ⟨x, hx, e⟩ := List.mem_map.1 hn; exact List.mem_map.2 ⟨x, List.mem_of_mem_drop hx, e⟩)
    have h3 : ∀ W', Below W.heap.size W W' → TabW W' := fun W' hb' => HT0.out W' (below_step hb' hb)
    exact rep_files A' c' ((segs.drop k).map (·.1)) h1 h2 W h3 hr⟩
  obtain ⟨i0, hi, hz0, hz1, hz2⟩ := info_parts' info_frame
  have HI := Lib.hid (And.intro hi (And.intro hz0 (And.intro hz1 hz2)))
  clear hi hz0 hz1 hz2 h ht hS COn' CNu'
  go_enter Tryz.func27, Tryz.ntmps27
  go_wp2_with fail
  go_step3
  go_wp2_with (first
    | (go_at_call 30; (with_reducible refine (COn.out _ (by (repeat (first | assumption | exact Below.refl _ _ | refine below_step (by assumption) ?_ | refine below_alloc' _ ?_ | refine below_drewN ?_ _ | refine Below.drew ?_)))).mono ?_); rintro e w0 ⟨rfl, rfl⟩)
    | (go_at_call 13; (with_reducible refine (CNm.out _ (by (repeat (first | assumption | exact Below.refl _ _ | refine below_step (by assumption) ?_ | refine below_alloc' _ ?_ | refine below_drewN ?_ _ | refine Below.drew ?_)))).mono ?_); rintro e y1 ⟨A1, c1, rfl, r1, b1⟩)
    | (go_at_call 43; (with_reducible refine (CNu.out _ _ _ r1).mono ?_); rintro e y2 ⟨A2, c2, rfl, o2, b2⟩; have b12 := below_step b2 b1))
  go_step3
  obtain ⟨tb, htb⟩ : ∃ tb, tb = y2.heap.size := ⟨_, rfl⟩
  have hB2 : Below w.heap.size w y2 := below_step b12 (by (repeat (first | assumption | exact Below.refl _ _ | refine below_step (by assumption) ?_ | refine below_alloc' _ ?_ | refine below_drewN ?_ _ | refine Below.drew ?_)))
  have hs2 := b12.size
  simp only [World.size_alloc] at hs2
  have xb := bx_kept (b := w.heap.size) (bx_kept (heap_alloc_new w (.cells #[.int .i64 after] 3)) (Below.refl _ _ |>.alloc (Nat.le_refl _) _)) (b12.mono (by simp))
  have xr := bx_kept (b := w.heap.size + 1) (by have := heap_alloc_new (w.alloc (.cells #[.int .i64 after] 3)) (.cells #[.slice none 0 0, .string ⟨#[]⟩, .int .i64 0, .slice none 0 0] 58); rwa [World.size_alloc] at this) (b12.mono (by simp))
  have xt : (y2.alloc (.cells #[.slice none 0 0, .string ⟨#[]⟩, .int .i64 0, .slice none 0 0] 58)).heap[tb]? = some (.cells #[.slice none 0 0, .string ⟨#[]⟩, .int .i64 0, .slice none 0 0] 58 (0, 0)) := by rw [htb]; exact heap_alloc_new y2 _
  have HXB := Lib.hid xb
  have HXR := Lib.hid xr
  have HNS := Lib.hid o2
  have b3 : Below y2.heap.size y2 (y2.alloc (.cells #[.slice none 0 0, .string ⟨#[]⟩, .int .i64 0, .slice none 0 0] 58)) := by (repeat (first | assumption | exact Below.refl _ _ | refine below_step (by assumption) ?_ | refine below_alloc' _ ?_ | refine below_drewN ?_ _ | refine Below.drew ?_))
  have hszt : (y2.alloc (.cells #[.slice none 0 0, .string ⟨#[]⟩, .int .i64 0, .slice none 0 0] 58)).heap.size = tb + 1 := by rw [World.size_alloc, htb]
  rw [← htb]
  rw [← htb] at b3
  have htb1 : w.heap.size + 2 ≤ tb := by omega
  have h2s : y2.heap.size = tb := htb.symm
  generalize y2.alloc (.cells #[.slice none 0 0, .string ⟨#[]⟩, .int .i64 0, .slice none 0 0] 58) = y3 at *
  clear xb xr o2 b12 b2 r1 b1 htb hs2 COn CNm CNu
  have xt' := Lib.hid xt
  clear xt
  go_wp2_with fail
  go_loopw [8, 9, 25] (fun va vr vi wr => ∃ (k na c3 : Nat) (A3 : Option Addr), k ≤ segs.length ∧ vi = .int .i64 k ∧ vr = .int .i64 k ∧ va = .slice A3 na c3 ∧ wr.ownsRow (tb + 1) 46 2 (.slice A3 na c3) na (fcells (FrameP.frS (segs.take k))) ∧ tb < wr.heap.size ∧ Below tb y2 wr ∧
    Hid (wr.heap[tb]? = some (.cells #[.slice none 0 0, .string (fileB (fileK segs k)), .int .i64 (keepK segs k : Nat), .slice none 0 0] 58 (0, 0))) ∧ Hid (na = (FrameP.frS (segs.take k)).length ∧ (k = 0 ∨ (FrameP.fst0 segs - 1 ≤ after ∧ FrameP.rdS segs after = k + FrameP.cntS (segs.drop k) (FrameP.fst0 segs + (FrameP.frS (segs.take k)).length))))) (fun _ _ vi _ => segs.length - (intOf vi).toNat)
  case atStart => exact ⟨0, 0, 0, none, by omega, rfl, rfl, rfl, World.ownsRow_nil _ _ _ _, by omega, b3, xt', Lib.hid ⟨by simp [FrameP.frS], .inl rfl⟩⟩
  case round =>
    obtain ⟨k, na, c3, A3, hk, rfl, rfl, rfl, ho, htbs, hb, HT, HF⟩ := hrel
    have HO := Lib.hid ho
    clear ho
    by_cases hlt : k < segs.length
    · obtain ⟨x, hx⟩ : ∃ x, segs[k]? = some x := ⟨segs[k], List.getElem?_eq_getElem hlt⟩
      obtain ⟨gn, rfl⟩ : ∃ gn, A2 = some ⟨gn, 0, none⟩ := by
        rcases row_sliceN HNS.out with ⟨_, h0⟩ | ⟨gw, cap, e1, _⟩
        · omega
        · exact ⟨gw, by injection e1⟩
      have zk := own_cell (own_below HNS.out (by rw [h2s]; exact hb)) k (.int .i64 x.1) (by rw [List.getElem?_map, hx]; rfl)
      obtain ⟨xz, hxz⟩ : ∃ xz, segs[0]? = some xz := ⟨segs[0]'(by omega), List.getElem?_eq_getElem _⟩
      have hf0 := FrameP.fst0_at hxz
      have zz := own_cell (own_below HNS.out (by rw [h2s]; exact hb)) 0 (.int .i64 (FrameP.fst0 segs)) (by rw [List.getElem?_map, hxz, hf0]; rfl)
      have x3 := bx_cells ((hb.block w.heap.size (by omega)).trans HXB.out) 0
      have hrx := HRG.out x.1 (List.mem_map.2 ⟨x, List.mem_of_getElem? hx, rfl⟩)
      have hrz := HRG.out xz.1 (List.mem_map.2 ⟨xz, List.mem_of_getElem? hxz, rfl⟩)
      rw [← hf0] at hrz
      have hi1 : (k : Int) < (segs.length : Int) := by omega
      have hi9 : (0 : Int) < (segs.length : Int) := by omega
      have hna0 : na ≤ 1000 := by have := HF.out.1; have := FrameP.frS_take_le segs k; have := HS.out.few; omega
      have HN := Lib.hid HF.out.1
      have HX := Lib.hid hx
      have HXZ := Lib.hid hxz
      by_cases hk0 : k = 0
      · have gk : ((k : Int) == 0) = true := by simp; omega
        have gk2 : ¬ (0 : Int) < (k : Int) := by omega
        by_cases haf : after < x.1 - 1
        · have HQ := Lib.hid (show FrameP.rdS segs after = k from by rw [hk0]; exact (FrameP.rdS_zero (by rw [← hk0]; exact hx)).1 haf)
          have ga : decide (after < x.1 - 1) = true := by simpa using haf
          have HK0 := Lib.hid hk0
          clear HF hx hxz hf0 hk0
          go_wp2_with fail
          have hcl : wr.heap[w.heap.size]? = some (.cells #[.int .i64 after] 3 (0, 0)) := (hb.block w.heap.size (by omega)).trans HXB.out
          have x3 := bx_cells hcl 0
          have HRW := Lib.hid (show FrameP.Row (FrameP.frS (segs.take (k))) (FrameP.fst0 segs) from by have := FrameP.rdS_row segs after; rwa [HQ.out] at this)
          have hna9 : na ≤ 1000 := by have := HN.out; have := FrameP.frS_take_le segs (k); have := HS.out.few; omega
          by_cases hA : FrameP.frS (segs.take (k)) = [] ∨ FrameP.fst0 segs + (FrameP.frS (segs.take (k))).length - 1 < after
          · have HSC := Lib.hid (show FrameP.scanF segs after = ([], (none, 0), segs.map (·.1)) from by unfold FrameP.scanF; rw [HQ.out, if_pos hA])
            have CF0' : ∀ W : World, Below tb y2 W → tb < W.heap.size → Calls Tryz.prog 48 #[.slice (some ⟨gn, 0, none⟩) segs.length c2] W fun e w' => ∃ A' c', e = .returned (.slice A' segs.length c') ∧ w'.ownsRow (tb + 1) 9 1 (.slice A' segs.length c') segs.length ((segs.map (·.1)).map fun n => Value.string (tB n)) ∧ Below W.heap.size W w' := fun W hW hWs => by
              have := CFl.out 0 (some ⟨gn, 0, none⟩) c2 W (hB2.trans (hW.mono (by omega))) (by
                have := (Rd.own HNS.out).below (by rw [h2s]; exact hW) |>.more (by have := hW.size; omega)
                rw [List.map_map]
                exact this)
              rw [List.drop_zero, List.length_map] at this
              refine this.mono ?_
              rintro e w' ⟨A', c', e1, o, hb'⟩
              exact ⟨A', c', e1, own_monoN o hWs, hb'⟩
            have CF0 := Lib.hid CF0'
            clear CF0'
            by_cases h0 : na = 0
            · have g0 : ((na : Int) == 0) = true := by simp; omega
              clear hA hcl
              go_quiet (fail)
              have hbq : Below tb y2 (wr.drewN nq) := below_drewN hb nq
              have hbqs : tb < (wr.drewN nq).heap.size := Nat.lt_of_lt_of_le htbs (below_drewN (Below.refl 0 wr) nq).size
              ((go_wp2_with (go_at_call 48; ((with_reducible refine (CF0.out _ hbq hbqs).mono ?_); rintro e z1 ⟨A9, c9, rfl, o9, b9⟩; have hbz := hbq.trans (b9.mono (by have := hbq.size; omega)); have xr1 := (hbz.block (w.heap.size + 1) (by omega)).trans HXR.out; have r0 := bx_cells xr1 0; have r1 := bx_cells xr1 1; have r2 := bx_cells xr1 2; have r3 := bx_cells xr1 3; have f0 := bx_free xr1 0; have f1 := bx_free xr1 1; have f2 := bx_free xr1 2; have f3 := bx_free xr1 3))); have hzz := bx_set (bx_set (bx_set (bx_set xr1 0 (.slice none 0 0)) 1 (.string ⟨#[]⟩)) 2 (.int .i64 0)) 3 (.slice A9 segs.length c9); have y0 := bx_cells hzz 0; have y1 := bx_cells hzz 1; have y2 := bx_cells hzz 2; have y3 := bx_cells hzz 3; rw [Exit.noGoto_ret]; refine bodyPost_ret (v := .tuple #[.agg #[.slice none 0 0, .string ⟨#[]⟩, .int .i64 0, .slice A9 segs.length c9], .int .i64 0]) (by rw [results_cell_tmp rfl]; go_simp) rfl ?_; rw [HSC.out]; exact scan_done (B := tb + 1) (hB2.trans (hbz.mono (by omega))) (by omega) (World.ownsRow_nil _ _ _ _) rfl o9 (by simp) rfl rfl _ _ _ _)
            · obtain ⟨m, hm⟩ : ∃ m, na = m + 1 := ⟨na - 1, by omega⟩
              obtain ⟨f, hf⟩ : ∃ f, (FrameP.frS (segs.take (k)))[m]? = some f := ⟨_, List.getElem?_eq_getElem (by rw [← HN.out]; omega)⟩
              have hf1 := HRW.out m f hf
              obtain ⟨gf, hgf⟩ : ∃ gf, A3 = some ⟨gf, 0, none⟩ := by
                rcases row_sliceN HO.out with ⟨_, h0⟩ | ⟨gw, cap, e1, _⟩
                · omega
                · exact ⟨gw, by injection e1⟩
              have z0 := HO.out.cells (g := gf) (by rw [hgf]; rfl) _ _ (fcells_get _ m f hf).1
              rw [add0] at z0
              have hlt1 : decide (f.1 < after) = true := by
                rw [decide_eq_true_eq]
                rcases hA with h | h
                · have := HN.out; rw [h] at this; simp at this; omega
                · have := HN.out; omega
              have g0 : ((na : Int) == 0) = false := by simp; omega
              have hi1 : (na : Int) - 1 = (m : Int) := by omega
              have hi2 : (m : Int) < (na : Int) := by omega
              have hi3 : m < na := by omega
              subst hgf
              clear hA hcl hf hf1 h0 hm
              go_quiet (fail)
              have hbq : Below tb y2 (wr.drewN nq) := below_drewN hb nq
              have hbqs : tb < (wr.drewN nq).heap.size := Nat.lt_of_lt_of_le htbs (below_drewN (Below.refl 0 wr) nq).size
              ((go_wp2_with (go_at_call 48; ((with_reducible refine (CF0.out _ hbq hbqs).mono ?_); rintro e z1 ⟨A9, c9, rfl, o9, b9⟩; have hbz := hbq.trans (b9.mono (by have := hbq.size; omega)); have xr1 := (hbz.block (w.heap.size + 1) (by omega)).trans HXR.out; have r0 := bx_cells xr1 0; have r1 := bx_cells xr1 1; have r2 := bx_cells xr1 2; have r3 := bx_cells xr1 3; have f0 := bx_free xr1 0; have f1 := bx_free xr1 1; have f2 := bx_free xr1 2; have f3 := bx_free xr1 3))); have hzz := bx_set (bx_set (bx_set (bx_set xr1 0 (.slice none 0 0)) 1 (.string ⟨#[]⟩)) 2 (.int .i64 0)) 3 (.slice A9 segs.length c9); have y0 := bx_cells hzz 0; have y1 := bx_cells hzz 1; have y2 := bx_cells hzz 2; have y3 := bx_cells hzz 3; rw [Exit.noGoto_ret]; refine bodyPost_ret (v := .tuple #[.agg #[.slice none 0 0, .string ⟨#[]⟩, .int .i64 0, .slice A9 segs.length c9], .int .i64 0]) (by rw [results_cell_tmp rfl]; go_simp) rfl ?_; rw [HSC.out]; exact scan_done (B := tb + 1) (hB2.trans (hbz.mono (by omega))) (by omega) (World.ownsRow_nil _ _ _ _) rfl o9 (by simp) rfl rfl _ _ _ _)
          · exact absurd (.inl (by rw [HK0.out]; rfl)) hA
        · have HC := Lib.hid (show FrameP.fst0 segs - 1 ≤ after ∧ FrameP.rdS segs after = k + FrameP.cntS (segs.drop k) (FrameP.fst0 segs + (FrameP.frS (segs.take k)).length) ∧ x.1 = FrameP.fst0 segs + (FrameP.frS (segs.take k)).length from by
            subst hk0
            have h1 := (FrameP.rdS_zero hx).2 haf
            rw [FrameP.fst0_at hx] at h1 ⊢
            exact ⟨by omega, by rw [h1]; simp [FrameP.frS], by simp [FrameP.frS]⟩)
          have ga : decide (after < x.1 - 1) = false := by simpa using haf
          clear HF hx hxz hf0 hk0 haf
          obtain ⟨hrd1, hrd2⟩ := HS.out.read k x HX.out
          obtain ⟨bs, hbs⟩ : ∃ bs : ByteArray, bs = ⟨x.2.toArray⟩ := ⟨_, rfl⟩
          have hbl : bs.data.toList = x.2 := by rw [hbs]
          have hbz : bs.size = x.2.length := by rw [hbs]; rfl
          rw [← hbs] at hrd1
          have COf' : ∀ W : World, Below tb y2 W → Calls Tryz.prog 45 #[.int .i64 1, .int .i64 x.1] W fun e w' => e = .returned (.string (tB x.1)) ∧ Below W.heap.size W w' := fun W hW => name_Of 1 x.1 (I64_small hrx) W (HT0.out W (hB2.trans (hW.mono (by omega))))
          have CRd' : ∀ W : World, Below tb y2 W → Calls Tryz.prog 14 #[.pointer (some ⟨d, 0, none⟩), .string (tB x.1)] W fun e w' => e = .returned (.tuple #[.string bs, .int .i64 0]) ∧ Below W.heap.size W w' := fun W hW => by
            have := disk_Read d A c S (tB x.1) HS.out.sorted (by omega) W (HH.out.kept (hB2.trans (hW.mono (by omega))))
            rw [hrd1] at this
            exact this
          obtain ⟨l, hl⟩ : ∃ l, l = FrameP.whole x.2 x.1 := ⟨_, rfl⟩
          obtain ⟨sz, hsz⟩ : ∃ sz, sz = FrameP.bytes l := ⟨_, rfl⟩
          have CWh' : ∀ W : World, Calls Tryz.prog 47 #[.string bs, .int .i64 x.1] W fun e w' => ∃ A c, e = .returned (.tuple #[.slice A l.length c, .int .i64 (sz : Nat)]) ∧ w'.ownsRow W.heap.size 46 2 (.slice A l.length c) l.length (fcells l) ∧ (l = [] → A = none ∧ c = 0) ∧ Below W.heap.size W w' := fun W => by
            have := rep_whole bs (by omega) x.1 hrx W
            rw [hbl, ← hl] at this
            unfold WholePost at this
            rw [← hsz] at this
            exact this
          have COf : CoS tb y2 x.1 (tB x.1) := ⟨COf'⟩
          have CRd : CrS tb d y2 (tB x.1) bs := ⟨CRd'⟩
          have CWh : CwS bs x.1 l.length l sz := ⟨CWh'⟩
          have HSN := Lib.hid (show FrameP.frS (segs.take (k + 1)) = FrameP.frS (segs.take k) ++ l by rw [FrameP.frS_take_snoc HX.out, ← hl])
          have hl1000 : l.length ≤ 1000 := by
            have h1 := FrameP.frS_take_le segs (k + 1)
            rw [HSN.out, List.length_append] at h1
            have := HS.out.few
            omega
          have HFK := Lib.hid (show tB x.1 = fileB (fileK segs (k + 1)) by unfold fileK; rw [if_neg (by omega), Nat.add_sub_cancel, HX.out]; rfl)
          have HKK := Lib.hid (show sz = keepK segs (k + 1) by unfold keepK; rw [if_neg (by omega), Nat.add_sub_cancel, HX.out, hsz, hl]; rfl)
          have hne : (Value.slice A3 na c3).ownBlock ≠ some tb := fun e => absurd (show tb + 1 ≤ tb from (HO.out.lt _ e).1) (by omega)
          generalize htg : tB x.1 = tg at *
          have HO5 : HoS tb na c3 A3 wr tg (FrameP.frS (segs.take k)) := ⟨(fun (u v z : World) (b5 : Below wr.heap.size wr u) (b6 : Below (u.setCell ⟨tb, 1, none⟩ (.string tg)).heap.size (u.setCell ⟨tb, 1, none⟩ (.string tg)) v) (b7 : Below v.heap.size v z) => own_below (own_below (ownsRow_setCell_other (own_below HO.out b5) (a := ⟨tb, 1, none⟩) hne (.string tg)) b6) b7)⟩
          by_cases hinc : FrameP.bytes (FrameP.whole x.2 x.1) < x.2.length
          · have HQ := Lib.hid (show FrameP.rdS segs after = k + 1 from by rw [HC.out.2.1, FrameP.cntS_one HX.out HC.out.2.2 hinc])
            have hin : (sz : Int) < (bs.size : Int) := by rw [← hl, ← hsz] at hinc; omega
            clear hinc hbl hbz hbs hrd1 hrd2 COf' CRd' CWh' hne htg
            by_cases hl0 : l = []
            · have HN1 := Lib.hid (show na = (FrameP.frS (segs.take (k + 1))).length by rw [HSN.out, hl0, List.append_nil]; exact HN.out)
              have HSN1 := Lib.hid (show FrameP.frS (segs.take (k + 1)) = FrameP.frS (segs.take k) by rw [HSN.out, hl0, List.append_nil])
              have hz0 : l.length = 0 := by rw [hl0]; rfl
              rw [hz0] at CWh
              have HL0 := Lib.hid hl0
              clear hl hsz hl0 hz0
              go_wp2_with (first | (first | (go_at_call 45; ((with_reducible refine (COf.out _ hb).mono ?_); rintro e w5 ⟨rfl, b5⟩; have hb5 := hb.trans (b5.mono (by have := hb.size; omega)); have xt5 := bx_kept HT.out b5; have p1 := bx_cells xt5 1; have pf1 := bx_free xt5 1; have xt5s := bx_set xt5 1 (.string tg); have p5 := bx_cells xt5s 1; have hb5s := hb5.setCell (p := ⟨tb, 1, none⟩) (Nat.le_refl _) (.string tg))) | (go_at_call 14; ((with_reducible refine (CRd.out _ hb5s).mono ?_); rintro e w6 ⟨rfl, b6⟩; have hb6 := hb5s.trans (b6.mono (by have := hb5s.size; omega)); have xt6 := bx_kept xt5s b6)) | (go_at_call 47; ((with_reducible refine (CWh.out _).mono ?_); rintro e z7 ⟨Al, cl, rfl, o7, hnil7, b7⟩; obtain ⟨rfl, rfl⟩ := hnil7 HL0.out; have hb7 := hb6.trans (b7.mono (by have := hb6.size; omega)); have xt7 := bx_kept xt6 b7; have p72 := bx_cells xt7 2; have pf72 := bx_free xt7 2))) | ((at_builtin; refine wpList_append_nil rfl _ _ 42 rfl (.slice A3 na c3) (by rfl) (by rfl) (append_nil_run _ _ _ (own_cap HO.out) _ _) ?_)))
              (have HT9 : Hid ((z7.setCell ⟨tb, 2, none⟩ (.int .i64 (sz : Nat))).heap[tb]? = some (.cells #[.slice none 0 0, .string (fileB (fileK segs (k + 1))), .int .i64 (keepK segs (k + 1) : Nat), .slice none 0 0] 58 (0, 0))) := Lib.hid (by have := bx_set xt7 2 (.int .i64 (sz : Nat)); rw [← HFK.out, ← HKK.out]; exact this)); (have hb9 := hb7.setCell (p := ⟨tb, 2, none⟩) (Nat.le_refl _) (.int .i64 (sz : Nat))); (have hs9 := bx_lt HT9.out); (have hneq := Lib.hid (show (Value.slice A3 na c3).ownBlock ≠ some tb from fun e => absurd (show tb + 1 ≤ tb from (HO.out.lt _ e).1) (by omega)))
              have HO9 : Hid ((z7.setCell ⟨tb, 2, none⟩ (.int .i64 (sz : Nat))).ownsRow (tb + 1) 46 2 (.slice A3 na c3) na (fcells (FrameP.frS (segs.take (k + 1))))) := Lib.hid (by rw [HSN1.out]; exact ownsRow_setCell_other (HO5.out _ _ _ b5 b6 b7) (a := ⟨tb, 2, none⟩) hneq.out (.int .i64 (sz : Nat)))
              obtain ⟨zw, hzw⟩ : ∃ zw, zw = z7.setCell ⟨tb, 2, none⟩ (.int .i64 (sz : Nat)) := ⟨_, rfl⟩
              rw [← hzw] at HT9 hb9 hs9 HO9 ⊢
              clear hzw hneq p72 pf72 xt7 hb7 hnil7 b7 o7 xt6 hb6 b6 hb5s p5 xt5s pf1 p1 xt5 hb5 b5 HO5 zk zz x3 CWh CRd COf HT HO hb hin htbs
              obtain ⟨q, hq⟩ : ∃ q, q = k + 1 := ⟨_, rfl⟩
              have hqc : (k : Int) + 1 = (q : Int) := by omega
              rw [← hq] at HT9 HO9 HN1 HQ
              rw [hqc]
              clear hqc hq HSN1 HSN HL0 HFK HKK HC HX HXZ hi1 gk gk2 ga hna0 hk
              have hcl : zw.heap[w.heap.size]? = some (.cells #[.int .i64 after] 3 (0, 0)) := (hb9.block w.heap.size (by omega)).trans HXB.out
              have x3 := bx_cells hcl 0
              have HRW := Lib.hid (show FrameP.Row (FrameP.frS (segs.take (q))) (FrameP.fst0 segs) from by have := FrameP.rdS_row segs after; rwa [HQ.out] at this)
              have hna9 : na ≤ 1000 := by have := HN1.out; have := FrameP.frS_take_le segs (q); have := HS.out.few; omega
              by_cases hA : FrameP.frS (segs.take (q)) = [] ∨ FrameP.fst0 segs + (FrameP.frS (segs.take (q))).length - 1 < after
              · have HSC := Lib.hid (show FrameP.scanF segs after = ([], (none, 0), segs.map (·.1)) from by unfold FrameP.scanF; rw [HQ.out, if_pos hA])
                have CF0' : ∀ W : World, Below tb y2 W → tb < W.heap.size → Calls Tryz.prog 48 #[.slice (some ⟨gn, 0, none⟩) segs.length c2] W fun e w' => ∃ A' c', e = .returned (.slice A' segs.length c') ∧ w'.ownsRow (tb + 1) 9 1 (.slice A' segs.length c') segs.length ((segs.map (·.1)).map fun n => Value.string (tB n)) ∧ Below W.heap.size W w' := fun W hW hWs => by
                  have := CFl.out 0 (some ⟨gn, 0, none⟩) c2 W (hB2.trans (hW.mono (by omega))) (by
                    have := (Rd.own HNS.out).below (by rw [h2s]; exact hW) |>.more (by have := hW.size; omega)
                    rw [List.map_map]
                    exact this)
                  rw [List.drop_zero, List.length_map] at this
                  refine this.mono ?_
                  rintro e w' ⟨A', c', e1, o, hb'⟩
                  exact ⟨A', c', e1, own_monoN o hWs, hb'⟩
                have CF0 := Lib.hid CF0'
                clear CF0'
                by_cases h0 : na = 0
                · have g0 : ((na : Int) == 0) = true := by simp; omega
                  clear hA hcl
                  go_quiet (fail)
                  have hbq : Below tb y2 (zw.drewN nq) := below_drewN hb9 nq
                  have hbqs : tb < (zw.drewN nq).heap.size := Nat.lt_of_lt_of_le hs9 (below_drewN (Below.refl 0 zw) nq).size
                  ((go_wp2_with (go_at_call 48; ((with_reducible refine (CF0.out _ hbq hbqs).mono ?_); rintro e z1 ⟨A9, c9, rfl, o9, b9⟩; have hbz := hbq.trans (b9.mono (by have := hbq.size; omega)); have xr1 := (hbz.block (w.heap.size + 1) (by omega)).trans HXR.out; have r0 := bx_cells xr1 0; have r1 := bx_cells xr1 1; have r2 := bx_cells xr1 2; have r3 := bx_cells xr1 3; have f0 := bx_free xr1 0; have f1 := bx_free xr1 1; have f2 := bx_free xr1 2; have f3 := bx_free xr1 3))); have hzz := bx_set (bx_set (bx_set (bx_set xr1 0 (.slice none 0 0)) 1 (.string ⟨#[]⟩)) 2 (.int .i64 0)) 3 (.slice A9 segs.length c9); have y0 := bx_cells hzz 0; have y1 := bx_cells hzz 1; have y2 := bx_cells hzz 2; have y3 := bx_cells hzz 3; rw [Exit.noGoto_ret]; refine bodyPost_ret (v := .tuple #[.agg #[.slice none 0 0, .string ⟨#[]⟩, .int .i64 0, .slice A9 segs.length c9], .int .i64 0]) (by rw [results_cell_tmp rfl]; go_simp) rfl ?_; rw [HSC.out]; exact scan_done (B := tb + 1) (hB2.trans (hbz.mono (by omega))) (by omega) (World.ownsRow_nil _ _ _ _) rfl o9 (by simp) rfl rfl _ _ _ _)
                · obtain ⟨m, hm⟩ : ∃ m, na = m + 1 := ⟨na - 1, by omega⟩
                  obtain ⟨f, hf⟩ : ∃ f, (FrameP.frS (segs.take (q)))[m]? = some f := ⟨_, List.getElem?_eq_getElem (by rw [← HN1.out]; omega)⟩
                  have hf1 := HRW.out m f hf
                  obtain ⟨gf, hgf⟩ : ∃ gf, A3 = some ⟨gf, 0, none⟩ := by
                    rcases row_sliceN HO9.out with ⟨_, h0⟩ | ⟨gw, cap, e1, _⟩
                    · omega
                    · exact ⟨gw, by injection e1⟩
                  have z0 := HO9.out.cells (g := gf) (by rw [hgf]; rfl) _ _ (fcells_get _ m f hf).1
                  rw [add0] at z0
                  have hlt1 : decide (f.1 < after) = true := by
                    rw [decide_eq_true_eq]
                    rcases hA with h | h
                    · have := HN1.out; rw [h] at this; simp at this; omega
                    · have := HN1.out; omega
                  have g0 : ((na : Int) == 0) = false := by simp; omega
                  have hi1 : (na : Int) - 1 = (m : Int) := by omega
                  have hi2 : (m : Int) < (na : Int) := by omega
                  have hi3 : m < na := by omega
                  subst hgf
                  clear hA hcl hf hf1 h0 hm
                  go_quiet (fail)
                  have hbq : Below tb y2 (zw.drewN nq) := below_drewN hb9 nq
                  have hbqs : tb < (zw.drewN nq).heap.size := Nat.lt_of_lt_of_le hs9 (below_drewN (Below.refl 0 zw) nq).size
                  ((go_wp2_with (go_at_call 48; ((with_reducible refine (CF0.out _ hbq hbqs).mono ?_); rintro e z1 ⟨A9, c9, rfl, o9, b9⟩; have hbz := hbq.trans (b9.mono (by have := hbq.size; omega)); have xr1 := (hbz.block (w.heap.size + 1) (by omega)).trans HXR.out; have r0 := bx_cells xr1 0; have r1 := bx_cells xr1 1; have r2 := bx_cells xr1 2; have r3 := bx_cells xr1 3; have f0 := bx_free xr1 0; have f1 := bx_free xr1 1; have f2 := bx_free xr1 2; have f3 := bx_free xr1 3))); have hzz := bx_set (bx_set (bx_set (bx_set xr1 0 (.slice none 0 0)) 1 (.string ⟨#[]⟩)) 2 (.int .i64 0)) 3 (.slice A9 segs.length c9); have y0 := bx_cells hzz 0; have y1 := bx_cells hzz 1; have y2 := bx_cells hzz 2; have y3 := bx_cells hzz 3; rw [Exit.noGoto_ret]; refine bodyPost_ret (v := .tuple #[.agg #[.slice none 0 0, .string ⟨#[]⟩, .int .i64 0, .slice A9 segs.length c9], .int .i64 0]) (by rw [results_cell_tmp rfl]; go_simp) rfl ?_; rw [HSC.out]; exact scan_done (B := tb + 1) (hB2.trans (hbz.mono (by omega))) (by omega) (World.ownsRow_nil _ _ _ _) rfl o9 (by simp) rfl rfl _ _ _ _)
              · have hnil : FrameP.frS (segs.take (q)) ≠ [] := fun e => hA (.inl e)
                have hlast : ¬ FrameP.fst0 segs + (FrameP.frS (segs.take (q))).length - 1 < after := fun e => hA (.inr e)
                have hq0 : 0 < q := by
                  rcases Nat.eq_zero_or_pos (q) with h | h
                  · exact absurd (by rw [h]; rfl) hnil
                  · exact h
                have hqs : q ≤ segs.length := by have := FrameP.rdS_le segs after; rwa [HQ.out] at this
                obtain ⟨q', hq'⟩ : ∃ q', q' = (after - FrameP.fst0 segs + 1).toNat := ⟨_, rfl⟩
                have HSC := Lib.hid (show FrameP.scanF segs after = ((FrameP.frS (segs.take (q))).drop q', (fileK segs (q), keepK segs (q)), (segs.drop (q)).map (·.1)) from by
                  unfold FrameP.scanF fileK keepK
                  rw [HQ.out, if_neg hA, hq', if_neg (by omega), if_neg (by omega)])
                obtain ⟨m, hm⟩ : ∃ m, na = m + 1 := ⟨na - 1, by have := HN1.out; have := List.length_pos_iff.2 hnil; omega⟩
                obtain ⟨f, hf⟩ : ∃ f, (FrameP.frS (segs.take (q)))[m]? = some f := ⟨_, List.getElem?_eq_getElem (by rw [← HN1.out]; omega)⟩
                have hf1 := HRW.out m f hf
                obtain ⟨gf, hgf⟩ : ∃ gf, A3 = some ⟨gf, 0, none⟩ := by
                  rcases row_sliceN HO9.out with ⟨_, h0⟩ | ⟨gw, cap, e1, _⟩
                  · omega
                  · exact ⟨gw, by injection e1⟩
                subst hgf
                have z0 := HO9.out.cells (g := gf) rfl _ _ (fcells_get _ m f hf).1
                rw [add0] at z0
                have hgf1 := HO9.out.lt gf rfl
                have hlt1 : decide (f.1 < after) = false := by
                  rw [decide_eq_false_iff_not]
                  have := HN1.out
                  omega
                have g0 : ((na : Int) == 0) = false := by simp; omega
                have hi1 : (na : Int) - 1 = (m : Int) := by omega
                have hi2 : (m : Int) < (na : Int) := by omega
                have hi3 : m < na := by omega
                have CDl' : ∀ W : World, Below tb y2 W → W.ownsRow (tb + 1) 46 2 (.slice (some ⟨gf, 0, none⟩) na c3) na (fcells (FrameP.frS (segs.take (q)))) → tb < W.heap.size → Calls Tryz.prog 49 #[.slice (some ⟨gf, 0, none⟩) na c3, .func (.func 50) #[] #[.pointer (some ⟨w.heap.size, 0, none⟩)]] W fun e w' => e = .returned (.slice (some ⟨gf, 0, none⟩) (na - q') c3) ∧ w'.ownsRow (tb + 1) 46 2 (.slice (some ⟨gf, 0, none⟩) (na - q') c3) (na - q') (fcells ((FrameP.frS (segs.take (q))).drop q')) ∧ W.grownBy w' (some gf) := fun W hW ho hs => by
                  have := rep_Delete (tb + 1) gf c3 (FrameP.frS (segs.take (q))) (by rw [← HN1.out]; omega) (FrameP.fst0 segs) HRW.out hnil q' (by rw [hq']; omega) w.heap.size after (by rw [hq']; omega) W ((bx_cells ((hW.block w.heap.size (by omega)).trans HXB.out) 0).trans rfl) (by omega) hs (by rw [← HN1.out]; exact ho)
                  rw [← HN1.out] at this
                  exact this
                have CDl := Lib.hid CDl'
                have CFq' : ∀ (A' : Option Addr) (c' : Nat) (W : World), Below tb y2 W → tb < W.heap.size → Rd W W.heap.size A' (((segs.drop (q)).map (·.1)).map (Value.int .i64)) → Calls Tryz.prog 48 #[.slice A' (segs.length - (q)) c'] W fun e w' => ∃ A'' c'', e = .returned (.slice A'' (segs.length - (q)) c'') ∧ w'.ownsRow (tb + 1) 9 1 (.slice A'' (segs.length - (q)) c'') (segs.length - (q)) (((segs.drop (q)).map (·.1)).map fun n => Value.string (tB n)) ∧ Below W.heap.size W w' := fun A' c' W hW hWs hr => by
                  have := CFl.out (q) A' c' W (hB2.trans (hW.mono (by omega))) hr
                  rw [List.length_map, List.length_drop] at this
                  refine this.mono ?_
                  rintro e w' ⟨A', c', e1, o, hb'⟩
                  exact ⟨A', c', e1, own_monoN o hWs, hb'⟩
                have CFq := Lib.hid CFq'
                have hcap2 := own_cap HNS.out
                have hdl : (FrameP.frS (segs.take (q))).length - q' = ((FrameP.frS (segs.take (q))).drop q').length := by rw [List.length_drop]
                rw [← HN1.out] at hdl
                have HDL := Lib.hid hdl
                have hi4 : ((q : Nat) : Int) ≤ (segs.length : Int) := by omega
                have hi5 : ((q : Nat) : Int) ≤ (c2 : Int) := by omega
                have hi6 : (segs.length : Int) ≤ (c2 : Int) := by omega
                by_cases hcq : c2 = q
                · have HRD := Lib.hid (fun (W : World) (_ : Below tb y2 W) => (show Rd W W.heap.size (some ⟨gn, 0, none⟩) (((segs.drop (q)).map (·.1)).map (Value.int .i64)) from by rw [List.drop_eq_nil_of_le (by omega)]; exact fun j u hj => by simp at hj))
                  clear hA hcl hf hf1 hm hq' hnil hlast CDl' CFq' hdl
                  go_quiet (fail)
                  have hbq : Below tb y2 (zw.drewN nq) := below_drewN hb9 nq
                  have hwq : Below zw.heap.size zw (zw.drewN nq) := below_drewN (Below.refl _ zw) nq
                  have hbqs : tb < (zw.drewN nq).heap.size := Nat.lt_of_lt_of_le hs9 hwq.size
                  ((go_wp2_with (first | (go_at_call 49; (((with_reducible refine (CDl.out _ hbq (own_below HO9.out hwq) hbqs).mono ?_); rintro e z1 ⟨rfl, o1, g1⟩; have hbz := hbq.grown g1 (by omega) (fun k e => by cases e; omega); have xt1 := (g1.block tb hbqs (by simp; omega)).trans ((hwq.block tb hs9).trans HT9.out); have p0 := bx_cells xt1 0; have pf0 := bx_free xt1 0; have xt2 := bx_set xt1 0 (.slice (some ⟨gf, 0, none⟩) (na - q') c3); have hbZ := hbz.setCell (p := ⟨tb, 0, none⟩) (Nat.le_refl _) (.slice (some ⟨gf, 0, none⟩) (na - q') c3); have oZ := ownsRow_setCell_other o1 (a := ⟨tb, 0, none⟩) (by simp [Value.ownBlock]; omega) (.slice (some ⟨gf, 0, none⟩) (na - q') c3); have hZs := bx_lt xt2))) | (go_at_call 48; (((with_reducible refine (CFq.out _ _ _ hbZ hZs (HRD.out _ hbZ)).mono ?_); rintro e z2 ⟨A9, c9, rfl, o9, b9⟩; have hbz2 := hbZ.trans (b9.mono (by omega)); have xt3 := bx_kept xt2 b9; have q0 := bx_cells xt3 0; have q1 := bx_cells xt3 1; have q2 := bx_cells xt3 2; have q3 := bx_cells xt3 3; have qf3 := bx_free xt3 3; have xr1 := (hbz2.block (w.heap.size + 1) (by omega)).trans HXR.out; have xr2 := (heap_setCell_other z2 ⟨tb, 3, none⟩ (w.heap.size + 1) (.slice A9 (segs.length - (q)) c9) (by show w.heap.size + 1 ≠ tb; omega)).trans xr1; have r0 := bx_cells xr2 0; have r1 := bx_cells xr2 1; have r2 := bx_cells xr2 2; have r3 := bx_cells xr2 3; have f0 := bx_free xr2 0; have f1 := bx_free xr2 1; have f2 := bx_free xr2 2; have f3 := bx_free xr2 3))))); have hzz := bx_set (bx_set (bx_set (bx_set xr2 0 (.slice (some ⟨gf, 0, none⟩) (na - q') c3)) 1 (.string (fileB (fileK segs (q))))) 2 (.int .i64 (keepK segs (q) : Nat))) 3 (.slice A9 (segs.length - (q)) c9); have y0 := bx_cells hzz 0; have y1 := bx_cells hzz 1; have y2 := bx_cells hzz 2; have y3 := bx_cells hzz 3; rw [Exit.noGoto_ret]; refine bodyPost_ret (v := .tuple #[.agg #[.slice (some ⟨gf, 0, none⟩) (na - q') c3, .string (fileB (fileK segs (q))), .int .i64 (keepK segs (q) : Nat), .slice A9 (segs.length - (q)) c9], .int .i64 0]) (by rw [results_cell_tmp rfl]; go_simp) rfl ?_; rw [HSC.out]; exact scan_done (B := tb + 1) ((hB2.trans (hbz2.mono (by omega))).setCell (p := ⟨tb, 3, none⟩) (by show w.heap.size ≤ tb; omega) _) (by omega) (ownsRow_setCell_other (own_below oZ b9) (a := ⟨tb, 3, none⟩) (by simp [Value.ownBlock]; omega) _) HDL.out (ownsRow_setCell_other o9 (a := ⟨tb, 3, none⟩) (fun e => absurd (show tb + 1 ≤ tb from (o9.lt _ e).1) (by omega)) _) (by simp) rfl rfl _ _ _ _)
                · have HRD := Lib.hid (fun (W : World) (hW : Below tb y2 W) => (show Rd W W.heap.size (some ⟨gn, q, none⟩) (((segs.drop (q)).map (·.1)).map (Value.int .i64)) from by
                    have := Rd.tail (own_below HNS.out (by rw [h2s]; exact hW)) (q)
                    rw [← List.map_drop] at this
                    rw [List.map_map]
                    exact this))
                  clear hA hcl hf hf1 hm hq' hnil hlast CDl' CFq' hdl
                  go_quiet (fail)
                  have hbq : Below tb y2 (zw.drewN nq) := below_drewN hb9 nq
                  have hwq : Below zw.heap.size zw (zw.drewN nq) := below_drewN (Below.refl _ zw) nq
                  have hbqs : tb < (zw.drewN nq).heap.size := Nat.lt_of_lt_of_le hs9 hwq.size
                  ((go_wp2_with (first | (go_at_call 49; (((with_reducible refine (CDl.out _ hbq (own_below HO9.out hwq) hbqs).mono ?_); rintro e z1 ⟨rfl, o1, g1⟩; have hbz := hbq.grown g1 (by omega) (fun k e => by cases e; omega); have xt1 := (g1.block tb hbqs (by simp; omega)).trans ((hwq.block tb hs9).trans HT9.out); have p0 := bx_cells xt1 0; have pf0 := bx_free xt1 0; have xt2 := bx_set xt1 0 (.slice (some ⟨gf, 0, none⟩) (na - q') c3); have hbZ := hbz.setCell (p := ⟨tb, 0, none⟩) (Nat.le_refl _) (.slice (some ⟨gf, 0, none⟩) (na - q') c3); have oZ := ownsRow_setCell_other o1 (a := ⟨tb, 0, none⟩) (by simp [Value.ownBlock]; omega) (.slice (some ⟨gf, 0, none⟩) (na - q') c3); have hZs := bx_lt xt2))) | (go_at_call 48; (((with_reducible refine (CFq.out _ _ _ hbZ hZs (HRD.out _ hbZ)).mono ?_); rintro e z2 ⟨A9, c9, rfl, o9, b9⟩; have hbz2 := hbZ.trans (b9.mono (by omega)); have xt3 := bx_kept xt2 b9; have q0 := bx_cells xt3 0; have q1 := bx_cells xt3 1; have q2 := bx_cells xt3 2; have q3 := bx_cells xt3 3; have qf3 := bx_free xt3 3; have xr1 := (hbz2.block (w.heap.size + 1) (by omega)).trans HXR.out; have xr2 := (heap_setCell_other z2 ⟨tb, 3, none⟩ (w.heap.size + 1) (.slice A9 (segs.length - (q)) c9) (by show w.heap.size + 1 ≠ tb; omega)).trans xr1; have r0 := bx_cells xr2 0; have r1 := bx_cells xr2 1; have r2 := bx_cells xr2 2; have r3 := bx_cells xr2 3; have f0 := bx_free xr2 0; have f1 := bx_free xr2 1; have f2 := bx_free xr2 2; have f3 := bx_free xr2 3))))); have hzz := bx_set (bx_set (bx_set (bx_set xr2 0 (.slice (some ⟨gf, 0, none⟩) (na - q') c3)) 1 (.string (fileB (fileK segs (q))))) 2 (.int .i64 (keepK segs (q) : Nat))) 3 (.slice A9 (segs.length - (q)) c9); have y0 := bx_cells hzz 0; have y1 := bx_cells hzz 1; have y2 := bx_cells hzz 2; have y3 := bx_cells hzz 3; rw [Exit.noGoto_ret]; refine bodyPost_ret (v := .tuple #[.agg #[.slice (some ⟨gf, 0, none⟩) (na - q') c3, .string (fileB (fileK segs (q))), .int .i64 (keepK segs (q) : Nat), .slice A9 (segs.length - (q)) c9], .int .i64 0]) (by rw [results_cell_tmp rfl]; go_simp) rfl ?_; rw [HSC.out]; exact scan_done (B := tb + 1) ((hB2.trans (hbz2.mono (by omega))).setCell (p := ⟨tb, 3, none⟩) (by show w.heap.size ≤ tb; omega) _) (by omega) (ownsRow_setCell_other (own_below oZ b9) (a := ⟨tb, 3, none⟩) (by simp [Value.ownBlock]; omega) _) HDL.out (ownsRow_setCell_other o9 (a := ⟨tb, 3, none⟩) (fun e => absurd (show tb + 1 ≤ tb from (o9.lt _ e).1) (by omega)) _) (by simp) rfl rfl _ _ _ _)
            · obtain ⟨m', hm'⟩ : ∃ m', l.length = m' + 1 := ⟨l.length - 1, by have := List.length_pos_iff.2 hl0; omega⟩
              obtain ⟨N, hNN⟩ : ∃ N, na + (m' + 1) = N := ⟨_, rfl⟩
              rw [hm'] at CWh
              have HML := Lib.hid hm'
              have HNN := Lib.hid hNN
              have HN1 := Lib.hid (show N = (FrameP.frS (segs.take (k + 1))).length by rw [HSN.out, List.length_append, hm', ← HN.out, hNN])
              have hm1000 : m' + 1 ≤ 1000 := by omega
              have hneq := Lib.hid (show (Value.slice A3 na c3).ownBlock ≠ some tb from fun e => absurd (show tb + 1 ≤ tb from (HO.out.lt _ e).1) (by omega))
              clear hl hsz hl0 hm' hNN hl1000
              go_wp2_with (first | (go_at_call 45; ((with_reducible refine (COf.out _ hb).mono ?_); rintro e w5 ⟨rfl, b5⟩; have hb5 := hb.trans (b5.mono (by have := hb.size; omega)); have xt5 := bx_kept HT.out b5; have p1 := bx_cells xt5 1; have pf1 := bx_free xt5 1; have xt5s := bx_set xt5 1 (.string tg); have p5 := bx_cells xt5s 1; have hb5s := hb5.setCell (p := ⟨tb, 1, none⟩) (Nat.le_refl _) (.string tg))) | (go_at_call 14; ((with_reducible refine (CRd.out _ hb5s).mono ?_); rintro e w6 ⟨rfl, b6⟩; have hb6 := hb5s.trans (b6.mono (by have := hb5s.size; omega)); have xt6 := bx_kept xt5s b6)) | (go_at_call 47; ((with_reducible refine (CWh.out _).mono ?_); rintro e z7 ⟨Al, cl, rfl, o7, hnil7, b7⟩; obtain ⟨gl, rfl⟩ : ∃ gl, Al = some ⟨gl, 0, none⟩ := (by rcases row_sliceN o7 with ⟨_, h0⟩ | ⟨gl, cap, e1, _⟩ <;> first | (exact absurd h0 (by omega)) | (exact ⟨gl, by injection e1⟩)); have hb7 := hb6.trans (b7.mono (by have := hb6.size; omega)); have xt7 := bx_kept xt6 b7; have p72 := bx_cells xt7 2; have pf72 := bx_free xt7 2)) | (at_builtin; (refine wpList_append_own _ rfl _ _ 42 rfl (tb + 1) 46 i0 (.agg #[.int .i64 0, .string ⟨#[]⟩]) 2 24 Tryz.underlying42 HI.out.1 HI.out.2.1 HI.out.2.2.1 HI.out.2.2.2 rfl (by decide) _ _ _ (by rfl) (HO5.out _ _ _ b5 b6 b7) ⟨gl, 0, none⟩ (m' + 1) cl (fcells l) (by rfl) (by rw [fcells_length, HML.out]) (fun j u hj => o7.cells (g := gl) rfl j u hj) (fcells_one l) (by unfold maxLen; omega) (by omega) (bx_lt xt7) ?_; intro v8 z8 ho8 hg8 _; rw [HNN.out] at ho8; obtain ⟨A8, c8, rfl⟩ := own_slice ho8; have hb8 := hb7.grown hg8 (Nat.le_of_lt (bx_lt xt7)) (fun k e => by have := (HO.out.lt k e).1; omega); have xt8 := (hg8.block tb (bx_lt xt7) (fun e => hneq.out e.symm)).trans xt7; have p82 := bx_cells xt8 2; have pf82 := bx_free xt8 2)))
              (have HT9 : Hid ((z8.setCell ⟨tb, 2, none⟩ (.int .i64 (sz : Nat))).heap[tb]? = some (.cells #[.slice none 0 0, .string (fileB (fileK segs (k + 1))), .int .i64 (keepK segs (k + 1) : Nat), .slice none 0 0] 58 (0, 0))) := Lib.hid (by have := bx_set xt8 2 (.int .i64 (sz : Nat)); rw [← HFK.out, ← HKK.out]; exact this)); (have hb9 := hb8.setCell (p := ⟨tb, 2, none⟩) (Nat.le_refl _) (.int .i64 (sz : Nat))); (have hs9 := bx_lt HT9.out); (have HO9 : Hid ((z8.setCell ⟨tb, 2, none⟩ (.int .i64 (sz : Nat))).ownsRow (tb + 1) 46 2 (.slice A8 N c8) N (fcells (FrameP.frS (segs.take (k + 1))))) := Lib.hid (by rw [HSN.out, fcells_app]; exact ownsRow_setCell_other ho8 (a := ⟨tb, 2, none⟩) (fun e => absurd (show tb + 1 ≤ tb from (ho8.lt _ e).1) (by omega)) (.int .i64 (sz : Nat))))
              obtain ⟨zw, hzw⟩ : ∃ zw, zw = z8.setCell ⟨tb, 2, none⟩ (.int .i64 (sz : Nat)) := ⟨_, rfl⟩
              rw [← hzw] at HT9 hb9 hs9 HO9 ⊢
              clear hzw hneq xt8 p82 pf82 hb8 hg8 ho8 xt7 hb7 hnil7 b7 o7 xt6 hb6 b6 hb5s p5 xt5s pf1 p1 xt5 hb5 b5 HO5 zk zz x3 CWh CRd COf HT HO hb hin htbs
              obtain ⟨q, hq⟩ : ∃ q, q = k + 1 := ⟨_, rfl⟩
              have hqc : (k : Int) + 1 = (q : Int) := by omega
              rw [← hq] at HT9 HO9 HN1 HQ
              rw [hqc]
              clear hqc hq HSN HML HNN HFK HKK HC HX HXZ hi1 gk gk2 ga hna0 hk
              have hcl : zw.heap[w.heap.size]? = some (.cells #[.int .i64 after] 3 (0, 0)) := (hb9.block w.heap.size (by omega)).trans HXB.out
              have x3 := bx_cells hcl 0
              have HRW := Lib.hid (show FrameP.Row (FrameP.frS (segs.take (q))) (FrameP.fst0 segs) from by have := FrameP.rdS_row segs after; rwa [HQ.out] at this)
              have hna9 : N ≤ 1000 := by have := HN1.out; have := FrameP.frS_take_le segs (q); have := HS.out.few; omega
              by_cases hA : FrameP.frS (segs.take (q)) = [] ∨ FrameP.fst0 segs + (FrameP.frS (segs.take (q))).length - 1 < after
              · have HSC := Lib.hid (show FrameP.scanF segs after = ([], (none, 0), segs.map (·.1)) from by unfold FrameP.scanF; rw [HQ.out, if_pos hA])
                have CF0' : ∀ W : World, Below tb y2 W → tb < W.heap.size → Calls Tryz.prog 48 #[.slice (some ⟨gn, 0, none⟩) segs.length c2] W fun e w' => ∃ A' c', e = .returned (.slice A' segs.length c') ∧ w'.ownsRow (tb + 1) 9 1 (.slice A' segs.length c') segs.length ((segs.map (·.1)).map fun n => Value.string (tB n)) ∧ Below W.heap.size W w' := fun W hW hWs => by
                  have := CFl.out 0 (some ⟨gn, 0, none⟩) c2 W (hB2.trans (hW.mono (by omega))) (by
                    have := (Rd.own HNS.out).below (by rw [h2s]; exact hW) |>.more (by have := hW.size; omega)
                    rw [List.map_map]
                    exact this)
                  rw [List.drop_zero, List.length_map] at this
                  refine this.mono ?_
                  rintro e w' ⟨A', c', e1, o, hb'⟩
                  exact ⟨A', c', e1, own_monoN o hWs, hb'⟩
                have CF0 := Lib.hid CF0'
                clear CF0'
                by_cases h0 : N = 0
                · have g0 : ((N : Int) == 0) = true := by simp; omega
                  clear hA hcl
                  go_quiet (fail)
                  have hbq : Below tb y2 (zw.drewN nq) := below_drewN hb9 nq
                  have hbqs : tb < (zw.drewN nq).heap.size := Nat.lt_of_lt_of_le hs9 (below_drewN (Below.refl 0 zw) nq).size
                  ((go_wp2_with (go_at_call 48; ((with_reducible refine (CF0.out _ hbq hbqs).mono ?_); rintro e z1 ⟨A9, c9, rfl, o9, b9⟩; have hbz := hbq.trans (b9.mono (by have := hbq.size; omega)); have xr1 := (hbz.block (w.heap.size + 1) (by omega)).trans HXR.out; have r0 := bx_cells xr1 0; have r1 := bx_cells xr1 1; have r2 := bx_cells xr1 2; have r3 := bx_cells xr1 3; have f0 := bx_free xr1 0; have f1 := bx_free xr1 1; have f2 := bx_free xr1 2; have f3 := bx_free xr1 3))); have hzz := bx_set (bx_set (bx_set (bx_set xr1 0 (.slice none 0 0)) 1 (.string ⟨#[]⟩)) 2 (.int .i64 0)) 3 (.slice A9 segs.length c9); have y0 := bx_cells hzz 0; have y1 := bx_cells hzz 1; have y2 := bx_cells hzz 2; have y3 := bx_cells hzz 3; rw [Exit.noGoto_ret]; refine bodyPost_ret (v := .tuple #[.agg #[.slice none 0 0, .string ⟨#[]⟩, .int .i64 0, .slice A9 segs.length c9], .int .i64 0]) (by rw [results_cell_tmp rfl]; go_simp) rfl ?_; rw [HSC.out]; exact scan_done (B := tb + 1) (hB2.trans (hbz.mono (by omega))) (by omega) (World.ownsRow_nil _ _ _ _) rfl o9 (by simp) rfl rfl _ _ _ _)
                · obtain ⟨m, hm⟩ : ∃ m, N = m + 1 := ⟨N - 1, by omega⟩
                  obtain ⟨f, hf⟩ : ∃ f, (FrameP.frS (segs.take (q)))[m]? = some f := ⟨_, List.getElem?_eq_getElem (by rw [← HN1.out]; omega)⟩
                  have hf1 := HRW.out m f hf
                  obtain ⟨gf, hgf⟩ : ∃ gf, A8 = some ⟨gf, 0, none⟩ := by
                    rcases row_sliceN HO9.out with ⟨_, h0⟩ | ⟨gw, cap, e1, _⟩
                    · omega
                    · exact ⟨gw, by injection e1⟩
                  have z0 := HO9.out.cells (g := gf) (by rw [hgf]; rfl) _ _ (fcells_get _ m f hf).1
                  rw [add0] at z0
                  have hlt1 : decide (f.1 < after) = true := by
                    rw [decide_eq_true_eq]
                    rcases hA with h | h
                    · have := HN1.out; rw [h] at this; simp at this; omega
                    · have := HN1.out; omega
                  have g0 : ((N : Int) == 0) = false := by simp; omega
                  have hi1 : (N : Int) - 1 = (m : Int) := by omega
                  have hi2 : (m : Int) < (N : Int) := by omega
                  have hi3 : m < N := by omega
                  subst hgf
                  clear hA hcl hf hf1 h0 hm
                  go_quiet (fail)
                  have hbq : Below tb y2 (zw.drewN nq) := below_drewN hb9 nq
                  have hbqs : tb < (zw.drewN nq).heap.size := Nat.lt_of_lt_of_le hs9 (below_drewN (Below.refl 0 zw) nq).size
                  ((go_wp2_with (go_at_call 48; ((with_reducible refine (CF0.out _ hbq hbqs).mono ?_); rintro e z1 ⟨A9, c9, rfl, o9, b9⟩; have hbz := hbq.trans (b9.mono (by have := hbq.size; omega)); have xr1 := (hbz.block (w.heap.size + 1) (by omega)).trans HXR.out; have r0 := bx_cells xr1 0; have r1 := bx_cells xr1 1; have r2 := bx_cells xr1 2; have r3 := bx_cells xr1 3; have f0 := bx_free xr1 0; have f1 := bx_free xr1 1; have f2 := bx_free xr1 2; have f3 := bx_free xr1 3))); have hzz := bx_set (bx_set (bx_set (bx_set xr1 0 (.slice none 0 0)) 1 (.string ⟨#[]⟩)) 2 (.int .i64 0)) 3 (.slice A9 segs.length c9); have y0 := bx_cells hzz 0; have y1 := bx_cells hzz 1; have y2 := bx_cells hzz 2; have y3 := bx_cells hzz 3; rw [Exit.noGoto_ret]; refine bodyPost_ret (v := .tuple #[.agg #[.slice none 0 0, .string ⟨#[]⟩, .int .i64 0, .slice A9 segs.length c9], .int .i64 0]) (by rw [results_cell_tmp rfl]; go_simp) rfl ?_; rw [HSC.out]; exact scan_done (B := tb + 1) (hB2.trans (hbz.mono (by omega))) (by omega) (World.ownsRow_nil _ _ _ _) rfl o9 (by simp) rfl rfl _ _ _ _)
              · have hnil : FrameP.frS (segs.take (q)) ≠ [] := fun e => hA (.inl e)
                have hlast : ¬ FrameP.fst0 segs + (FrameP.frS (segs.take (q))).length - 1 < after := fun e => hA (.inr e)
                have hq0 : 0 < q := by
                  rcases Nat.eq_zero_or_pos (q) with h | h
                  · exact absurd (by rw [h]; rfl) hnil
                  · exact h
                have hqs : q ≤ segs.length := by have := FrameP.rdS_le segs after; rwa [HQ.out] at this
                obtain ⟨q', hq'⟩ : ∃ q', q' = (after - FrameP.fst0 segs + 1).toNat := ⟨_, rfl⟩
                have HSC := Lib.hid (show FrameP.scanF segs after = ((FrameP.frS (segs.take (q))).drop q', (fileK segs (q), keepK segs (q)), (segs.drop (q)).map (·.1)) from by
                  unfold FrameP.scanF fileK keepK
                  rw [HQ.out, if_neg hA, hq', if_neg (by omega), if_neg (by omega)])
                obtain ⟨m, hm⟩ : ∃ m, N = m + 1 := ⟨N - 1, by have := HN1.out; have := List.length_pos_iff.2 hnil; omega⟩
                obtain ⟨f, hf⟩ : ∃ f, (FrameP.frS (segs.take (q)))[m]? = some f := ⟨_, List.getElem?_eq_getElem (by rw [← HN1.out]; omega)⟩
                have hf1 := HRW.out m f hf
                obtain ⟨gf, hgf⟩ : ∃ gf, A8 = some ⟨gf, 0, none⟩ := by
                  rcases row_sliceN HO9.out with ⟨_, h0⟩ | ⟨gw, cap, e1, _⟩
                  · omega
                  · exact ⟨gw, by injection e1⟩
                subst hgf
                have z0 := HO9.out.cells (g := gf) rfl _ _ (fcells_get _ m f hf).1
                rw [add0] at z0
                have hgf1 := HO9.out.lt gf rfl
                have hlt1 : decide (f.1 < after) = false := by
                  rw [decide_eq_false_iff_not]
                  have := HN1.out
                  omega
                have g0 : ((N : Int) == 0) = false := by simp; omega
                have hi1 : (N : Int) - 1 = (m : Int) := by omega
                have hi2 : (m : Int) < (N : Int) := by omega
                have hi3 : m < N := by omega
                have CDl' : ∀ W : World, Below tb y2 W → W.ownsRow (tb + 1) 46 2 (.slice (some ⟨gf, 0, none⟩) N c8) N (fcells (FrameP.frS (segs.take (q)))) → tb < W.heap.size → Calls Tryz.prog 49 #[.slice (some ⟨gf, 0, none⟩) N c8, .func (.func 50) #[] #[.pointer (some ⟨w.heap.size, 0, none⟩)]] W fun e w' => e = .returned (.slice (some ⟨gf, 0, none⟩) (N - q') c8) ∧ w'.ownsRow (tb + 1) 46 2 (.slice (some ⟨gf, 0, none⟩) (N - q') c8) (N - q') (fcells ((FrameP.frS (segs.take (q))).drop q')) ∧ W.grownBy w' (some gf) := fun W hW ho hs => by
                  have := rep_Delete (tb + 1) gf c8 (FrameP.frS (segs.take (q))) (by rw [← HN1.out]; omega) (FrameP.fst0 segs) HRW.out hnil q' (by rw [hq']; omega) w.heap.size after (by rw [hq']; omega) W ((bx_cells ((hW.block w.heap.size (by omega)).trans HXB.out) 0).trans rfl) (by omega) hs (by rw [← HN1.out]; exact ho)
                  rw [← HN1.out] at this
                  exact this
                have CDl := Lib.hid CDl'
                have CFq' : ∀ (A' : Option Addr) (c' : Nat) (W : World), Below tb y2 W → tb < W.heap.size → Rd W W.heap.size A' (((segs.drop (q)).map (·.1)).map (Value.int .i64)) → Calls Tryz.prog 48 #[.slice A' (segs.length - (q)) c'] W fun e w' => ∃ A'' c'', e = .returned (.slice A'' (segs.length - (q)) c'') ∧ w'.ownsRow (tb + 1) 9 1 (.slice A'' (segs.length - (q)) c'') (segs.length - (q)) (((segs.drop (q)).map (·.1)).map fun n => Value.string (tB n)) ∧ Below W.heap.size W w' := fun A' c' W hW hWs hr => by
                  have := CFl.out (q) A' c' W (hB2.trans (hW.mono (by omega))) hr
                  rw [List.length_map, List.length_drop] at this
                  refine this.mono ?_
                  rintro e w' ⟨A', c', e1, o, hb'⟩
                  exact ⟨A', c', e1, own_monoN o hWs, hb'⟩
                have CFq := Lib.hid CFq'
                have hcap2 := own_cap HNS.out
                have hdl : (FrameP.frS (segs.take (q))).length - q' = ((FrameP.frS (segs.take (q))).drop q').length := by rw [List.length_drop]
                rw [← HN1.out] at hdl
                have HDL := Lib.hid hdl
                have hi4 : ((q : Nat) : Int) ≤ (segs.length : Int) := by omega
                have hi5 : ((q : Nat) : Int) ≤ (c2 : Int) := by omega
                have hi6 : (segs.length : Int) ≤ (c2 : Int) := by omega
                by_cases hcq : c2 = q
                · have HRD := Lib.hid (fun (W : World) (_ : Below tb y2 W) => (show Rd W W.heap.size (some ⟨gn, 0, none⟩) (((segs.drop (q)).map (·.1)).map (Value.int .i64)) from by rw [List.drop_eq_nil_of_le (by omega)]; exact fun j u hj => by simp at hj))
                  clear hA hcl hf hf1 hm hq' hnil hlast CDl' CFq' hdl
                  go_quiet (fail)
                  have hbq : Below tb y2 (zw.drewN nq) := below_drewN hb9 nq
                  have hwq : Below zw.heap.size zw (zw.drewN nq) := below_drewN (Below.refl _ zw) nq
                  have hbqs : tb < (zw.drewN nq).heap.size := Nat.lt_of_lt_of_le hs9 hwq.size
                  ((go_wp2_with (first | (go_at_call 49; (((with_reducible refine (CDl.out _ hbq (own_below HO9.out hwq) hbqs).mono ?_); rintro e z1 ⟨rfl, o1, g1⟩; have hbz := hbq.grown g1 (by omega) (fun k e => by cases e; omega); have xt1 := (g1.block tb hbqs (by simp; omega)).trans ((hwq.block tb hs9).trans HT9.out); have p0 := bx_cells xt1 0; have pf0 := bx_free xt1 0; have xt2 := bx_set xt1 0 (.slice (some ⟨gf, 0, none⟩) (N - q') c8); have hbZ := hbz.setCell (p := ⟨tb, 0, none⟩) (Nat.le_refl _) (.slice (some ⟨gf, 0, none⟩) (N - q') c8); have oZ := ownsRow_setCell_other o1 (a := ⟨tb, 0, none⟩) (by simp [Value.ownBlock]; omega) (.slice (some ⟨gf, 0, none⟩) (N - q') c8); have hZs := bx_lt xt2))) | (go_at_call 48; (((with_reducible refine (CFq.out _ _ _ hbZ hZs (HRD.out _ hbZ)).mono ?_); rintro e z2 ⟨A9, c9, rfl, o9, b9⟩; have hbz2 := hbZ.trans (b9.mono (by omega)); have xt3 := bx_kept xt2 b9; have q0 := bx_cells xt3 0; have q1 := bx_cells xt3 1; have q2 := bx_cells xt3 2; have q3 := bx_cells xt3 3; have qf3 := bx_free xt3 3; have xr1 := (hbz2.block (w.heap.size + 1) (by omega)).trans HXR.out; have xr2 := (heap_setCell_other z2 ⟨tb, 3, none⟩ (w.heap.size + 1) (.slice A9 (segs.length - (q)) c9) (by show w.heap.size + 1 ≠ tb; omega)).trans xr1; have r0 := bx_cells xr2 0; have r1 := bx_cells xr2 1; have r2 := bx_cells xr2 2; have r3 := bx_cells xr2 3; have f0 := bx_free xr2 0; have f1 := bx_free xr2 1; have f2 := bx_free xr2 2; have f3 := bx_free xr2 3))))); have hzz := bx_set (bx_set (bx_set (bx_set xr2 0 (.slice (some ⟨gf, 0, none⟩) (N - q') c8)) 1 (.string (fileB (fileK segs (q))))) 2 (.int .i64 (keepK segs (q) : Nat))) 3 (.slice A9 (segs.length - (q)) c9); have y0 := bx_cells hzz 0; have y1 := bx_cells hzz 1; have y2 := bx_cells hzz 2; have y3 := bx_cells hzz 3; rw [Exit.noGoto_ret]; refine bodyPost_ret (v := .tuple #[.agg #[.slice (some ⟨gf, 0, none⟩) (N - q') c8, .string (fileB (fileK segs (q))), .int .i64 (keepK segs (q) : Nat), .slice A9 (segs.length - (q)) c9], .int .i64 0]) (by rw [results_cell_tmp rfl]; go_simp) rfl ?_; rw [HSC.out]; exact scan_done (B := tb + 1) ((hB2.trans (hbz2.mono (by omega))).setCell (p := ⟨tb, 3, none⟩) (by show w.heap.size ≤ tb; omega) _) (by omega) (ownsRow_setCell_other (own_below oZ b9) (a := ⟨tb, 3, none⟩) (by simp [Value.ownBlock]; omega) _) HDL.out (ownsRow_setCell_other o9 (a := ⟨tb, 3, none⟩) (fun e => absurd (show tb + 1 ≤ tb from (o9.lt _ e).1) (by omega)) _) (by simp) rfl rfl _ _ _ _)
                · have HRD := Lib.hid (fun (W : World) (hW : Below tb y2 W) => (show Rd W W.heap.size (some ⟨gn, q, none⟩) (((segs.drop (q)).map (·.1)).map (Value.int .i64)) from by
                    have := Rd.tail (own_below HNS.out (by rw [h2s]; exact hW)) (q)
                    rw [← List.map_drop] at this
                    rw [List.map_map]
                    exact this))
                  clear hA hcl hf hf1 hm hq' hnil hlast CDl' CFq' hdl
                  go_quiet (fail)
                  have hbq : Below tb y2 (zw.drewN nq) := below_drewN hb9 nq
                  have hwq : Below zw.heap.size zw (zw.drewN nq) := below_drewN (Below.refl _ zw) nq
                  have hbqs : tb < (zw.drewN nq).heap.size := Nat.lt_of_lt_of_le hs9 hwq.size
                  ((go_wp2_with (first | (go_at_call 49; (((with_reducible refine (CDl.out _ hbq (own_below HO9.out hwq) hbqs).mono ?_); rintro e z1 ⟨rfl, o1, g1⟩; have hbz := hbq.grown g1 (by omega) (fun k e => by cases e; omega); have xt1 := (g1.block tb hbqs (by simp; omega)).trans ((hwq.block tb hs9).trans HT9.out); have p0 := bx_cells xt1 0; have pf0 := bx_free xt1 0; have xt2 := bx_set xt1 0 (.slice (some ⟨gf, 0, none⟩) (N - q') c8); have hbZ := hbz.setCell (p := ⟨tb, 0, none⟩) (Nat.le_refl _) (.slice (some ⟨gf, 0, none⟩) (N - q') c8); have oZ := ownsRow_setCell_other o1 (a := ⟨tb, 0, none⟩) (by simp [Value.ownBlock]; omega) (.slice (some ⟨gf, 0, none⟩) (N - q') c8); have hZs := bx_lt xt2))) | (go_at_call 48; (((with_reducible refine (CFq.out _ _ _ hbZ hZs (HRD.out _ hbZ)).mono ?_); rintro e z2 ⟨A9, c9, rfl, o9, b9⟩; have hbz2 := hbZ.trans (b9.mono (by omega)); have xt3 := bx_kept xt2 b9; have q0 := bx_cells xt3 0; have q1 := bx_cells xt3 1; have q2 := bx_cells xt3 2; have q3 := bx_cells xt3 3; have qf3 := bx_free xt3 3; have xr1 := (hbz2.block (w.heap.size + 1) (by omega)).trans HXR.out; have xr2 := (heap_setCell_other z2 ⟨tb, 3, none⟩ (w.heap.size + 1) (.slice A9 (segs.length - (q)) c9) (by show w.heap.size + 1 ≠ tb; omega)).trans xr1; have r0 := bx_cells xr2 0; have r1 := bx_cells xr2 1; have r2 := bx_cells xr2 2; have r3 := bx_cells xr2 3; have f0 := bx_free xr2 0; have f1 := bx_free xr2 1; have f2 := bx_free xr2 2; have f3 := bx_free xr2 3))))); have hzz := bx_set (bx_set (bx_set (bx_set xr2 0 (.slice (some ⟨gf, 0, none⟩) (N - q') c8)) 1 (.string (fileB (fileK segs (q))))) 2 (.int .i64 (keepK segs (q) : Nat))) 3 (.slice A9 (segs.length - (q)) c9); have y0 := bx_cells hzz 0; have y1 := bx_cells hzz 1; have y2 := bx_cells hzz 2; have y3 := bx_cells hzz 3; rw [Exit.noGoto_ret]; refine bodyPost_ret (v := .tuple #[.agg #[.slice (some ⟨gf, 0, none⟩) (N - q') c8, .string (fileB (fileK segs (q))), .int .i64 (keepK segs (q) : Nat), .slice A9 (segs.length - (q)) c9], .int .i64 0]) (by rw [results_cell_tmp rfl]; go_simp) rfl ?_; rw [HSC.out]; exact scan_done (B := tb + 1) ((hB2.trans (hbz2.mono (by omega))).setCell (p := ⟨tb, 3, none⟩) (by show w.heap.size ≤ tb; omega) _) (by omega) (ownsRow_setCell_other (own_below oZ b9) (a := ⟨tb, 3, none⟩) (by simp [Value.ownBlock]; omega) _) HDL.out (ownsRow_setCell_other o9 (a := ⟨tb, 3, none⟩) (fun e => absurd (show tb + 1 ≤ tb from (o9.lt _ e).1) (by omega)) _) (by simp) rfl rfl _ _ _ _)
          · have HNX := Lib.hid (show FrameP.fst0 segs - 1 ≤ after ∧ FrameP.rdS segs after = k + 1 + FrameP.cntS (segs.drop (k + 1)) (FrameP.fst0 segs + (FrameP.frS (segs.take (k + 1))).length) from by
              refine ⟨HC.out.1, ?_⟩
              rw [HC.out.2.1, FrameP.cntS_next HX.out HC.out.2.2 hinc, HSN.out, List.length_append, hl]
              rw [show FrameP.fst0 segs + ((FrameP.frS (segs.take k)).length : Int) + ((FrameP.whole x.2 x.1).length : Int) = FrameP.fst0 segs + (((FrameP.frS (segs.take k)).length + (FrameP.whole x.2 x.1).length : Nat) : Int) by push_cast; omega]
              omega)
            have hin : ¬ (sz : Int) < (bs.size : Int) := by rw [← hl, ← hsz] at hinc; omega
            clear CFl HRG HXR HXB HNS HS HH HT0
            clear hinc hbl hbz hbs hrd1 hrd2 COf' CRd' CWh' hne htg
            by_cases hl0 : l = []
            · have HN1 := Lib.hid (show na = (FrameP.frS (segs.take (k + 1))).length by rw [HSN.out, hl0, List.append_nil]; exact HN.out)
              have HSN1 := Lib.hid (show FrameP.frS (segs.take (k + 1)) = FrameP.frS (segs.take k) by rw [HSN.out, hl0, List.append_nil])
              have hz0 : l.length = 0 := by rw [hl0]; rfl
              rw [hz0] at CWh
              have HL0 := Lib.hid hl0
              clear hl hsz hl0 hz0
              go_wp2_with (first | (first | (go_at_call 45; ((with_reducible refine (COf.out _ hb).mono ?_); rintro e w5 ⟨rfl, b5⟩; have hb5 := hb.trans (b5.mono (by have := hb.size; omega)); have xt5 := bx_kept HT.out b5; have p1 := bx_cells xt5 1; have pf1 := bx_free xt5 1; have xt5s := bx_set xt5 1 (.string tg); have p5 := bx_cells xt5s 1; have hb5s := hb5.setCell (p := ⟨tb, 1, none⟩) (Nat.le_refl _) (.string tg))) | (go_at_call 14; ((with_reducible refine (CRd.out _ hb5s).mono ?_); rintro e w6 ⟨rfl, b6⟩; have hb6 := hb5s.trans (b6.mono (by have := hb5s.size; omega)); have xt6 := bx_kept xt5s b6)) | (go_at_call 47; ((with_reducible refine (CWh.out _).mono ?_); rintro e z7 ⟨Al, cl, rfl, o7, hnil7, b7⟩; obtain ⟨rfl, rfl⟩ := hnil7 HL0.out; have hb7 := hb6.trans (b7.mono (by have := hb6.size; omega)); have xt7 := bx_kept xt6 b7; have p72 := bx_cells xt7 2; have pf72 := bx_free xt7 2))) | ((at_builtin; refine wpList_append_nil rfl _ _ 42 rfl (.slice A3 na c3) (by rfl) (by rfl) (append_nil_run _ _ _ (own_cap HO.out) _ _) ?_)))
              (have HT9 : Hid ((z7.setCell ⟨tb, 2, none⟩ (.int .i64 (sz : Nat))).heap[tb]? = some (.cells #[.slice none 0 0, .string (fileB (fileK segs (k + 1))), .int .i64 (keepK segs (k + 1) : Nat), .slice none 0 0] 58 (0, 0))) := Lib.hid (by have := bx_set xt7 2 (.int .i64 (sz : Nat)); rw [← HFK.out, ← HKK.out]; exact this)); (have hb9 := hb7.setCell (p := ⟨tb, 2, none⟩) (Nat.le_refl _) (.int .i64 (sz : Nat))); (have hs9 := bx_lt HT9.out); (have hneq := Lib.hid (show (Value.slice A3 na c3).ownBlock ≠ some tb from fun e => absurd (show tb + 1 ≤ tb from (HO.out.lt _ e).1) (by omega)))
              have HO9 : Hid ((z7.setCell ⟨tb, 2, none⟩ (.int .i64 (sz : Nat))).ownsRow (tb + 1) 46 2 (.slice A3 na c3) na (fcells (FrameP.frS (segs.take (k + 1))))) := Lib.hid (by rw [HSN1.out]; exact ownsRow_setCell_other (HO5.out _ _ _ b5 b6 b7) (a := ⟨tb, 2, none⟩) hneq.out (.int .i64 (sz : Nat)))
              exact ⟨⟨k + 1, na, c3, A3, by omega, by go_num, by go_num, rfl, HO9.out, hs9, hb9, HT9, Lib.hid ⟨HN1.out, .inr HNX.out⟩⟩, by show segs.length - ((k : Int) + 1).toNat < segs.length - ((k : Int)).toNat; omega⟩
            · obtain ⟨m', hm'⟩ : ∃ m', l.length = m' + 1 := ⟨l.length - 1, by have := List.length_pos_iff.2 hl0; omega⟩
              obtain ⟨N, hNN⟩ : ∃ N, na + (m' + 1) = N := ⟨_, rfl⟩
              rw [hm'] at CWh
              have HML := Lib.hid hm'
              have HNN := Lib.hid hNN
              have HN1 := Lib.hid (show N = (FrameP.frS (segs.take (k + 1))).length by rw [HSN.out, List.length_append, hm', ← HN.out, hNN])
              have hm1000 : m' + 1 ≤ 1000 := by omega
              have hneq := Lib.hid (show (Value.slice A3 na c3).ownBlock ≠ some tb from fun e => absurd (show tb + 1 ≤ tb from (HO.out.lt _ e).1) (by omega))
              clear hl hsz hl0 hm' hNN hl1000
              go_wp2_with (first | (go_at_call 45; ((with_reducible refine (COf.out _ hb).mono ?_); rintro e w5 ⟨rfl, b5⟩; have hb5 := hb.trans (b5.mono (by have := hb.size; omega)); have xt5 := bx_kept HT.out b5; have p1 := bx_cells xt5 1; have pf1 := bx_free xt5 1; have xt5s := bx_set xt5 1 (.string tg); have p5 := bx_cells xt5s 1; have hb5s := hb5.setCell (p := ⟨tb, 1, none⟩) (Nat.le_refl _) (.string tg))) | (go_at_call 14; ((with_reducible refine (CRd.out _ hb5s).mono ?_); rintro e w6 ⟨rfl, b6⟩; have hb6 := hb5s.trans (b6.mono (by have := hb5s.size; omega)); have xt6 := bx_kept xt5s b6)) | (go_at_call 47; ((with_reducible refine (CWh.out _).mono ?_); rintro e z7 ⟨Al, cl, rfl, o7, hnil7, b7⟩; obtain ⟨gl, rfl⟩ : ∃ gl, Al = some ⟨gl, 0, none⟩ := (by rcases row_sliceN o7 with ⟨_, h0⟩ | ⟨gl, cap, e1, _⟩ <;> first | (exact absurd h0 (by omega)) | (exact ⟨gl, by injection e1⟩)); have hb7 := hb6.trans (b7.mono (by have := hb6.size; omega)); have xt7 := bx_kept xt6 b7; have p72 := bx_cells xt7 2; have pf72 := bx_free xt7 2)) | (at_builtin; (refine wpList_append_own _ rfl _ _ 42 rfl (tb + 1) 46 i0 (.agg #[.int .i64 0, .string ⟨#[]⟩]) 2 24 Tryz.underlying42 HI.out.1 HI.out.2.1 HI.out.2.2.1 HI.out.2.2.2 rfl (by decide) _ _ _ (by rfl) (HO5.out _ _ _ b5 b6 b7) ⟨gl, 0, none⟩ (m' + 1) cl (fcells l) (by rfl) (by rw [fcells_length, HML.out]) (fun j u hj => o7.cells (g := gl) rfl j u hj) (fcells_one l) (by unfold maxLen; omega) (by omega) (bx_lt xt7) ?_; intro v8 z8 ho8 hg8 _; rw [HNN.out] at ho8; obtain ⟨A8, c8, rfl⟩ := own_slice ho8; have hb8 := hb7.grown hg8 (Nat.le_of_lt (bx_lt xt7)) (fun k e => by have := (HO.out.lt k e).1; omega); have xt8 := (hg8.block tb (bx_lt xt7) (fun e => hneq.out e.symm)).trans xt7; have p82 := bx_cells xt8 2; have pf82 := bx_free xt8 2)))
              (have HT9 : Hid ((z8.setCell ⟨tb, 2, none⟩ (.int .i64 (sz : Nat))).heap[tb]? = some (.cells #[.slice none 0 0, .string (fileB (fileK segs (k + 1))), .int .i64 (keepK segs (k + 1) : Nat), .slice none 0 0] 58 (0, 0))) := Lib.hid (by have := bx_set xt8 2 (.int .i64 (sz : Nat)); rw [← HFK.out, ← HKK.out]; exact this)); (have hb9 := hb8.setCell (p := ⟨tb, 2, none⟩) (Nat.le_refl _) (.int .i64 (sz : Nat))); (have hs9 := bx_lt HT9.out); (have HO9 : Hid ((z8.setCell ⟨tb, 2, none⟩ (.int .i64 (sz : Nat))).ownsRow (tb + 1) 46 2 (.slice A8 N c8) N (fcells (FrameP.frS (segs.take (k + 1))))) := Lib.hid (by rw [HSN.out, fcells_app]; exact ownsRow_setCell_other ho8 (a := ⟨tb, 2, none⟩) (fun e => absurd (show tb + 1 ≤ tb from (ho8.lt _ e).1) (by omega)) (.int .i64 (sz : Nat))))
              exact ⟨⟨k + 1, N, c8, A8, by omega, by go_num, by go_num, rfl, HO9.out, hs9, hb9, HT9, Lib.hid ⟨HN1.out, .inr HNX.out⟩⟩, by show segs.length - ((k : Int) + 1).toNat < segs.length - ((k : Int)).toNat; omega⟩
      · have gk : ((k : Int) == 0) = false := by simp; omega
        have gk2 : (0 : Int) < (k : Int) := by omega
        obtain ⟨haf, hrd⟩ := HF.out.2.resolve_left hk0
        by_cases hne : x.1 = FrameP.fst0 segs + na
        · have HC := Lib.hid (show FrameP.fst0 segs - 1 ≤ after ∧ FrameP.rdS segs after = k + FrameP.cntS (segs.drop k) (FrameP.fst0 segs + (FrameP.frS (segs.take k)).length) ∧ x.1 = FrameP.fst0 segs + (FrameP.frS (segs.take k)).length from ⟨haf, hrd, by rw [hne, HN.out]⟩)
          have ga : (x.1 != FrameP.fst0 segs + (na : Int)) = false := by simp [hne]
          clear HF hx hxz hf0 hk0 haf hrd hne
          obtain ⟨hrd1, hrd2⟩ := HS.out.read k x HX.out
          obtain ⟨bs, hbs⟩ : ∃ bs : ByteArray, bs = ⟨x.2.toArray⟩ := ⟨_, rfl⟩
          have hbl : bs.data.toList = x.2 := by rw [hbs]
          have hbz : bs.size = x.2.length := by rw [hbs]; rfl
          rw [← hbs] at hrd1
          have COf' : ∀ W : World, Below tb y2 W → Calls Tryz.prog 45 #[.int .i64 1, .int .i64 x.1] W fun e w' => e = .returned (.string (tB x.1)) ∧ Below W.heap.size W w' := fun W hW => name_Of 1 x.1 (I64_small hrx) W (HT0.out W (hB2.trans (hW.mono (by omega))))
          have CRd' : ∀ W : World, Below tb y2 W → Calls Tryz.prog 14 #[.pointer (some ⟨d, 0, none⟩), .string (tB x.1)] W fun e w' => e = .returned (.tuple #[.string bs, .int .i64 0]) ∧ Below W.heap.size W w' := fun W hW => by
            have := disk_Read d A c S (tB x.1) HS.out.sorted (by omega) W (HH.out.kept (hB2.trans (hW.mono (by omega))))
            rw [hrd1] at this
            exact this
          obtain ⟨l, hl⟩ : ∃ l, l = FrameP.whole x.2 x.1 := ⟨_, rfl⟩
          obtain ⟨sz, hsz⟩ : ∃ sz, sz = FrameP.bytes l := ⟨_, rfl⟩
          have CWh' : ∀ W : World, Calls Tryz.prog 47 #[.string bs, .int .i64 x.1] W fun e w' => ∃ A c, e = .returned (.tuple #[.slice A l.length c, .int .i64 (sz : Nat)]) ∧ w'.ownsRow W.heap.size 46 2 (.slice A l.length c) l.length (fcells l) ∧ (l = [] → A = none ∧ c = 0) ∧ Below W.heap.size W w' := fun W => by
            have := rep_whole bs (by omega) x.1 hrx W
            rw [hbl, ← hl] at this
            unfold WholePost at this
            rw [← hsz] at this
            exact this
          have COf : CoS tb y2 x.1 (tB x.1) := ⟨COf'⟩
          have CRd : CrS tb d y2 (tB x.1) bs := ⟨CRd'⟩
          have CWh : CwS bs x.1 l.length l sz := ⟨CWh'⟩
          have HSN := Lib.hid (show FrameP.frS (segs.take (k + 1)) = FrameP.frS (segs.take k) ++ l by rw [FrameP.frS_take_snoc HX.out, ← hl])
          have hl1000 : l.length ≤ 1000 := by
            have h1 := FrameP.frS_take_le segs (k + 1)
            rw [HSN.out, List.length_append] at h1
            have := HS.out.few
            omega
          have HFK := Lib.hid (show tB x.1 = fileB (fileK segs (k + 1)) by unfold fileK; rw [if_neg (by omega), Nat.add_sub_cancel, HX.out]; rfl)
          have HKK := Lib.hid (show sz = keepK segs (k + 1) by unfold keepK; rw [if_neg (by omega), Nat.add_sub_cancel, HX.out, hsz, hl]; rfl)
          have hne : (Value.slice A3 na c3).ownBlock ≠ some tb := fun e => absurd (show tb + 1 ≤ tb from (HO.out.lt _ e).1) (by omega)
          generalize htg : tB x.1 = tg at *
          have HO5 : HoS tb na c3 A3 wr tg (FrameP.frS (segs.take k)) := ⟨(fun (u v z : World) (b5 : Below wr.heap.size wr u) (b6 : Below (u.setCell ⟨tb, 1, none⟩ (.string tg)).heap.size (u.setCell ⟨tb, 1, none⟩ (.string tg)) v) (b7 : Below v.heap.size v z) => own_below (own_below (ownsRow_setCell_other (own_below HO.out b5) (a := ⟨tb, 1, none⟩) hne (.string tg)) b6) b7)⟩
          by_cases hinc : FrameP.bytes (FrameP.whole x.2 x.1) < x.2.length
          · have HQ := Lib.hid (show FrameP.rdS segs after = k + 1 from by rw [HC.out.2.1, FrameP.cntS_one HX.out HC.out.2.2 hinc])
            have hin : (sz : Int) < (bs.size : Int) := by rw [← hl, ← hsz] at hinc; omega
            clear hinc hbl hbz hbs hrd1 hrd2 COf' CRd' CWh' hne htg
            by_cases hl0 : l = []
            · have HN1 := Lib.hid (show na = (FrameP.frS (segs.take (k + 1))).length by rw [HSN.out, hl0, List.append_nil]; exact HN.out)
              have HSN1 := Lib.hid (show FrameP.frS (segs.take (k + 1)) = FrameP.frS (segs.take k) by rw [HSN.out, hl0, List.append_nil])
              have hz0 : l.length = 0 := by rw [hl0]; rfl
              rw [hz0] at CWh
              have HL0 := Lib.hid hl0
              clear hl hsz hl0 hz0
              go_wp2_with (first | (first | (go_at_call 45; ((with_reducible refine (COf.out _ hb).mono ?_); rintro e w5 ⟨rfl, b5⟩; have hb5 := hb.trans (b5.mono (by have := hb.size; omega)); have xt5 := bx_kept HT.out b5; have p1 := bx_cells xt5 1; have pf1 := bx_free xt5 1; have xt5s := bx_set xt5 1 (.string tg); have p5 := bx_cells xt5s 1; have hb5s := hb5.setCell (p := ⟨tb, 1, none⟩) (Nat.le_refl _) (.string tg))) | (go_at_call 14; ((with_reducible refine (CRd.out _ hb5s).mono ?_); rintro e w6 ⟨rfl, b6⟩; have hb6 := hb5s.trans (b6.mono (by have := hb5s.size; omega)); have xt6 := bx_kept xt5s b6)) | (go_at_call 47; ((with_reducible refine (CWh.out _).mono ?_); rintro e z7 ⟨Al, cl, rfl, o7, hnil7, b7⟩; obtain ⟨rfl, rfl⟩ := hnil7 HL0.out; have hb7 := hb6.trans (b7.mono (by have := hb6.size; omega)); have xt7 := bx_kept xt6 b7; have p72 := bx_cells xt7 2; have pf72 := bx_free xt7 2))) | ((at_builtin; refine wpList_append_nil rfl _ _ 42 rfl (.slice A3 na c3) (by rfl) (by rfl) (append_nil_run _ _ _ (own_cap HO.out) _ _) ?_)))
              (have HT9 : Hid ((z7.setCell ⟨tb, 2, none⟩ (.int .i64 (sz : Nat))).heap[tb]? = some (.cells #[.slice none 0 0, .string (fileB (fileK segs (k + 1))), .int .i64 (keepK segs (k + 1) : Nat), .slice none 0 0] 58 (0, 0))) := Lib.hid (by have := bx_set xt7 2 (.int .i64 (sz : Nat)); rw [← HFK.out, ← HKK.out]; exact this)); (have hb9 := hb7.setCell (p := ⟨tb, 2, none⟩) (Nat.le_refl _) (.int .i64 (sz : Nat))); (have hs9 := bx_lt HT9.out); (have hneq := Lib.hid (show (Value.slice A3 na c3).ownBlock ≠ some tb from fun e => absurd (show tb + 1 ≤ tb from (HO.out.lt _ e).1) (by omega)))
              have HO9 : Hid ((z7.setCell ⟨tb, 2, none⟩ (.int .i64 (sz : Nat))).ownsRow (tb + 1) 46 2 (.slice A3 na c3) na (fcells (FrameP.frS (segs.take (k + 1))))) := Lib.hid (by rw [HSN1.out]; exact ownsRow_setCell_other (HO5.out _ _ _ b5 b6 b7) (a := ⟨tb, 2, none⟩) hneq.out (.int .i64 (sz : Nat)))
              obtain ⟨zw, hzw⟩ : ∃ zw, zw = z7.setCell ⟨tb, 2, none⟩ (.int .i64 (sz : Nat)) := ⟨_, rfl⟩
              rw [← hzw] at HT9 hb9 hs9 HO9 ⊢
              clear hzw hneq p72 pf72 xt7 hb7 hnil7 b7 o7 xt6 hb6 b6 hb5s p5 xt5s pf1 p1 xt5 hb5 b5 HO5 zk zz x3 CWh CRd COf HT HO hb hin htbs
              obtain ⟨q, hq⟩ : ∃ q, q = k + 1 := ⟨_, rfl⟩
              have hqc : (k : Int) + 1 = (q : Int) := by omega
              rw [← hq] at HT9 HO9 HN1 HQ
              rw [hqc]
              clear hqc hq HSN1 HSN HL0 HFK HKK HC HX HXZ hi1 gk gk2 ga hna0 hk
              have hcl : zw.heap[w.heap.size]? = some (.cells #[.int .i64 after] 3 (0, 0)) := (hb9.block w.heap.size (by omega)).trans HXB.out
              have x3 := bx_cells hcl 0
              have HRW := Lib.hid (show FrameP.Row (FrameP.frS (segs.take (q))) (FrameP.fst0 segs) from by have := FrameP.rdS_row segs after; rwa [HQ.out] at this)
              have hna9 : na ≤ 1000 := by have := HN1.out; have := FrameP.frS_take_le segs (q); have := HS.out.few; omega
              by_cases hA : FrameP.frS (segs.take (q)) = [] ∨ FrameP.fst0 segs + (FrameP.frS (segs.take (q))).length - 1 < after
              · have HSC := Lib.hid (show FrameP.scanF segs after = ([], (none, 0), segs.map (·.1)) from by unfold FrameP.scanF; rw [HQ.out, if_pos hA])
                have CF0' : ∀ W : World, Below tb y2 W → tb < W.heap.size → Calls Tryz.prog 48 #[.slice (some ⟨gn, 0, none⟩) segs.length c2] W fun e w' => ∃ A' c', e = .returned (.slice A' segs.length c') ∧ w'.ownsRow (tb + 1) 9 1 (.slice A' segs.length c') segs.length ((segs.map (·.1)).map fun n => Value.string (tB n)) ∧ Below W.heap.size W w' := fun W hW hWs => by
                  have := CFl.out 0 (some ⟨gn, 0, none⟩) c2 W (hB2.trans (hW.mono (by omega))) (by
                    have := (Rd.own HNS.out).below (by rw [h2s]; exact hW) |>.more (by have := hW.size; omega)
                    rw [List.map_map]
                    exact this)
                  rw [List.drop_zero, List.length_map] at this
                  refine this.mono ?_
                  rintro e w' ⟨A', c', e1, o, hb'⟩
                  exact ⟨A', c', e1, own_monoN o hWs, hb'⟩
                have CF0 := Lib.hid CF0'
                clear CF0'
                by_cases h0 : na = 0
                · have g0 : ((na : Int) == 0) = true := by simp; omega
                  clear hA hcl
                  go_quiet (fail)
                  have hbq : Below tb y2 (zw.drewN nq) := below_drewN hb9 nq
                  have hbqs : tb < (zw.drewN nq).heap.size := Nat.lt_of_lt_of_le hs9 (below_drewN (Below.refl 0 zw) nq).size
                  ((go_wp2_with (go_at_call 48; ((with_reducible refine (CF0.out _ hbq hbqs).mono ?_); rintro e z1 ⟨A9, c9, rfl, o9, b9⟩; have hbz := hbq.trans (b9.mono (by have := hbq.size; omega)); have xr1 := (hbz.block (w.heap.size + 1) (by omega)).trans HXR.out; have r0 := bx_cells xr1 0; have r1 := bx_cells xr1 1; have r2 := bx_cells xr1 2; have r3 := bx_cells xr1 3; have f0 := bx_free xr1 0; have f1 := bx_free xr1 1; have f2 := bx_free xr1 2; have f3 := bx_free xr1 3))); have hzz := bx_set (bx_set (bx_set (bx_set xr1 0 (.slice none 0 0)) 1 (.string ⟨#[]⟩)) 2 (.int .i64 0)) 3 (.slice A9 segs.length c9); have y0 := bx_cells hzz 0; have y1 := bx_cells hzz 1; have y2 := bx_cells hzz 2; have y3 := bx_cells hzz 3; rw [Exit.noGoto_ret]; refine bodyPost_ret (v := .tuple #[.agg #[.slice none 0 0, .string ⟨#[]⟩, .int .i64 0, .slice A9 segs.length c9], .int .i64 0]) (by rw [results_cell_tmp rfl]; go_simp) rfl ?_; rw [HSC.out]; exact scan_done (B := tb + 1) (hB2.trans (hbz.mono (by omega))) (by omega) (World.ownsRow_nil _ _ _ _) rfl o9 (by simp) rfl rfl _ _ _ _)
                · obtain ⟨m, hm⟩ : ∃ m, na = m + 1 := ⟨na - 1, by omega⟩
                  obtain ⟨f, hf⟩ : ∃ f, (FrameP.frS (segs.take (q)))[m]? = some f := ⟨_, List.getElem?_eq_getElem (by rw [← HN1.out]; omega)⟩
                  have hf1 := HRW.out m f hf
                  obtain ⟨gf, hgf⟩ : ∃ gf, A3 = some ⟨gf, 0, none⟩ := by
                    rcases row_sliceN HO9.out with ⟨_, h0⟩ | ⟨gw, cap, e1, _⟩
                    · omega
                    · exact ⟨gw, by injection e1⟩
                  have z0 := HO9.out.cells (g := gf) (by rw [hgf]; rfl) _ _ (fcells_get _ m f hf).1
                  rw [add0] at z0
                  have hlt1 : decide (f.1 < after) = true := by
                    rw [decide_eq_true_eq]
                    rcases hA with h | h
                    · have := HN1.out; rw [h] at this; simp at this; omega
                    · have := HN1.out; omega
                  have g0 : ((na : Int) == 0) = false := by simp; omega
                  have hi1 : (na : Int) - 1 = (m : Int) := by omega
                  have hi2 : (m : Int) < (na : Int) := by omega
                  have hi3 : m < na := by omega
                  subst hgf
                  clear hA hcl hf hf1 h0 hm
                  go_quiet (fail)
                  have hbq : Below tb y2 (zw.drewN nq) := below_drewN hb9 nq
                  have hbqs : tb < (zw.drewN nq).heap.size := Nat.lt_of_lt_of_le hs9 (below_drewN (Below.refl 0 zw) nq).size
                  ((go_wp2_with (go_at_call 48; ((with_reducible refine (CF0.out _ hbq hbqs).mono ?_); rintro e z1 ⟨A9, c9, rfl, o9, b9⟩; have hbz := hbq.trans (b9.mono (by have := hbq.size; omega)); have xr1 := (hbz.block (w.heap.size + 1) (by omega)).trans HXR.out; have r0 := bx_cells xr1 0; have r1 := bx_cells xr1 1; have r2 := bx_cells xr1 2; have r3 := bx_cells xr1 3; have f0 := bx_free xr1 0; have f1 := bx_free xr1 1; have f2 := bx_free xr1 2; have f3 := bx_free xr1 3))); have hzz := bx_set (bx_set (bx_set (bx_set xr1 0 (.slice none 0 0)) 1 (.string ⟨#[]⟩)) 2 (.int .i64 0)) 3 (.slice A9 segs.length c9); have y0 := bx_cells hzz 0; have y1 := bx_cells hzz 1; have y2 := bx_cells hzz 2; have y3 := bx_cells hzz 3; rw [Exit.noGoto_ret]; refine bodyPost_ret (v := .tuple #[.agg #[.slice none 0 0, .string ⟨#[]⟩, .int .i64 0, .slice A9 segs.length c9], .int .i64 0]) (by rw [results_cell_tmp rfl]; go_simp) rfl ?_; rw [HSC.out]; exact scan_done (B := tb + 1) (hB2.trans (hbz.mono (by omega))) (by omega) (World.ownsRow_nil _ _ _ _) rfl o9 (by simp) rfl rfl _ _ _ _)
              · have hnil : FrameP.frS (segs.take (q)) ≠ [] := fun e => hA (.inl e)
                have hlast : ¬ FrameP.fst0 segs + (FrameP.frS (segs.take (q))).length - 1 < after := fun e => hA (.inr e)
                have hq0 : 0 < q := by
                  rcases Nat.eq_zero_or_pos (q) with h | h
                  · exact absurd (by rw [h]; rfl) hnil
                  · exact h
                have hqs : q ≤ segs.length := by have := FrameP.rdS_le segs after; rwa [HQ.out] at this
                obtain ⟨q', hq'⟩ : ∃ q', q' = (after - FrameP.fst0 segs + 1).toNat := ⟨_, rfl⟩
                have HSC := Lib.hid (show FrameP.scanF segs after = ((FrameP.frS (segs.take (q))).drop q', (fileK segs (q), keepK segs (q)), (segs.drop (q)).map (·.1)) from by
                  unfold FrameP.scanF fileK keepK
                  rw [HQ.out, if_neg hA, hq', if_neg (by omega), if_neg (by omega)])
                obtain ⟨m, hm⟩ : ∃ m, na = m + 1 := ⟨na - 1, by have := HN1.out; have := List.length_pos_iff.2 hnil; omega⟩
                obtain ⟨f, hf⟩ : ∃ f, (FrameP.frS (segs.take (q)))[m]? = some f := ⟨_, List.getElem?_eq_getElem (by rw [← HN1.out]; omega)⟩
                have hf1 := HRW.out m f hf
                obtain ⟨gf, hgf⟩ : ∃ gf, A3 = some ⟨gf, 0, none⟩ := by
                  rcases row_sliceN HO9.out with ⟨_, h0⟩ | ⟨gw, cap, e1, _⟩
                  · omega
                  · exact ⟨gw, by injection e1⟩
                subst hgf
                have z0 := HO9.out.cells (g := gf) rfl _ _ (fcells_get _ m f hf).1
                rw [add0] at z0
                have hgf1 := HO9.out.lt gf rfl
                have hlt1 : decide (f.1 < after) = false := by
                  rw [decide_eq_false_iff_not]
                  have := HN1.out
                  omega
                have g0 : ((na : Int) == 0) = false := by simp; omega
                have hi1 : (na : Int) - 1 = (m : Int) := by omega
                have hi2 : (m : Int) < (na : Int) := by omega
                have hi3 : m < na := by omega
                have CDl' : ∀ W : World, Below tb y2 W → W.ownsRow (tb + 1) 46 2 (.slice (some ⟨gf, 0, none⟩) na c3) na (fcells (FrameP.frS (segs.take (q)))) → tb < W.heap.size → Calls Tryz.prog 49 #[.slice (some ⟨gf, 0, none⟩) na c3, .func (.func 50) #[] #[.pointer (some ⟨w.heap.size, 0, none⟩)]] W fun e w' => e = .returned (.slice (some ⟨gf, 0, none⟩) (na - q') c3) ∧ w'.ownsRow (tb + 1) 46 2 (.slice (some ⟨gf, 0, none⟩) (na - q') c3) (na - q') (fcells ((FrameP.frS (segs.take (q))).drop q')) ∧ W.grownBy w' (some gf) := fun W hW ho hs => by
                  have := rep_Delete (tb + 1) gf c3 (FrameP.frS (segs.take (q))) (by rw [← HN1.out]; omega) (FrameP.fst0 segs) HRW.out hnil q' (by rw [hq']; omega) w.heap.size after (by rw [hq']; omega) W ((bx_cells ((hW.block w.heap.size (by omega)).trans HXB.out) 0).trans rfl) (by omega) hs (by rw [← HN1.out]; exact ho)
                  rw [← HN1.out] at this
                  exact this
                have CDl := Lib.hid CDl'
                have CFq' : ∀ (A' : Option Addr) (c' : Nat) (W : World), Below tb y2 W → tb < W.heap.size → Rd W W.heap.size A' (((segs.drop (q)).map (·.1)).map (Value.int .i64)) → Calls Tryz.prog 48 #[.slice A' (segs.length - (q)) c'] W fun e w' => ∃ A'' c'', e = .returned (.slice A'' (segs.length - (q)) c'') ∧ w'.ownsRow (tb + 1) 9 1 (.slice A'' (segs.length - (q)) c'') (segs.length - (q)) (((segs.drop (q)).map (·.1)).map fun n => Value.string (tB n)) ∧ Below W.heap.size W w' := fun A' c' W hW hWs hr => by
                  have := CFl.out (q) A' c' W (hB2.trans (hW.mono (by omega))) hr
                  rw [List.length_map, List.length_drop] at this
                  refine this.mono ?_
                  rintro e w' ⟨A', c', e1, o, hb'⟩
                  exact ⟨A', c', e1, own_monoN o hWs, hb'⟩
                have CFq := Lib.hid CFq'
                have hcap2 := own_cap HNS.out
                have hdl : (FrameP.frS (segs.take (q))).length - q' = ((FrameP.frS (segs.take (q))).drop q').length := by rw [List.length_drop]
                rw [← HN1.out] at hdl
                have HDL := Lib.hid hdl
                have hi4 : ((q : Nat) : Int) ≤ (segs.length : Int) := by omega
                have hi5 : ((q : Nat) : Int) ≤ (c2 : Int) := by omega
                have hi6 : (segs.length : Int) ≤ (c2 : Int) := by omega
                by_cases hcq : c2 = q
                · have HRD := Lib.hid (fun (W : World) (_ : Below tb y2 W) => (show Rd W W.heap.size (some ⟨gn, 0, none⟩) (((segs.drop (q)).map (·.1)).map (Value.int .i64)) from by rw [List.drop_eq_nil_of_le (by omega)]; exact fun j u hj => by simp at hj))
                  clear hA hcl hf hf1 hm hq' hnil hlast CDl' CFq' hdl
                  go_quiet (fail)
                  have hbq : Below tb y2 (zw.drewN nq) := below_drewN hb9 nq
                  have hwq : Below zw.heap.size zw (zw.drewN nq) := below_drewN (Below.refl _ zw) nq
                  have hbqs : tb < (zw.drewN nq).heap.size := Nat.lt_of_lt_of_le hs9 hwq.size
                  ((go_wp2_with (first | (go_at_call 49; (((with_reducible refine (CDl.out _ hbq (own_below HO9.out hwq) hbqs).mono ?_); rintro e z1 ⟨rfl, o1, g1⟩; have hbz := hbq.grown g1 (by omega) (fun k e => by cases e; omega); have xt1 := (g1.block tb hbqs (by simp; omega)).trans ((hwq.block tb hs9).trans HT9.out); have p0 := bx_cells xt1 0; have pf0 := bx_free xt1 0; have xt2 := bx_set xt1 0 (.slice (some ⟨gf, 0, none⟩) (na - q') c3); have hbZ := hbz.setCell (p := ⟨tb, 0, none⟩) (Nat.le_refl _) (.slice (some ⟨gf, 0, none⟩) (na - q') c3); have oZ := ownsRow_setCell_other o1 (a := ⟨tb, 0, none⟩) (by simp [Value.ownBlock]; omega) (.slice (some ⟨gf, 0, none⟩) (na - q') c3); have hZs := bx_lt xt2))) | (go_at_call 48; (((with_reducible refine (CFq.out _ _ _ hbZ hZs (HRD.out _ hbZ)).mono ?_); rintro e z2 ⟨A9, c9, rfl, o9, b9⟩; have hbz2 := hbZ.trans (b9.mono (by omega)); have xt3 := bx_kept xt2 b9; have q0 := bx_cells xt3 0; have q1 := bx_cells xt3 1; have q2 := bx_cells xt3 2; have q3 := bx_cells xt3 3; have qf3 := bx_free xt3 3; have xr1 := (hbz2.block (w.heap.size + 1) (by omega)).trans HXR.out; have xr2 := (heap_setCell_other z2 ⟨tb, 3, none⟩ (w.heap.size + 1) (.slice A9 (segs.length - (q)) c9) (by show w.heap.size + 1 ≠ tb; omega)).trans xr1; have r0 := bx_cells xr2 0; have r1 := bx_cells xr2 1; have r2 := bx_cells xr2 2; have r3 := bx_cells xr2 3; have f0 := bx_free xr2 0; have f1 := bx_free xr2 1; have f2 := bx_free xr2 2; have f3 := bx_free xr2 3))))); have hzz := bx_set (bx_set (bx_set (bx_set xr2 0 (.slice (some ⟨gf, 0, none⟩) (na - q') c3)) 1 (.string (fileB (fileK segs (q))))) 2 (.int .i64 (keepK segs (q) : Nat))) 3 (.slice A9 (segs.length - (q)) c9); have y0 := bx_cells hzz 0; have y1 := bx_cells hzz 1; have y2 := bx_cells hzz 2; have y3 := bx_cells hzz 3; rw [Exit.noGoto_ret]; refine bodyPost_ret (v := .tuple #[.agg #[.slice (some ⟨gf, 0, none⟩) (na - q') c3, .string (fileB (fileK segs (q))), .int .i64 (keepK segs (q) : Nat), .slice A9 (segs.length - (q)) c9], .int .i64 0]) (by rw [results_cell_tmp rfl]; go_simp) rfl ?_; rw [HSC.out]; exact scan_done (B := tb + 1) ((hB2.trans (hbz2.mono (by omega))).setCell (p := ⟨tb, 3, none⟩) (by show w.heap.size ≤ tb; omega) _) (by omega) (ownsRow_setCell_other (own_below oZ b9) (a := ⟨tb, 3, none⟩) (by simp [Value.ownBlock]; omega) _) HDL.out (ownsRow_setCell_other o9 (a := ⟨tb, 3, none⟩) (fun e => absurd (show tb + 1 ≤ tb from (o9.lt _ e).1) (by omega)) _) (by simp) rfl rfl _ _ _ _)
                · have HRD := Lib.hid (fun (W : World) (hW : Below tb y2 W) => (show Rd W W.heap.size (some ⟨gn, q, none⟩) (((segs.drop (q)).map (·.1)).map (Value.int .i64)) from by
                    have := Rd.tail (own_below HNS.out (by rw [h2s]; exact hW)) (q)
                    rw [← List.map_drop] at this
                    rw [List.map_map]
                    exact this))
                  clear hA hcl hf hf1 hm hq' hnil hlast CDl' CFq' hdl
                  go_quiet (fail)
                  have hbq : Below tb y2 (zw.drewN nq) := below_drewN hb9 nq
                  have hwq : Below zw.heap.size zw (zw.drewN nq) := below_drewN (Below.refl _ zw) nq
                  have hbqs : tb < (zw.drewN nq).heap.size := Nat.lt_of_lt_of_le hs9 hwq.size
                  ((go_wp2_with (first | (go_at_call 49; (((with_reducible refine (CDl.out _ hbq (own_below HO9.out hwq) hbqs).mono ?_); rintro e z1 ⟨rfl, o1, g1⟩; have hbz := hbq.grown g1 (by omega) (fun k e => by cases e; omega); have xt1 := (g1.block tb hbqs (by simp; omega)).trans ((hwq.block tb hs9).trans HT9.out); have p0 := bx_cells xt1 0; have pf0 := bx_free xt1 0; have xt2 := bx_set xt1 0 (.slice (some ⟨gf, 0, none⟩) (na - q') c3); have hbZ := hbz.setCell (p := ⟨tb, 0, none⟩) (Nat.le_refl _) (.slice (some ⟨gf, 0, none⟩) (na - q') c3); have oZ := ownsRow_setCell_other o1 (a := ⟨tb, 0, none⟩) (by simp [Value.ownBlock]; omega) (.slice (some ⟨gf, 0, none⟩) (na - q') c3); have hZs := bx_lt xt2))) | (go_at_call 48; (((with_reducible refine (CFq.out _ _ _ hbZ hZs (HRD.out _ hbZ)).mono ?_); rintro e z2 ⟨A9, c9, rfl, o9, b9⟩; have hbz2 := hbZ.trans (b9.mono (by omega)); have xt3 := bx_kept xt2 b9; have q0 := bx_cells xt3 0; have q1 := bx_cells xt3 1; have q2 := bx_cells xt3 2; have q3 := bx_cells xt3 3; have qf3 := bx_free xt3 3; have xr1 := (hbz2.block (w.heap.size + 1) (by omega)).trans HXR.out; have xr2 := (heap_setCell_other z2 ⟨tb, 3, none⟩ (w.heap.size + 1) (.slice A9 (segs.length - (q)) c9) (by show w.heap.size + 1 ≠ tb; omega)).trans xr1; have r0 := bx_cells xr2 0; have r1 := bx_cells xr2 1; have r2 := bx_cells xr2 2; have r3 := bx_cells xr2 3; have f0 := bx_free xr2 0; have f1 := bx_free xr2 1; have f2 := bx_free xr2 2; have f3 := bx_free xr2 3))))); have hzz := bx_set (bx_set (bx_set (bx_set xr2 0 (.slice (some ⟨gf, 0, none⟩) (na - q') c3)) 1 (.string (fileB (fileK segs (q))))) 2 (.int .i64 (keepK segs (q) : Nat))) 3 (.slice A9 (segs.length - (q)) c9); have y0 := bx_cells hzz 0; have y1 := bx_cells hzz 1; have y2 := bx_cells hzz 2; have y3 := bx_cells hzz 3; rw [Exit.noGoto_ret]; refine bodyPost_ret (v := .tuple #[.agg #[.slice (some ⟨gf, 0, none⟩) (na - q') c3, .string (fileB (fileK segs (q))), .int .i64 (keepK segs (q) : Nat), .slice A9 (segs.length - (q)) c9], .int .i64 0]) (by rw [results_cell_tmp rfl]; go_simp) rfl ?_; rw [HSC.out]; exact scan_done (B := tb + 1) ((hB2.trans (hbz2.mono (by omega))).setCell (p := ⟨tb, 3, none⟩) (by show w.heap.size ≤ tb; omega) _) (by omega) (ownsRow_setCell_other (own_below oZ b9) (a := ⟨tb, 3, none⟩) (by simp [Value.ownBlock]; omega) _) HDL.out (ownsRow_setCell_other o9 (a := ⟨tb, 3, none⟩) (fun e => absurd (show tb + 1 ≤ tb from (o9.lt _ e).1) (by omega)) _) (by simp) rfl rfl _ _ _ _)
            · obtain ⟨m', hm'⟩ : ∃ m', l.length = m' + 1 := ⟨l.length - 1, by have := List.length_pos_iff.2 hl0; omega⟩
              obtain ⟨N, hNN⟩ : ∃ N, na + (m' + 1) = N := ⟨_, rfl⟩
              rw [hm'] at CWh
              have HML := Lib.hid hm'
              have HNN := Lib.hid hNN
              have HN1 := Lib.hid (show N = (FrameP.frS (segs.take (k + 1))).length by rw [HSN.out, List.length_append, hm', ← HN.out, hNN])
              have hm1000 : m' + 1 ≤ 1000 := by omega
              have hneq := Lib.hid (show (Value.slice A3 na c3).ownBlock ≠ some tb from fun e => absurd (show tb + 1 ≤ tb from (HO.out.lt _ e).1) (by omega))
              clear hl hsz hl0 hm' hNN hl1000
              go_wp2_with (first | (go_at_call 45; ((with_reducible refine (COf.out _ hb).mono ?_); rintro e w5 ⟨rfl, b5⟩; have hb5 := hb.trans (b5.mono (by have := hb.size; omega)); have xt5 := bx_kept HT.out b5; have p1 := bx_cells xt5 1; have pf1 := bx_free xt5 1; have xt5s := bx_set xt5 1 (.string tg); have p5 := bx_cells xt5s 1; have hb5s := hb5.setCell (p := ⟨tb, 1, none⟩) (Nat.le_refl _) (.string tg))) | (go_at_call 14; ((with_reducible refine (CRd.out _ hb5s).mono ?_); rintro e w6 ⟨rfl, b6⟩; have hb6 := hb5s.trans (b6.mono (by have := hb5s.size; omega)); have xt6 := bx_kept xt5s b6)) | (go_at_call 47; ((with_reducible refine (CWh.out _).mono ?_); rintro e z7 ⟨Al, cl, rfl, o7, hnil7, b7⟩; obtain ⟨gl, rfl⟩ : ∃ gl, Al = some ⟨gl, 0, none⟩ := (by rcases row_sliceN o7 with ⟨_, h0⟩ | ⟨gl, cap, e1, _⟩ <;> first | (exact absurd h0 (by omega)) | (exact ⟨gl, by injection e1⟩)); have hb7 := hb6.trans (b7.mono (by have := hb6.size; omega)); have xt7 := bx_kept xt6 b7; have p72 := bx_cells xt7 2; have pf72 := bx_free xt7 2)) | (at_builtin; (refine wpList_append_own _ rfl _ _ 42 rfl (tb + 1) 46 i0 (.agg #[.int .i64 0, .string ⟨#[]⟩]) 2 24 Tryz.underlying42 HI.out.1 HI.out.2.1 HI.out.2.2.1 HI.out.2.2.2 rfl (by decide) _ _ _ (by rfl) (HO5.out _ _ _ b5 b6 b7) ⟨gl, 0, none⟩ (m' + 1) cl (fcells l) (by rfl) (by rw [fcells_length, HML.out]) (fun j u hj => o7.cells (g := gl) rfl j u hj) (fcells_one l) (by unfold maxLen; omega) (by omega) (bx_lt xt7) ?_; intro v8 z8 ho8 hg8 _; rw [HNN.out] at ho8; obtain ⟨A8, c8, rfl⟩ := own_slice ho8; have hb8 := hb7.grown hg8 (Nat.le_of_lt (bx_lt xt7)) (fun k e => by have := (HO.out.lt k e).1; omega); have xt8 := (hg8.block tb (bx_lt xt7) (fun e => hneq.out e.symm)).trans xt7; have p82 := bx_cells xt8 2; have pf82 := bx_free xt8 2)))
              (have HT9 : Hid ((z8.setCell ⟨tb, 2, none⟩ (.int .i64 (sz : Nat))).heap[tb]? = some (.cells #[.slice none 0 0, .string (fileB (fileK segs (k + 1))), .int .i64 (keepK segs (k + 1) : Nat), .slice none 0 0] 58 (0, 0))) := Lib.hid (by have := bx_set xt8 2 (.int .i64 (sz : Nat)); rw [← HFK.out, ← HKK.out]; exact this)); (have hb9 := hb8.setCell (p := ⟨tb, 2, none⟩) (Nat.le_refl _) (.int .i64 (sz : Nat))); (have hs9 := bx_lt HT9.out); (have HO9 : Hid ((z8.setCell ⟨tb, 2, none⟩ (.int .i64 (sz : Nat))).ownsRow (tb + 1) 46 2 (.slice A8 N c8) N (fcells (FrameP.frS (segs.take (k + 1))))) := Lib.hid (by rw [HSN.out, fcells_app]; exact ownsRow_setCell_other ho8 (a := ⟨tb, 2, none⟩) (fun e => absurd (show tb + 1 ≤ tb from (ho8.lt _ e).1) (by omega)) (.int .i64 (sz : Nat))))
              obtain ⟨zw, hzw⟩ : ∃ zw, zw = z8.setCell ⟨tb, 2, none⟩ (.int .i64 (sz : Nat)) := ⟨_, rfl⟩
              rw [← hzw] at HT9 hb9 hs9 HO9 ⊢
              clear hzw hneq xt8 p82 pf82 hb8 hg8 ho8 xt7 hb7 hnil7 b7 o7 xt6 hb6 b6 hb5s p5 xt5s pf1 p1 xt5 hb5 b5 HO5 zk zz x3 CWh CRd COf HT HO hb hin htbs
              obtain ⟨q, hq⟩ : ∃ q, q = k + 1 := ⟨_, rfl⟩
              have hqc : (k : Int) + 1 = (q : Int) := by omega
              rw [← hq] at HT9 HO9 HN1 HQ
              rw [hqc]
              clear hqc hq HSN HML HNN HFK HKK HC HX HXZ hi1 gk gk2 ga hna0 hk
              have hcl : zw.heap[w.heap.size]? = some (.cells #[.int .i64 after] 3 (0, 0)) := (hb9.block w.heap.size (by omega)).trans HXB.out
              have x3 := bx_cells hcl 0
              have HRW := Lib.hid (show FrameP.Row (FrameP.frS (segs.take (q))) (FrameP.fst0 segs) from by have := FrameP.rdS_row segs after; rwa [HQ.out] at this)
              have hna9 : N ≤ 1000 := by have := HN1.out; have := FrameP.frS_take_le segs (q); have := HS.out.few; omega
              by_cases hA : FrameP.frS (segs.take (q)) = [] ∨ FrameP.fst0 segs + (FrameP.frS (segs.take (q))).length - 1 < after
              · have HSC := Lib.hid (show FrameP.scanF segs after = ([], (none, 0), segs.map (·.1)) from by unfold FrameP.scanF; rw [HQ.out, if_pos hA])
                have CF0' : ∀ W : World, Below tb y2 W → tb < W.heap.size → Calls Tryz.prog 48 #[.slice (some ⟨gn, 0, none⟩) segs.length c2] W fun e w' => ∃ A' c', e = .returned (.slice A' segs.length c') ∧ w'.ownsRow (tb + 1) 9 1 (.slice A' segs.length c') segs.length ((segs.map (·.1)).map fun n => Value.string (tB n)) ∧ Below W.heap.size W w' := fun W hW hWs => by
                  have := CFl.out 0 (some ⟨gn, 0, none⟩) c2 W (hB2.trans (hW.mono (by omega))) (by
                    have := (Rd.own HNS.out).below (by rw [h2s]; exact hW) |>.more (by have := hW.size; omega)
                    rw [List.map_map]
                    exact this)
                  rw [List.drop_zero, List.length_map] at this
                  refine this.mono ?_
                  rintro e w' ⟨A', c', e1, o, hb'⟩
                  exact ⟨A', c', e1, own_monoN o hWs, hb'⟩
                have CF0 := Lib.hid CF0'
                clear CF0'
                by_cases h0 : N = 0
                · have g0 : ((N : Int) == 0) = true := by simp; omega
                  clear hA hcl
                  go_quiet (fail)
                  have hbq : Below tb y2 (zw.drewN nq) := below_drewN hb9 nq
                  have hbqs : tb < (zw.drewN nq).heap.size := Nat.lt_of_lt_of_le hs9 (below_drewN (Below.refl 0 zw) nq).size
                  ((go_wp2_with (go_at_call 48; ((with_reducible refine (CF0.out _ hbq hbqs).mono ?_); rintro e z1 ⟨A9, c9, rfl, o9, b9⟩; have hbz := hbq.trans (b9.mono (by have := hbq.size; omega)); have xr1 := (hbz.block (w.heap.size + 1) (by omega)).trans HXR.out; have r0 := bx_cells xr1 0; have r1 := bx_cells xr1 1; have r2 := bx_cells xr1 2; have r3 := bx_cells xr1 3; have f0 := bx_free xr1 0; have f1 := bx_free xr1 1; have f2 := bx_free xr1 2; have f3 := bx_free xr1 3))); have hzz := bx_set (bx_set (bx_set (bx_set xr1 0 (.slice none 0 0)) 1 (.string ⟨#[]⟩)) 2 (.int .i64 0)) 3 (.slice A9 segs.length c9); have y0 := bx_cells hzz 0; have y1 := bx_cells hzz 1; have y2 := bx_cells hzz 2; have y3 := bx_cells hzz 3; rw [Exit.noGoto_ret]; refine bodyPost_ret (v := .tuple #[.agg #[.slice none 0 0, .string ⟨#[]⟩, .int .i64 0, .slice A9 segs.length c9], .int .i64 0]) (by rw [results_cell_tmp rfl]; go_simp) rfl ?_; rw [HSC.out]; exact scan_done (B := tb + 1) (hB2.trans (hbz.mono (by omega))) (by omega) (World.ownsRow_nil _ _ _ _) rfl o9 (by simp) rfl rfl _ _ _ _)
                · obtain ⟨m, hm⟩ : ∃ m, N = m + 1 := ⟨N - 1, by omega⟩
                  obtain ⟨f, hf⟩ : ∃ f, (FrameP.frS (segs.take (q)))[m]? = some f := ⟨_, List.getElem?_eq_getElem (by rw [← HN1.out]; omega)⟩
                  have hf1 := HRW.out m f hf
                  obtain ⟨gf, hgf⟩ : ∃ gf, A8 = some ⟨gf, 0, none⟩ := by
                    rcases row_sliceN HO9.out with ⟨_, h0⟩ | ⟨gw, cap, e1, _⟩
                    · omega
                    · exact ⟨gw, by injection e1⟩
                  have z0 := HO9.out.cells (g := gf) (by rw [hgf]; rfl) _ _ (fcells_get _ m f hf).1
                  rw [add0] at z0
                  have hlt1 : decide (f.1 < after) = true := by
                    rw [decide_eq_true_eq]
                    rcases hA with h | h
                    · have := HN1.out; rw [h] at this; simp at this; omega
                    · have := HN1.out; omega
                  have g0 : ((N : Int) == 0) = false := by simp; omega
                  have hi1 : (N : Int) - 1 = (m : Int) := by omega
                  have hi2 : (m : Int) < (N : Int) := by omega
                  have hi3 : m < N := by omega
                  subst hgf
                  clear hA hcl hf hf1 h0 hm
                  go_quiet (fail)
                  have hbq : Below tb y2 (zw.drewN nq) := below_drewN hb9 nq
                  have hbqs : tb < (zw.drewN nq).heap.size := Nat.lt_of_lt_of_le hs9 (below_drewN (Below.refl 0 zw) nq).size
                  ((go_wp2_with (go_at_call 48; ((with_reducible refine (CF0.out _ hbq hbqs).mono ?_); rintro e z1 ⟨A9, c9, rfl, o9, b9⟩; have hbz := hbq.trans (b9.mono (by have := hbq.size; omega)); have xr1 := (hbz.block (w.heap.size + 1) (by omega)).trans HXR.out; have r0 := bx_cells xr1 0; have r1 := bx_cells xr1 1; have r2 := bx_cells xr1 2; have r3 := bx_cells xr1 3; have f0 := bx_free xr1 0; have f1 := bx_free xr1 1; have f2 := bx_free xr1 2; have f3 := bx_free xr1 3))); have hzz := bx_set (bx_set (bx_set (bx_set xr1 0 (.slice none 0 0)) 1 (.string ⟨#[]⟩)) 2 (.int .i64 0)) 3 (.slice A9 segs.length c9); have y0 := bx_cells hzz 0; have y1 := bx_cells hzz 1; have y2 := bx_cells hzz 2; have y3 := bx_cells hzz 3; rw [Exit.noGoto_ret]; refine bodyPost_ret (v := .tuple #[.agg #[.slice none 0 0, .string ⟨#[]⟩, .int .i64 0, .slice A9 segs.length c9], .int .i64 0]) (by rw [results_cell_tmp rfl]; go_simp) rfl ?_; rw [HSC.out]; exact scan_done (B := tb + 1) (hB2.trans (hbz.mono (by omega))) (by omega) (World.ownsRow_nil _ _ _ _) rfl o9 (by simp) rfl rfl _ _ _ _)
              · have hnil : FrameP.frS (segs.take (q)) ≠ [] := fun e => hA (.inl e)
                have hlast : ¬ FrameP.fst0 segs + (FrameP.frS (segs.take (q))).length - 1 < after := fun e => hA (.inr e)
                have hq0 : 0 < q := by
                  rcases Nat.eq_zero_or_pos (q) with h | h
                  · exact absurd (by rw [h]; rfl) hnil
                  · exact h
                have hqs : q ≤ segs.length := by have := FrameP.rdS_le segs after; rwa [HQ.out] at this
                obtain ⟨q', hq'⟩ : ∃ q', q' = (after - FrameP.fst0 segs + 1).toNat := ⟨_, rfl⟩
                have HSC := Lib.hid (show FrameP.scanF segs after = ((FrameP.frS (segs.take (q))).drop q', (fileK segs (q), keepK segs (q)), (segs.drop (q)).map (·.1)) from by
                  unfold FrameP.scanF fileK keepK
                  rw [HQ.out, if_neg hA, hq', if_neg (by omega), if_neg (by omega)])
                obtain ⟨m, hm⟩ : ∃ m, N = m + 1 := ⟨N - 1, by have := HN1.out; have := List.length_pos_iff.2 hnil; omega⟩
                obtain ⟨f, hf⟩ : ∃ f, (FrameP.frS (segs.take (q)))[m]? = some f := ⟨_, List.getElem?_eq_getElem (by rw [← HN1.out]; omega)⟩
                have hf1 := HRW.out m f hf
                obtain ⟨gf, hgf⟩ : ∃ gf, A8 = some ⟨gf, 0, none⟩ := by
                  rcases row_sliceN HO9.out with ⟨_, h0⟩ | ⟨gw, cap, e1, _⟩
                  · omega
                  · exact ⟨gw, by injection e1⟩
                subst hgf
                have z0 := HO9.out.cells (g := gf) rfl _ _ (fcells_get _ m f hf).1
                rw [add0] at z0
                have hgf1 := HO9.out.lt gf rfl
                have hlt1 : decide (f.1 < after) = false := by
                  rw [decide_eq_false_iff_not]
                  have := HN1.out
                  omega
                have g0 : ((N : Int) == 0) = false := by simp; omega
                have hi1 : (N : Int) - 1 = (m : Int) := by omega
                have hi2 : (m : Int) < (N : Int) := by omega
                have hi3 : m < N := by omega
                have CDl' : ∀ W : World, Below tb y2 W → W.ownsRow (tb + 1) 46 2 (.slice (some ⟨gf, 0, none⟩) N c8) N (fcells (FrameP.frS (segs.take (q)))) → tb < W.heap.size → Calls Tryz.prog 49 #[.slice (some ⟨gf, 0, none⟩) N c8, .func (.func 50) #[] #[.pointer (some ⟨w.heap.size, 0, none⟩)]] W fun e w' => e = .returned (.slice (some ⟨gf, 0, none⟩) (N - q') c8) ∧ w'.ownsRow (tb + 1) 46 2 (.slice (some ⟨gf, 0, none⟩) (N - q') c8) (N - q') (fcells ((FrameP.frS (segs.take (q))).drop q')) ∧ W.grownBy w' (some gf) := fun W hW ho hs => by
                  have := rep_Delete (tb + 1) gf c8 (FrameP.frS (segs.take (q))) (by rw [← HN1.out]; omega) (FrameP.fst0 segs) HRW.out hnil q' (by rw [hq']; omega) w.heap.size after (by rw [hq']; omega) W ((bx_cells ((hW.block w.heap.size (by omega)).trans HXB.out) 0).trans rfl) (by omega) hs (by rw [← HN1.out]; exact ho)
                  rw [← HN1.out] at this
                  exact this
                have CDl := Lib.hid CDl'
                have CFq' : ∀ (A' : Option Addr) (c' : Nat) (W : World), Below tb y2 W → tb < W.heap.size → Rd W W.heap.size A' (((segs.drop (q)).map (·.1)).map (Value.int .i64)) → Calls Tryz.prog 48 #[.slice A' (segs.length - (q)) c'] W fun e w' => ∃ A'' c'', e = .returned (.slice A'' (segs.length - (q)) c'') ∧ w'.ownsRow (tb + 1) 9 1 (.slice A'' (segs.length - (q)) c'') (segs.length - (q)) (((segs.drop (q)).map (·.1)).map fun n => Value.string (tB n)) ∧ Below W.heap.size W w' := fun A' c' W hW hWs hr => by
                  have := CFl.out (q) A' c' W (hB2.trans (hW.mono (by omega))) hr
                  rw [List.length_map, List.length_drop] at this
                  refine this.mono ?_
                  rintro e w' ⟨A', c', e1, o, hb'⟩
                  exact ⟨A', c', e1, own_monoN o hWs, hb'⟩
                have CFq := Lib.hid CFq'
                have hcap2 := own_cap HNS.out
                have hdl : (FrameP.frS (segs.take (q))).length - q' = ((FrameP.frS (segs.take (q))).drop q').length := by rw [List.length_drop]
                rw [← HN1.out] at hdl
                have HDL := Lib.hid hdl
                have hi4 : ((q : Nat) : Int) ≤ (segs.length : Int) := by omega
                have hi5 : ((q : Nat) : Int) ≤ (c2 : Int) := by omega
                have hi6 : (segs.length : Int) ≤ (c2 : Int) := by omega
                by_cases hcq : c2 = q
                · have HRD := Lib.hid (fun (W : World) (_ : Below tb y2 W) => (show Rd W W.heap.size (some ⟨gn, 0, none⟩) (((segs.drop (q)).map (·.1)).map (Value.int .i64)) from by rw [List.drop_eq_nil_of_le (by omega)]; exact fun j u hj => by simp at hj))
                  clear hA hcl hf hf1 hm hq' hnil hlast CDl' CFq' hdl
                  go_quiet (fail)
                  have hbq : Below tb y2 (zw.drewN nq) := below_drewN hb9 nq
                  have hwq : Below zw.heap.size zw (zw.drewN nq) := below_drewN (Below.refl _ zw) nq
                  have hbqs : tb < (zw.drewN nq).heap.size := Nat.lt_of_lt_of_le hs9 hwq.size
                  ((go_wp2_with (first | (go_at_call 49; (((with_reducible refine (CDl.out _ hbq (own_below HO9.out hwq) hbqs).mono ?_); rintro e z1 ⟨rfl, o1, g1⟩; have hbz := hbq.grown g1 (by omega) (fun k e => by cases e; omega); have xt1 := (g1.block tb hbqs (by simp; omega)).trans ((hwq.block tb hs9).trans HT9.out); have p0 := bx_cells xt1 0; have pf0 := bx_free xt1 0; have xt2 := bx_set xt1 0 (.slice (some ⟨gf, 0, none⟩) (N - q') c8); have hbZ := hbz.setCell (p := ⟨tb, 0, none⟩) (Nat.le_refl _) (.slice (some ⟨gf, 0, none⟩) (N - q') c8); have oZ := ownsRow_setCell_other o1 (a := ⟨tb, 0, none⟩) (by simp [Value.ownBlock]; omega) (.slice (some ⟨gf, 0, none⟩) (N - q') c8); have hZs := bx_lt xt2))) | (go_at_call 48; (((with_reducible refine (CFq.out _ _ _ hbZ hZs (HRD.out _ hbZ)).mono ?_); rintro e z2 ⟨A9, c9, rfl, o9, b9⟩; have hbz2 := hbZ.trans (b9.mono (by omega)); have xt3 := bx_kept xt2 b9; have q0 := bx_cells xt3 0; have q1 := bx_cells xt3 1; have q2 := bx_cells xt3 2; have q3 := bx_cells xt3 3; have qf3 := bx_free xt3 3; have xr1 := (hbz2.block (w.heap.size + 1) (by omega)).trans HXR.out; have xr2 := (heap_setCell_other z2 ⟨tb, 3, none⟩ (w.heap.size + 1) (.slice A9 (segs.length - (q)) c9) (by show w.heap.size + 1 ≠ tb; omega)).trans xr1; have r0 := bx_cells xr2 0; have r1 := bx_cells xr2 1; have r2 := bx_cells xr2 2; have r3 := bx_cells xr2 3; have f0 := bx_free xr2 0; have f1 := bx_free xr2 1; have f2 := bx_free xr2 2; have f3 := bx_free xr2 3))))); have hzz := bx_set (bx_set (bx_set (bx_set xr2 0 (.slice (some ⟨gf, 0, none⟩) (N - q') c8)) 1 (.string (fileB (fileK segs (q))))) 2 (.int .i64 (keepK segs (q) : Nat))) 3 (.slice A9 (segs.length - (q)) c9); have y0 := bx_cells hzz 0; have y1 := bx_cells hzz 1; have y2 := bx_cells hzz 2; have y3 := bx_cells hzz 3; rw [Exit.noGoto_ret]; refine bodyPost_ret (v := .tuple #[.agg #[.slice (some ⟨gf, 0, none⟩) (N - q') c8, .string (fileB (fileK segs (q))), .int .i64 (keepK segs (q) : Nat), .slice A9 (segs.length - (q)) c9], .int .i64 0]) (by rw [results_cell_tmp rfl]; go_simp) rfl ?_; rw [HSC.out]; exact scan_done (B := tb + 1) ((hB2.trans (hbz2.mono (by omega))).setCell (p := ⟨tb, 3, none⟩) (by show w.heap.size ≤ tb; omega) _) (by omega) (ownsRow_setCell_other (own_below oZ b9) (a := ⟨tb, 3, none⟩) (by simp [Value.ownBlock]; omega) _) HDL.out (ownsRow_setCell_other o9 (a := ⟨tb, 3, none⟩) (fun e => absurd (show tb + 1 ≤ tb from (o9.lt _ e).1) (by omega)) _) (by simp) rfl rfl _ _ _ _)
                · have HRD := Lib.hid (fun (W : World) (hW : Below tb y2 W) => (show Rd W W.heap.size (some ⟨gn, q, none⟩) (((segs.drop (q)).map (·.1)).map (Value.int .i64)) from by
                    have := Rd.tail (own_below HNS.out (by rw [h2s]; exact hW)) (q)
                    rw [← List.map_drop] at this
                    rw [List.map_map]
                    exact this))
                  clear hA hcl hf hf1 hm hq' hnil hlast CDl' CFq' hdl
                  go_quiet (fail)
                  have hbq : Below tb y2 (zw.drewN nq) := below_drewN hb9 nq
                  have hwq : Below zw.heap.size zw (zw.drewN nq) := below_drewN (Below.refl _ zw) nq
                  have hbqs : tb < (zw.drewN nq).heap.size := Nat.lt_of_lt_of_le hs9 hwq.size
                  ((go_wp2_with (first | (go_at_call 49; (((with_reducible refine (CDl.out _ hbq (own_below HO9.out hwq) hbqs).mono ?_); rintro e z1 ⟨rfl, o1, g1⟩; have hbz := hbq.grown g1 (by omega) (fun k e => by cases e; omega); have xt1 := (g1.block tb hbqs (by simp; omega)).trans ((hwq.block tb hs9).trans HT9.out); have p0 := bx_cells xt1 0; have pf0 := bx_free xt1 0; have xt2 := bx_set xt1 0 (.slice (some ⟨gf, 0, none⟩) (N - q') c8); have hbZ := hbz.setCell (p := ⟨tb, 0, none⟩) (Nat.le_refl _) (.slice (some ⟨gf, 0, none⟩) (N - q') c8); have oZ := ownsRow_setCell_other o1 (a := ⟨tb, 0, none⟩) (by simp [Value.ownBlock]; omega) (.slice (some ⟨gf, 0, none⟩) (N - q') c8); have hZs := bx_lt xt2))) | (go_at_call 48; (((with_reducible refine (CFq.out _ _ _ hbZ hZs (HRD.out _ hbZ)).mono ?_); rintro e z2 ⟨A9, c9, rfl, o9, b9⟩; have hbz2 := hbZ.trans (b9.mono (by omega)); have xt3 := bx_kept xt2 b9; have q0 := bx_cells xt3 0; have q1 := bx_cells xt3 1; have q2 := bx_cells xt3 2; have q3 := bx_cells xt3 3; have qf3 := bx_free xt3 3; have xr1 := (hbz2.block (w.heap.size + 1) (by omega)).trans HXR.out; have xr2 := (heap_setCell_other z2 ⟨tb, 3, none⟩ (w.heap.size + 1) (.slice A9 (segs.length - (q)) c9) (by show w.heap.size + 1 ≠ tb; omega)).trans xr1; have r0 := bx_cells xr2 0; have r1 := bx_cells xr2 1; have r2 := bx_cells xr2 2; have r3 := bx_cells xr2 3; have f0 := bx_free xr2 0; have f1 := bx_free xr2 1; have f2 := bx_free xr2 2; have f3 := bx_free xr2 3))))); have hzz := bx_set (bx_set (bx_set (bx_set xr2 0 (.slice (some ⟨gf, 0, none⟩) (N - q') c8)) 1 (.string (fileB (fileK segs (q))))) 2 (.int .i64 (keepK segs (q) : Nat))) 3 (.slice A9 (segs.length - (q)) c9); have y0 := bx_cells hzz 0; have y1 := bx_cells hzz 1; have y2 := bx_cells hzz 2; have y3 := bx_cells hzz 3; rw [Exit.noGoto_ret]; refine bodyPost_ret (v := .tuple #[.agg #[.slice (some ⟨gf, 0, none⟩) (N - q') c8, .string (fileB (fileK segs (q))), .int .i64 (keepK segs (q) : Nat), .slice A9 (segs.length - (q)) c9], .int .i64 0]) (by rw [results_cell_tmp rfl]; go_simp) rfl ?_; rw [HSC.out]; exact scan_done (B := tb + 1) ((hB2.trans (hbz2.mono (by omega))).setCell (p := ⟨tb, 3, none⟩) (by show w.heap.size ≤ tb; omega) _) (by omega) (ownsRow_setCell_other (own_below oZ b9) (a := ⟨tb, 3, none⟩) (by simp [Value.ownBlock]; omega) _) HDL.out (ownsRow_setCell_other o9 (a := ⟨tb, 3, none⟩) (fun e => absurd (show tb + 1 ≤ tb from (o9.lt _ e).1) (by omega)) _) (by simp) rfl rfl _ _ _ _)
          · have HNX := Lib.hid (show FrameP.fst0 segs - 1 ≤ after ∧ FrameP.rdS segs after = k + 1 + FrameP.cntS (segs.drop (k + 1)) (FrameP.fst0 segs + (FrameP.frS (segs.take (k + 1))).length) from by
              refine ⟨HC.out.1, ?_⟩
              rw [HC.out.2.1, FrameP.cntS_next HX.out HC.out.2.2 hinc, HSN.out, List.length_append, hl]
              rw [show FrameP.fst0 segs + ((FrameP.frS (segs.take k)).length : Int) + ((FrameP.whole x.2 x.1).length : Int) = FrameP.fst0 segs + (((FrameP.frS (segs.take k)).length + (FrameP.whole x.2 x.1).length : Nat) : Int) by push_cast; omega]
              omega)
            have hin : ¬ (sz : Int) < (bs.size : Int) := by rw [← hl, ← hsz] at hinc; omega
            clear CFl HRG HXR HXB HNS HS HH HT0
            clear hinc hbl hbz hbs hrd1 hrd2 COf' CRd' CWh' hne htg
            by_cases hl0 : l = []
            · have HN1 := Lib.hid (show na = (FrameP.frS (segs.take (k + 1))).length by rw [HSN.out, hl0, List.append_nil]; exact HN.out)
              have HSN1 := Lib.hid (show FrameP.frS (segs.take (k + 1)) = FrameP.frS (segs.take k) by rw [HSN.out, hl0, List.append_nil])
              have hz0 : l.length = 0 := by rw [hl0]; rfl
              rw [hz0] at CWh
              have HL0 := Lib.hid hl0
              clear hl hsz hl0 hz0
              go_wp2_with (first | (first | (go_at_call 45; ((with_reducible refine (COf.out _ hb).mono ?_); rintro e w5 ⟨rfl, b5⟩; have hb5 := hb.trans (b5.mono (by have := hb.size; omega)); have xt5 := bx_kept HT.out b5; have p1 := bx_cells xt5 1; have pf1 := bx_free xt5 1; have xt5s := bx_set xt5 1 (.string tg); have p5 := bx_cells xt5s 1; have hb5s := hb5.setCell (p := ⟨tb, 1, none⟩) (Nat.le_refl _) (.string tg))) | (go_at_call 14; ((with_reducible refine (CRd.out _ hb5s).mono ?_); rintro e w6 ⟨rfl, b6⟩; have hb6 := hb5s.trans (b6.mono (by have := hb5s.size; omega)); have xt6 := bx_kept xt5s b6)) | (go_at_call 47; ((with_reducible refine (CWh.out _).mono ?_); rintro e z7 ⟨Al, cl, rfl, o7, hnil7, b7⟩; obtain ⟨rfl, rfl⟩ := hnil7 HL0.out; have hb7 := hb6.trans (b7.mono (by have := hb6.size; omega)); have xt7 := bx_kept xt6 b7; have p72 := bx_cells xt7 2; have pf72 := bx_free xt7 2))) | ((at_builtin; refine wpList_append_nil rfl _ _ 42 rfl (.slice A3 na c3) (by rfl) (by rfl) (append_nil_run _ _ _ (own_cap HO.out) _ _) ?_)))
              (have HT9 : Hid ((z7.setCell ⟨tb, 2, none⟩ (.int .i64 (sz : Nat))).heap[tb]? = some (.cells #[.slice none 0 0, .string (fileB (fileK segs (k + 1))), .int .i64 (keepK segs (k + 1) : Nat), .slice none 0 0] 58 (0, 0))) := Lib.hid (by have := bx_set xt7 2 (.int .i64 (sz : Nat)); rw [← HFK.out, ← HKK.out]; exact this)); (have hb9 := hb7.setCell (p := ⟨tb, 2, none⟩) (Nat.le_refl _) (.int .i64 (sz : Nat))); (have hs9 := bx_lt HT9.out); (have hneq := Lib.hid (show (Value.slice A3 na c3).ownBlock ≠ some tb from fun e => absurd (show tb + 1 ≤ tb from (HO.out.lt _ e).1) (by omega)))
              have HO9 : Hid ((z7.setCell ⟨tb, 2, none⟩ (.int .i64 (sz : Nat))).ownsRow (tb + 1) 46 2 (.slice A3 na c3) na (fcells (FrameP.frS (segs.take (k + 1))))) := Lib.hid (by rw [HSN1.out]; exact ownsRow_setCell_other (HO5.out _ _ _ b5 b6 b7) (a := ⟨tb, 2, none⟩) hneq.out (.int .i64 (sz : Nat)))
              exact ⟨⟨k + 1, na, c3, A3, by omega, by go_num, by go_num, rfl, HO9.out, hs9, hb9, HT9, Lib.hid ⟨HN1.out, .inr HNX.out⟩⟩, by show segs.length - ((k : Int) + 1).toNat < segs.length - ((k : Int)).toNat; omega⟩
            · obtain ⟨m', hm'⟩ : ∃ m', l.length = m' + 1 := ⟨l.length - 1, by have := List.length_pos_iff.2 hl0; omega⟩
              obtain ⟨N, hNN⟩ : ∃ N, na + (m' + 1) = N := ⟨_, rfl⟩
              rw [hm'] at CWh
              have HML := Lib.hid hm'
              have HNN := Lib.hid hNN
              have HN1 := Lib.hid (show N = (FrameP.frS (segs.take (k + 1))).length by rw [HSN.out, List.length_append, hm', ← HN.out, hNN])
              have hm1000 : m' + 1 ≤ 1000 := by omega
              have hneq := Lib.hid (show (Value.slice A3 na c3).ownBlock ≠ some tb from fun e => absurd (show tb + 1 ≤ tb from (HO.out.lt _ e).1) (by omega))
              clear hl hsz hl0 hm' hNN hl1000
              go_wp2_with (first | (go_at_call 45; ((with_reducible refine (COf.out _ hb).mono ?_); rintro e w5 ⟨rfl, b5⟩; have hb5 := hb.trans (b5.mono (by have := hb.size; omega)); have xt5 := bx_kept HT.out b5; have p1 := bx_cells xt5 1; have pf1 := bx_free xt5 1; have xt5s := bx_set xt5 1 (.string tg); have p5 := bx_cells xt5s 1; have hb5s := hb5.setCell (p := ⟨tb, 1, none⟩) (Nat.le_refl _) (.string tg))) | (go_at_call 14; ((with_reducible refine (CRd.out _ hb5s).mono ?_); rintro e w6 ⟨rfl, b6⟩; have hb6 := hb5s.trans (b6.mono (by have := hb5s.size; omega)); have xt6 := bx_kept xt5s b6)) | (go_at_call 47; ((with_reducible refine (CWh.out _).mono ?_); rintro e z7 ⟨Al, cl, rfl, o7, hnil7, b7⟩; obtain ⟨gl, rfl⟩ : ∃ gl, Al = some ⟨gl, 0, none⟩ := (by rcases row_sliceN o7 with ⟨_, h0⟩ | ⟨gl, cap, e1, _⟩ <;> first | (exact absurd h0 (by omega)) | (exact ⟨gl, by injection e1⟩)); have hb7 := hb6.trans (b7.mono (by have := hb6.size; omega)); have xt7 := bx_kept xt6 b7; have p72 := bx_cells xt7 2; have pf72 := bx_free xt7 2)) | (at_builtin; (refine wpList_append_own _ rfl _ _ 42 rfl (tb + 1) 46 i0 (.agg #[.int .i64 0, .string ⟨#[]⟩]) 2 24 Tryz.underlying42 HI.out.1 HI.out.2.1 HI.out.2.2.1 HI.out.2.2.2 rfl (by decide) _ _ _ (by rfl) (HO5.out _ _ _ b5 b6 b7) ⟨gl, 0, none⟩ (m' + 1) cl (fcells l) (by rfl) (by rw [fcells_length, HML.out]) (fun j u hj => o7.cells (g := gl) rfl j u hj) (fcells_one l) (by unfold maxLen; omega) (by omega) (bx_lt xt7) ?_; intro v8 z8 ho8 hg8 _; rw [HNN.out] at ho8; obtain ⟨A8, c8, rfl⟩ := own_slice ho8; have hb8 := hb7.grown hg8 (Nat.le_of_lt (bx_lt xt7)) (fun k e => by have := (HO.out.lt k e).1; omega); have xt8 := (hg8.block tb (bx_lt xt7) (fun e => hneq.out e.symm)).trans xt7; have p82 := bx_cells xt8 2; have pf82 := bx_free xt8 2)))
              (have HT9 : Hid ((z8.setCell ⟨tb, 2, none⟩ (.int .i64 (sz : Nat))).heap[tb]? = some (.cells #[.slice none 0 0, .string (fileB (fileK segs (k + 1))), .int .i64 (keepK segs (k + 1) : Nat), .slice none 0 0] 58 (0, 0))) := Lib.hid (by have := bx_set xt8 2 (.int .i64 (sz : Nat)); rw [← HFK.out, ← HKK.out]; exact this)); (have hb9 := hb8.setCell (p := ⟨tb, 2, none⟩) (Nat.le_refl _) (.int .i64 (sz : Nat))); (have hs9 := bx_lt HT9.out); (have HO9 : Hid ((z8.setCell ⟨tb, 2, none⟩ (.int .i64 (sz : Nat))).ownsRow (tb + 1) 46 2 (.slice A8 N c8) N (fcells (FrameP.frS (segs.take (k + 1))))) := Lib.hid (by rw [HSN.out, fcells_app]; exact ownsRow_setCell_other ho8 (a := ⟨tb, 2, none⟩) (fun e => absurd (show tb + 1 ≤ tb from (ho8.lt _ e).1) (by omega)) (.int .i64 (sz : Nat))))
              exact ⟨⟨k + 1, N, c8, A8, by omega, by go_num, by go_num, rfl, HO9.out, hs9, hb9, HT9, Lib.hid ⟨HN1.out, .inr HNX.out⟩⟩, by show segs.length - ((k : Int) + 1).toNat < segs.length - ((k : Int)).toNat; omega⟩
        · have HQ := Lib.hid (show FrameP.rdS segs after = k from by rw [hrd, FrameP.cntS_stop hx (by rw [← HN.out]; exact hne)]; rfl)
          have ga : (x.1 != FrameP.fst0 segs + (na : Int)) = true := by rw [bne_iff_ne]; exact hne
          clear HF hx hxz hf0 hk0 haf hrd hne
          go_wp2_with fail
          have hcl : wr.heap[w.heap.size]? = some (.cells #[.int .i64 after] 3 (0, 0)) := (hb.block w.heap.size (by omega)).trans HXB.out
          have x3 := bx_cells hcl 0
          have HRW := Lib.hid (show FrameP.Row (FrameP.frS (segs.take (k))) (FrameP.fst0 segs) from by have := FrameP.rdS_row segs after; rwa [HQ.out] at this)
          have hna9 : na ≤ 1000 := by have := HN.out; have := FrameP.frS_take_le segs (k); have := HS.out.few; omega
          by_cases hA : FrameP.frS (segs.take (k)) = [] ∨ FrameP.fst0 segs + (FrameP.frS (segs.take (k))).length - 1 < after
          · have HSC := Lib.hid (show FrameP.scanF segs after = ([], (none, 0), segs.map (·.1)) from by unfold FrameP.scanF; rw [HQ.out, if_pos hA])
            have CF0' : ∀ W : World, Below tb y2 W → tb < W.heap.size → Calls Tryz.prog 48 #[.slice (some ⟨gn, 0, none⟩) segs.length c2] W fun e w' => ∃ A' c', e = .returned (.slice A' segs.length c') ∧ w'.ownsRow (tb + 1) 9 1 (.slice A' segs.length c') segs.length ((segs.map (·.1)).map fun n => Value.string (tB n)) ∧ Below W.heap.size W w' := fun W hW hWs => by
              have := CFl.out 0 (some ⟨gn, 0, none⟩) c2 W (hB2.trans (hW.mono (by omega))) (by
                have := (Rd.own HNS.out).below (by rw [h2s]; exact hW) |>.more (by have := hW.size; omega)
                rw [List.map_map]
                exact this)
              rw [List.drop_zero, List.length_map] at this
              refine this.mono ?_
              rintro e w' ⟨A', c', e1, o, hb'⟩
              exact ⟨A', c', e1, own_monoN o hWs, hb'⟩
            have CF0 := Lib.hid CF0'
            clear CF0'
            by_cases h0 : na = 0
            · have g0 : ((na : Int) == 0) = true := by simp; omega
              clear hA hcl
              go_quiet (fail)
              have hbq : Below tb y2 (wr.drewN nq) := below_drewN hb nq
              have hbqs : tb < (wr.drewN nq).heap.size := Nat.lt_of_lt_of_le htbs (below_drewN (Below.refl 0 wr) nq).size
              ((go_wp2_with (go_at_call 48; ((with_reducible refine (CF0.out _ hbq hbqs).mono ?_); rintro e z1 ⟨A9, c9, rfl, o9, b9⟩; have hbz := hbq.trans (b9.mono (by have := hbq.size; omega)); have xr1 := (hbz.block (w.heap.size + 1) (by omega)).trans HXR.out; have r0 := bx_cells xr1 0; have r1 := bx_cells xr1 1; have r2 := bx_cells xr1 2; have r3 := bx_cells xr1 3; have f0 := bx_free xr1 0; have f1 := bx_free xr1 1; have f2 := bx_free xr1 2; have f3 := bx_free xr1 3))); have hzz := bx_set (bx_set (bx_set (bx_set xr1 0 (.slice none 0 0)) 1 (.string ⟨#[]⟩)) 2 (.int .i64 0)) 3 (.slice A9 segs.length c9); have y0 := bx_cells hzz 0; have y1 := bx_cells hzz 1; have y2 := bx_cells hzz 2; have y3 := bx_cells hzz 3; rw [Exit.noGoto_ret]; refine bodyPost_ret (v := .tuple #[.agg #[.slice none 0 0, .string ⟨#[]⟩, .int .i64 0, .slice A9 segs.length c9], .int .i64 0]) (by rw [results_cell_tmp rfl]; go_simp) rfl ?_; rw [HSC.out]; exact scan_done (B := tb + 1) (hB2.trans (hbz.mono (by omega))) (by omega) (World.ownsRow_nil _ _ _ _) rfl o9 (by simp) rfl rfl _ _ _ _)
            · obtain ⟨m, hm⟩ : ∃ m, na = m + 1 := ⟨na - 1, by omega⟩
              obtain ⟨f, hf⟩ : ∃ f, (FrameP.frS (segs.take (k)))[m]? = some f := ⟨_, List.getElem?_eq_getElem (by rw [← HN.out]; omega)⟩
              have hf1 := HRW.out m f hf
              obtain ⟨gf, hgf⟩ : ∃ gf, A3 = some ⟨gf, 0, none⟩ := by
                rcases row_sliceN HO.out with ⟨_, h0⟩ | ⟨gw, cap, e1, _⟩
                · omega
                · exact ⟨gw, by injection e1⟩
              have z0 := HO.out.cells (g := gf) (by rw [hgf]; rfl) _ _ (fcells_get _ m f hf).1
              rw [add0] at z0
              have hlt1 : decide (f.1 < after) = true := by
                rw [decide_eq_true_eq]
                rcases hA with h | h
                · have := HN.out; rw [h] at this; simp at this; omega
                · have := HN.out; omega
              have g0 : ((na : Int) == 0) = false := by simp; omega
              have hi1 : (na : Int) - 1 = (m : Int) := by omega
              have hi2 : (m : Int) < (na : Int) := by omega
              have hi3 : m < na := by omega
              subst hgf
              clear hA hcl hf hf1 h0 hm
              go_quiet (fail)
              have hbq : Below tb y2 (wr.drewN nq) := below_drewN hb nq
              have hbqs : tb < (wr.drewN nq).heap.size := Nat.lt_of_lt_of_le htbs (below_drewN (Below.refl 0 wr) nq).size
              ((go_wp2_with (go_at_call 48; ((with_reducible refine (CF0.out _ hbq hbqs).mono ?_); rintro e z1 ⟨A9, c9, rfl, o9, b9⟩; have hbz := hbq.trans (b9.mono (by have := hbq.size; omega)); have xr1 := (hbz.block (w.heap.size + 1) (by omega)).trans HXR.out; have r0 := bx_cells xr1 0; have r1 := bx_cells xr1 1; have r2 := bx_cells xr1 2; have r3 := bx_cells xr1 3; have f0 := bx_free xr1 0; have f1 := bx_free xr1 1; have f2 := bx_free xr1 2; have f3 := bx_free xr1 3))); have hzz := bx_set (bx_set (bx_set (bx_set xr1 0 (.slice none 0 0)) 1 (.string ⟨#[]⟩)) 2 (.int .i64 0)) 3 (.slice A9 segs.length c9); have y0 := bx_cells hzz 0; have y1 := bx_cells hzz 1; have y2 := bx_cells hzz 2; have y3 := bx_cells hzz 3; rw [Exit.noGoto_ret]; refine bodyPost_ret (v := .tuple #[.agg #[.slice none 0 0, .string ⟨#[]⟩, .int .i64 0, .slice A9 segs.length c9], .int .i64 0]) (by rw [results_cell_tmp rfl]; go_simp) rfl ?_; rw [HSC.out]; exact scan_done (B := tb + 1) (hB2.trans (hbz.mono (by omega))) (by omega) (World.ownsRow_nil _ _ _ _) rfl o9 (by simp) rfl rfl _ _ _ _)
          · have hnil : FrameP.frS (segs.take (k)) ≠ [] := fun e => hA (.inl e)
            have hlast : ¬ FrameP.fst0 segs + (FrameP.frS (segs.take (k))).length - 1 < after := fun e => hA (.inr e)
            have hq0 : 0 < k := by
              rcases Nat.eq_zero_or_pos (k) with h | h
              · exact absurd (by rw [h]; rfl) hnil
              · exact h
            have hqs : k ≤ segs.length := by have := FrameP.rdS_le segs after; rwa [HQ.out] at this
            obtain ⟨q', hq'⟩ : ∃ q', q' = (after - FrameP.fst0 segs + 1).toNat := ⟨_, rfl⟩
            have HSC := Lib.hid (show FrameP.scanF segs after = ((FrameP.frS (segs.take (k))).drop q', (fileK segs (k), keepK segs (k)), (segs.drop (k)).map (·.1)) from by
              unfold FrameP.scanF fileK keepK
              rw [HQ.out, if_neg hA, hq', if_neg (by omega), if_neg (by omega)])
            obtain ⟨m, hm⟩ : ∃ m, na = m + 1 := ⟨na - 1, by have := HN.out; have := List.length_pos_iff.2 hnil; omega⟩
            obtain ⟨f, hf⟩ : ∃ f, (FrameP.frS (segs.take (k)))[m]? = some f := ⟨_, List.getElem?_eq_getElem (by rw [← HN.out]; omega)⟩
            have hf1 := HRW.out m f hf
            obtain ⟨gf, hgf⟩ : ∃ gf, A3 = some ⟨gf, 0, none⟩ := by
              rcases row_sliceN HO.out with ⟨_, h0⟩ | ⟨gw, cap, e1, _⟩
              · omega
              · exact ⟨gw, by injection e1⟩
            subst hgf
            have z0 := HO.out.cells (g := gf) rfl _ _ (fcells_get _ m f hf).1
            rw [add0] at z0
            have hgf1 := HO.out.lt gf rfl
            have hlt1 : decide (f.1 < after) = false := by
              rw [decide_eq_false_iff_not]
              have := HN.out
              omega
            have g0 : ((na : Int) == 0) = false := by simp; omega
            have hi1 : (na : Int) - 1 = (m : Int) := by omega
            have hi2 : (m : Int) < (na : Int) := by omega
            have hi3 : m < na := by omega
            have CDl' : ∀ W : World, Below tb y2 W → W.ownsRow (tb + 1) 46 2 (.slice (some ⟨gf, 0, none⟩) na c3) na (fcells (FrameP.frS (segs.take (k)))) → tb < W.heap.size → Calls Tryz.prog 49 #[.slice (some ⟨gf, 0, none⟩) na c3, .func (.func 50) #[] #[.pointer (some ⟨w.heap.size, 0, none⟩)]] W fun e w' => e = .returned (.slice (some ⟨gf, 0, none⟩) (na - q') c3) ∧ w'.ownsRow (tb + 1) 46 2 (.slice (some ⟨gf, 0, none⟩) (na - q') c3) (na - q') (fcells ((FrameP.frS (segs.take (k))).drop q')) ∧ W.grownBy w' (some gf) := fun W hW ho hs => by
              have := rep_Delete (tb + 1) gf c3 (FrameP.frS (segs.take (k))) (by rw [← HN.out]; omega) (FrameP.fst0 segs) HRW.out hnil q' (by rw [hq']; omega) w.heap.size after (by rw [hq']; omega) W ((bx_cells ((hW.block w.heap.size (by omega)).trans HXB.out) 0).trans rfl) (by omega) hs (by rw [← HN.out]; exact ho)
              rw [← HN.out] at this
              exact this
            have CDl := Lib.hid CDl'
            have CFq' : ∀ (A' : Option Addr) (c' : Nat) (W : World), Below tb y2 W → tb < W.heap.size → Rd W W.heap.size A' (((segs.drop (k)).map (·.1)).map (Value.int .i64)) → Calls Tryz.prog 48 #[.slice A' (segs.length - (k)) c'] W fun e w' => ∃ A'' c'', e = .returned (.slice A'' (segs.length - (k)) c'') ∧ w'.ownsRow (tb + 1) 9 1 (.slice A'' (segs.length - (k)) c'') (segs.length - (k)) (((segs.drop (k)).map (·.1)).map fun n => Value.string (tB n)) ∧ Below W.heap.size W w' := fun A' c' W hW hWs hr => by
              have := CFl.out (k) A' c' W (hB2.trans (hW.mono (by omega))) hr
              rw [List.length_map, List.length_drop] at this
              refine this.mono ?_
              rintro e w' ⟨A', c', e1, o, hb'⟩
              exact ⟨A', c', e1, own_monoN o hWs, hb'⟩
            have CFq := Lib.hid CFq'
            have hcap2 := own_cap HNS.out
            have hdl : (FrameP.frS (segs.take (k))).length - q' = ((FrameP.frS (segs.take (k))).drop q').length := by rw [List.length_drop]
            rw [← HN.out] at hdl
            have HDL := Lib.hid hdl
            have hi4 : ((k : Nat) : Int) ≤ (segs.length : Int) := by omega
            have hi5 : ((k : Nat) : Int) ≤ (c2 : Int) := by omega
            have hi6 : (segs.length : Int) ≤ (c2 : Int) := by omega
            by_cases hcq : c2 = k
            · exfalso; omega
            · have HRD := Lib.hid (fun (W : World) (hW : Below tb y2 W) => (show Rd W W.heap.size (some ⟨gn, k, none⟩) (((segs.drop (k)).map (·.1)).map (Value.int .i64)) from by
                have := Rd.tail (own_below HNS.out (by rw [h2s]; exact hW)) (k)
                rw [← List.map_drop] at this
                rw [List.map_map]
                exact this))
              clear hA hcl hf hf1 hm hq' hnil hlast CDl' CFq' hdl
              go_quiet (fail)
              have hbq : Below tb y2 (wr.drewN nq) := below_drewN hb nq
              have hwq : Below wr.heap.size wr (wr.drewN nq) := below_drewN (Below.refl _ wr) nq
              have hbqs : tb < (wr.drewN nq).heap.size := Nat.lt_of_lt_of_le htbs hwq.size
              ((go_wp2_with (first | (go_at_call 49; (((with_reducible refine (CDl.out _ hbq (own_below HO.out hwq) hbqs).mono ?_); rintro e z1 ⟨rfl, o1, g1⟩; have hbz := hbq.grown g1 (by omega) (fun k e => by cases e; omega); have xt1 := (g1.block tb hbqs (by simp; omega)).trans ((hwq.block tb htbs).trans HT.out); have p0 := bx_cells xt1 0; have pf0 := bx_free xt1 0; have xt2 := bx_set xt1 0 (.slice (some ⟨gf, 0, none⟩) (na - q') c3); have hbZ := hbz.setCell (p := ⟨tb, 0, none⟩) (Nat.le_refl _) (.slice (some ⟨gf, 0, none⟩) (na - q') c3); have oZ := ownsRow_setCell_other o1 (a := ⟨tb, 0, none⟩) (by simp [Value.ownBlock]; omega) (.slice (some ⟨gf, 0, none⟩) (na - q') c3); have hZs := bx_lt xt2))) | (go_at_call 48; (((with_reducible refine (CFq.out _ _ _ hbZ hZs (HRD.out _ hbZ)).mono ?_); rintro e z2 ⟨A9, c9, rfl, o9, b9⟩; have hbz2 := hbZ.trans (b9.mono (by omega)); have xt3 := bx_kept xt2 b9; have q0 := bx_cells xt3 0; have q1 := bx_cells xt3 1; have q2 := bx_cells xt3 2; have q3 := bx_cells xt3 3; have qf3 := bx_free xt3 3; have xr1 := (hbz2.block (w.heap.size + 1) (by omega)).trans HXR.out; have xr2 := (heap_setCell_other z2 ⟨tb, 3, none⟩ (w.heap.size + 1) (.slice A9 (segs.length - (k)) c9) (by show w.heap.size + 1 ≠ tb; omega)).trans xr1; have r0 := bx_cells xr2 0; have r1 := bx_cells xr2 1; have r2 := bx_cells xr2 2; have r3 := bx_cells xr2 3; have f0 := bx_free xr2 0; have f1 := bx_free xr2 1; have f2 := bx_free xr2 2; have f3 := bx_free xr2 3))))); have hzz := bx_set (bx_set (bx_set (bx_set xr2 0 (.slice (some ⟨gf, 0, none⟩) (na - q') c3)) 1 (.string (fileB (fileK segs (k))))) 2 (.int .i64 (keepK segs (k) : Nat))) 3 (.slice A9 (segs.length - (k)) c9); have y0 := bx_cells hzz 0; have y1 := bx_cells hzz 1; have y2 := bx_cells hzz 2; have y3 := bx_cells hzz 3; rw [Exit.noGoto_ret]; refine bodyPost_ret (v := .tuple #[.agg #[.slice (some ⟨gf, 0, none⟩) (na - q') c3, .string (fileB (fileK segs (k))), .int .i64 (keepK segs (k) : Nat), .slice A9 (segs.length - (k)) c9], .int .i64 0]) (by rw [results_cell_tmp rfl]; go_simp) rfl ?_; rw [HSC.out]; exact scan_done (B := tb + 1) ((hB2.trans (hbz2.mono (by omega))).setCell (p := ⟨tb, 3, none⟩) (by show w.heap.size ≤ tb; omega) _) (by omega) (ownsRow_setCell_other (own_below oZ b9) (a := ⟨tb, 3, none⟩) (by simp [Value.ownBlock]; omega) _) HDL.out (ownsRow_setCell_other o9 (a := ⟨tb, 3, none⟩) (fun e => absurd (show tb + 1 ≤ tb from (o9.lt _ e).1) (by omega)) _) (by simp) rfl rfl _ _ _ _)
    · have hi1 : ¬ (k : Int) < (segs.length : Int) := by omega
      have HQ := Lib.hid (show FrameP.rdS segs after = k from by
        rcases HF.out.2 with h | ⟨_, h⟩
        · obtain rfl : segs = [] := List.eq_nil_of_length_eq_zero (by omega)
          rw [h]; rfl
        · rw [h, List.drop_eq_nil_of_le (by omega)]; rfl)
      have HN := Lib.hid HF.out.1
      clear hlt HF
      go_wp2_with fail
      have hcl : wr.heap[w.heap.size]? = some (.cells #[.int .i64 after] 3 (0, 0)) := (hb.block w.heap.size (by omega)).trans HXB.out
      have x3 := bx_cells hcl 0
      have HRW := Lib.hid (show FrameP.Row (FrameP.frS (segs.take (k))) (FrameP.fst0 segs) from by have := FrameP.rdS_row segs after; rwa [HQ.out] at this)
      have hna9 : na ≤ 1000 := by have := HN.out; have := FrameP.frS_take_le segs (k); have := HS.out.few; omega
      by_cases hA : FrameP.frS (segs.take (k)) = [] ∨ FrameP.fst0 segs + (FrameP.frS (segs.take (k))).length - 1 < after
      · have HSC := Lib.hid (show FrameP.scanF segs after = ([], (none, 0), segs.map (·.1)) from by unfold FrameP.scanF; rw [HQ.out, if_pos hA])
        have CF0' : ∀ W : World, Below tb y2 W → tb < W.heap.size → Calls Tryz.prog 48 #[.slice A2 segs.length c2] W fun e w' => ∃ A' c', e = .returned (.slice A' segs.length c') ∧ w'.ownsRow (tb + 1) 9 1 (.slice A' segs.length c') segs.length ((segs.map (·.1)).map fun n => Value.string (tB n)) ∧ Below W.heap.size W w' := fun W hW hWs => by
          have := CFl.out 0 A2 c2 W (hB2.trans (hW.mono (by omega))) (by
            have := (Rd.own HNS.out).below (by rw [h2s]; exact hW) |>.more (by have := hW.size; omega)
            rw [List.map_map]
            exact this)
          rw [List.drop_zero, List.length_map] at this
          refine this.mono ?_
          rintro e w' ⟨A', c', e1, o, hb'⟩
          exact ⟨A', c', e1, own_monoN o hWs, hb'⟩
        have CF0 := Lib.hid CF0'
        clear CF0'
        by_cases h0 : na = 0
        · have g0 : ((na : Int) == 0) = true := by simp; omega
          clear hA hcl
          go_quiet (fail)
          have hbq : Below tb y2 (wr.drewN nq) := below_drewN hb nq
          have hbqs : tb < (wr.drewN nq).heap.size := Nat.lt_of_lt_of_le htbs (below_drewN (Below.refl 0 wr) nq).size
          ((go_wp2_with (go_at_call 48; ((with_reducible refine (CF0.out _ hbq hbqs).mono ?_); rintro e z1 ⟨A9, c9, rfl, o9, b9⟩; have hbz := hbq.trans (b9.mono (by have := hbq.size; omega)); have xr1 := (hbz.block (w.heap.size + 1) (by omega)).trans HXR.out; have r0 := bx_cells xr1 0; have r1 := bx_cells xr1 1; have r2 := bx_cells xr1 2; have r3 := bx_cells xr1 3; have f0 := bx_free xr1 0; have f1 := bx_free xr1 1; have f2 := bx_free xr1 2; have f3 := bx_free xr1 3))); have hzz := bx_set (bx_set (bx_set (bx_set xr1 0 (.slice none 0 0)) 1 (.string ⟨#[]⟩)) 2 (.int .i64 0)) 3 (.slice A9 segs.length c9); have y0 := bx_cells hzz 0; have y1 := bx_cells hzz 1; have y2 := bx_cells hzz 2; have y3 := bx_cells hzz 3; rw [Exit.noGoto_ret]; refine bodyPost_ret (v := .tuple #[.agg #[.slice none 0 0, .string ⟨#[]⟩, .int .i64 0, .slice A9 segs.length c9], .int .i64 0]) (by rw [results_cell_tmp rfl]; go_simp) rfl ?_; rw [HSC.out]; exact scan_done (B := tb + 1) (hB2.trans (hbz.mono (by omega))) (by omega) (World.ownsRow_nil _ _ _ _) rfl o9 (by simp) rfl rfl _ _ _ _)
        · obtain ⟨m, hm⟩ : ∃ m, na = m + 1 := ⟨na - 1, by omega⟩
          obtain ⟨f, hf⟩ : ∃ f, (FrameP.frS (segs.take (k)))[m]? = some f := ⟨_, List.getElem?_eq_getElem (by rw [← HN.out]; omega)⟩
          have hf1 := HRW.out m f hf
          obtain ⟨gf, hgf⟩ : ∃ gf, A3 = some ⟨gf, 0, none⟩ := by
            rcases row_sliceN HO.out with ⟨_, h0⟩ | ⟨gw, cap, e1, _⟩
            · omega
            · exact ⟨gw, by injection e1⟩
          have z0 := HO.out.cells (g := gf) (by rw [hgf]; rfl) _ _ (fcells_get _ m f hf).1
          rw [add0] at z0
          have hlt1 : decide (f.1 < after) = true := by
            rw [decide_eq_true_eq]
            rcases hA with h | h
            · have := HN.out; rw [h] at this; simp at this; omega
            · have := HN.out; omega
          have g0 : ((na : Int) == 0) = false := by simp; omega
          have hi1 : (na : Int) - 1 = (m : Int) := by omega
          have hi2 : (m : Int) < (na : Int) := by omega
          have hi3 : m < na := by omega
          subst hgf
          clear hA hcl hf hf1 h0 hm
          go_quiet (fail)
          have hbq : Below tb y2 (wr.drewN nq) := below_drewN hb nq
          have hbqs : tb < (wr.drewN nq).heap.size := Nat.lt_of_lt_of_le htbs (below_drewN (Below.refl 0 wr) nq).size
          ((go_wp2_with (go_at_call 48; ((with_reducible refine (CF0.out _ hbq hbqs).mono ?_); rintro e z1 ⟨A9, c9, rfl, o9, b9⟩; have hbz := hbq.trans (b9.mono (by have := hbq.size; omega)); have xr1 := (hbz.block (w.heap.size + 1) (by omega)).trans HXR.out; have r0 := bx_cells xr1 0; have r1 := bx_cells xr1 1; have r2 := bx_cells xr1 2; have r3 := bx_cells xr1 3; have f0 := bx_free xr1 0; have f1 := bx_free xr1 1; have f2 := bx_free xr1 2; have f3 := bx_free xr1 3))); have hzz := bx_set (bx_set (bx_set (bx_set xr1 0 (.slice none 0 0)) 1 (.string ⟨#[]⟩)) 2 (.int .i64 0)) 3 (.slice A9 segs.length c9); have y0 := bx_cells hzz 0; have y1 := bx_cells hzz 1; have y2 := bx_cells hzz 2; have y3 := bx_cells hzz 3; rw [Exit.noGoto_ret]; refine bodyPost_ret (v := .tuple #[.agg #[.slice none 0 0, .string ⟨#[]⟩, .int .i64 0, .slice A9 segs.length c9], .int .i64 0]) (by rw [results_cell_tmp rfl]; go_simp) rfl ?_; rw [HSC.out]; exact scan_done (B := tb + 1) (hB2.trans (hbz.mono (by omega))) (by omega) (World.ownsRow_nil _ _ _ _) rfl o9 (by simp) rfl rfl _ _ _ _)
      · have hnil : FrameP.frS (segs.take (k)) ≠ [] := fun e => hA (.inl e)
        have hlast : ¬ FrameP.fst0 segs + (FrameP.frS (segs.take (k))).length - 1 < after := fun e => hA (.inr e)
        have hq0 : 0 < k := by
          rcases Nat.eq_zero_or_pos (k) with h | h
          · exact absurd (by rw [h]; rfl) hnil
          · exact h
        have hqs : k ≤ segs.length := by have := FrameP.rdS_le segs after; rwa [HQ.out] at this
        obtain ⟨q', hq'⟩ : ∃ q', q' = (after - FrameP.fst0 segs + 1).toNat := ⟨_, rfl⟩
        have HSC := Lib.hid (show FrameP.scanF segs after = ((FrameP.frS (segs.take (k))).drop q', (fileK segs (k), keepK segs (k)), (segs.drop (k)).map (·.1)) from by
          unfold FrameP.scanF fileK keepK
          rw [HQ.out, if_neg hA, hq', if_neg (by omega), if_neg (by omega)])
        obtain ⟨m, hm⟩ : ∃ m, na = m + 1 := ⟨na - 1, by have := HN.out; have := List.length_pos_iff.2 hnil; omega⟩
        obtain ⟨f, hf⟩ : ∃ f, (FrameP.frS (segs.take (k)))[m]? = some f := ⟨_, List.getElem?_eq_getElem (by rw [← HN.out]; omega)⟩
        have hf1 := HRW.out m f hf
        obtain ⟨gf, hgf⟩ : ∃ gf, A3 = some ⟨gf, 0, none⟩ := by
          rcases row_sliceN HO.out with ⟨_, h0⟩ | ⟨gw, cap, e1, _⟩
          · omega
          · exact ⟨gw, by injection e1⟩
        subst hgf
        have z0 := HO.out.cells (g := gf) rfl _ _ (fcells_get _ m f hf).1
        rw [add0] at z0
        have hgf1 := HO.out.lt gf rfl
        have hlt1 : decide (f.1 < after) = false := by
          rw [decide_eq_false_iff_not]
          have := HN.out
          omega
        have g0 : ((na : Int) == 0) = false := by simp; omega
        have hi1 : (na : Int) - 1 = (m : Int) := by omega
        have hi2 : (m : Int) < (na : Int) := by omega
        have hi3 : m < na := by omega
        have CDl' : ∀ W : World, Below tb y2 W → W.ownsRow (tb + 1) 46 2 (.slice (some ⟨gf, 0, none⟩) na c3) na (fcells (FrameP.frS (segs.take (k)))) → tb < W.heap.size → Calls Tryz.prog 49 #[.slice (some ⟨gf, 0, none⟩) na c3, .func (.func 50) #[] #[.pointer (some ⟨w.heap.size, 0, none⟩)]] W fun e w' => e = .returned (.slice (some ⟨gf, 0, none⟩) (na - q') c3) ∧ w'.ownsRow (tb + 1) 46 2 (.slice (some ⟨gf, 0, none⟩) (na - q') c3) (na - q') (fcells ((FrameP.frS (segs.take (k))).drop q')) ∧ W.grownBy w' (some gf) := fun W hW ho hs => by
          have := rep_Delete (tb + 1) gf c3 (FrameP.frS (segs.take (k))) (by rw [← HN.out]; omega) (FrameP.fst0 segs) HRW.out hnil q' (by rw [hq']; omega) w.heap.size after (by rw [hq']; omega) W ((bx_cells ((hW.block w.heap.size (by omega)).trans HXB.out) 0).trans rfl) (by omega) hs (by rw [← HN.out]; exact ho)
          rw [← HN.out] at this
          exact this
        have CDl := Lib.hid CDl'
        have CFq' : ∀ (A' : Option Addr) (c' : Nat) (W : World), Below tb y2 W → tb < W.heap.size → Rd W W.heap.size A' (((segs.drop (k)).map (·.1)).map (Value.int .i64)) → Calls Tryz.prog 48 #[.slice A' (segs.length - (k)) c'] W fun e w' => ∃ A'' c'', e = .returned (.slice A'' (segs.length - (k)) c'') ∧ w'.ownsRow (tb + 1) 9 1 (.slice A'' (segs.length - (k)) c'') (segs.length - (k)) (((segs.drop (k)).map (·.1)).map fun n => Value.string (tB n)) ∧ Below W.heap.size W w' := fun A' c' W hW hWs hr => by
          have := CFl.out (k) A' c' W (hB2.trans (hW.mono (by omega))) hr
          rw [List.length_map, List.length_drop] at this
          refine this.mono ?_
          rintro e w' ⟨A', c', e1, o, hb'⟩
          exact ⟨A', c', e1, own_monoN o hWs, hb'⟩
        have CFq := Lib.hid CFq'
        obtain ⟨gn, hgn⟩ : ∃ gn, A2 = some ⟨gn, 0, none⟩ := by
          rcases row_sliceN HNS.out with ⟨_, h0⟩ | ⟨gw, cap, e1, _⟩
          · omega
          · exact ⟨gw, by injection e1⟩
        subst hgn
        have hcap2 := own_cap HNS.out
        have hdl : (FrameP.frS (segs.take (k))).length - q' = ((FrameP.frS (segs.take (k))).drop q').length := by rw [List.length_drop]
        rw [← HN.out] at hdl
        have HDL := Lib.hid hdl
        have hi4 : ((k : Nat) : Int) ≤ (segs.length : Int) := by omega
        have hi5 : ((k : Nat) : Int) ≤ (c2 : Int) := by omega
        have hi6 : (segs.length : Int) ≤ (c2 : Int) := by omega
        by_cases hcq : c2 = k
        · have HRD := Lib.hid (fun (W : World) (_ : Below tb y2 W) => (show Rd W W.heap.size (some ⟨gn, 0, none⟩) (((segs.drop (k)).map (·.1)).map (Value.int .i64)) from by rw [List.drop_eq_nil_of_le (by omega)]; exact fun j u hj => by simp at hj))
          clear hA hcl hf hf1 hm hq' hnil hlast CDl' CFq' hdl
          go_quiet (fail)
          have hbq : Below tb y2 (wr.drewN nq) := below_drewN hb nq
          have hwq : Below wr.heap.size wr (wr.drewN nq) := below_drewN (Below.refl _ wr) nq
          have hbqs : tb < (wr.drewN nq).heap.size := Nat.lt_of_lt_of_le htbs hwq.size
          ((go_wp2_with (first | (go_at_call 49; (((with_reducible refine (CDl.out _ hbq (own_below HO.out hwq) hbqs).mono ?_); rintro e z1 ⟨rfl, o1, g1⟩; have hbz := hbq.grown g1 (by omega) (fun k e => by cases e; omega); have xt1 := (g1.block tb hbqs (by simp; omega)).trans ((hwq.block tb htbs).trans HT.out); have p0 := bx_cells xt1 0; have pf0 := bx_free xt1 0; have xt2 := bx_set xt1 0 (.slice (some ⟨gf, 0, none⟩) (na - q') c3); have hbZ := hbz.setCell (p := ⟨tb, 0, none⟩) (Nat.le_refl _) (.slice (some ⟨gf, 0, none⟩) (na - q') c3); have oZ := ownsRow_setCell_other o1 (a := ⟨tb, 0, none⟩) (by simp [Value.ownBlock]; omega) (.slice (some ⟨gf, 0, none⟩) (na - q') c3); have hZs := bx_lt xt2))) | (go_at_call 48; (((with_reducible refine (CFq.out _ _ _ hbZ hZs (HRD.out _ hbZ)).mono ?_); rintro e z2 ⟨A9, c9, rfl, o9, b9⟩; have hbz2 := hbZ.trans (b9.mono (by omega)); have xt3 := bx_kept xt2 b9; have q0 := bx_cells xt3 0; have q1 := bx_cells xt3 1; have q2 := bx_cells xt3 2; have q3 := bx_cells xt3 3; have qf3 := bx_free xt3 3; have xr1 := (hbz2.block (w.heap.size + 1) (by omega)).trans HXR.out; have xr2 := (heap_setCell_other z2 ⟨tb, 3, none⟩ (w.heap.size + 1) (.slice A9 (segs.length - (k)) c9) (by show w.heap.size + 1 ≠ tb; omega)).trans xr1; have r0 := bx_cells xr2 0; have r1 := bx_cells xr2 1; have r2 := bx_cells xr2 2; have r3 := bx_cells xr2 3; have f0 := bx_free xr2 0; have f1 := bx_free xr2 1; have f2 := bx_free xr2 2; have f3 := bx_free xr2 3))))); have hzz := bx_set (bx_set (bx_set (bx_set xr2 0 (.slice (some ⟨gf, 0, none⟩) (na - q') c3)) 1 (.string (fileB (fileK segs (k))))) 2 (.int .i64 (keepK segs (k) : Nat))) 3 (.slice A9 (segs.length - (k)) c9); have y0 := bx_cells hzz 0; have y1 := bx_cells hzz 1; have y2 := bx_cells hzz 2; have y3 := bx_cells hzz 3; rw [Exit.noGoto_ret]; refine bodyPost_ret (v := .tuple #[.agg #[.slice (some ⟨gf, 0, none⟩) (na - q') c3, .string (fileB (fileK segs (k))), .int .i64 (keepK segs (k) : Nat), .slice A9 (segs.length - (k)) c9], .int .i64 0]) (by rw [results_cell_tmp rfl]; go_simp) rfl ?_; rw [HSC.out]; exact scan_done (B := tb + 1) ((hB2.trans (hbz2.mono (by omega))).setCell (p := ⟨tb, 3, none⟩) (by show w.heap.size ≤ tb; omega) _) (by omega) (ownsRow_setCell_other (own_below oZ b9) (a := ⟨tb, 3, none⟩) (by simp [Value.ownBlock]; omega) _) HDL.out (ownsRow_setCell_other o9 (a := ⟨tb, 3, none⟩) (fun e => absurd (show tb + 1 ≤ tb from (o9.lt _ e).1) (by omega)) _) (by simp) rfl rfl _ _ _ _)
        · have HRD := Lib.hid (fun (W : World) (hW : Below tb y2 W) => (show Rd W W.heap.size (some ⟨gn, k, none⟩) (((segs.drop (k)).map (·.1)).map (Value.int .i64)) from by
            have := Rd.tail (own_below HNS.out (by rw [h2s]; exact hW)) (k)
            rw [← List.map_drop] at this
            rw [List.map_map]
            exact this))
          clear hA hcl hf hf1 hm hq' hnil hlast CDl' CFq' hdl
          go_quiet (fail)
          have hbq : Below tb y2 (wr.drewN nq) := below_drewN hb nq
          have hwq : Below wr.heap.size wr (wr.drewN nq) := below_drewN (Below.refl _ wr) nq
          have hbqs : tb < (wr.drewN nq).heap.size := Nat.lt_of_lt_of_le htbs hwq.size
          ((go_wp2_with (first | (go_at_call 49; (((with_reducible refine (CDl.out _ hbq (own_below HO.out hwq) hbqs).mono ?_); rintro e z1 ⟨rfl, o1, g1⟩; have hbz := hbq.grown g1 (by omega) (fun k e => by cases e; omega); have xt1 := (g1.block tb hbqs (by simp; omega)).trans ((hwq.block tb htbs).trans HT.out); have p0 := bx_cells xt1 0; have pf0 := bx_free xt1 0; have xt2 := bx_set xt1 0 (.slice (some ⟨gf, 0, none⟩) (na - q') c3); have hbZ := hbz.setCell (p := ⟨tb, 0, none⟩) (Nat.le_refl _) (.slice (some ⟨gf, 0, none⟩) (na - q') c3); have oZ := ownsRow_setCell_other o1 (a := ⟨tb, 0, none⟩) (by simp [Value.ownBlock]; omega) (.slice (some ⟨gf, 0, none⟩) (na - q') c3); have hZs := bx_lt xt2))) | (go_at_call 48; (((with_reducible refine (CFq.out _ _ _ hbZ hZs (HRD.out _ hbZ)).mono ?_); rintro e z2 ⟨A9, c9, rfl, o9, b9⟩; have hbz2 := hbZ.trans (b9.mono (by omega)); have xt3 := bx_kept xt2 b9; have q0 := bx_cells xt3 0; have q1 := bx_cells xt3 1; have q2 := bx_cells xt3 2; have q3 := bx_cells xt3 3; have qf3 := bx_free xt3 3; have xr1 := (hbz2.block (w.heap.size + 1) (by omega)).trans HXR.out; have xr2 := (heap_setCell_other z2 ⟨tb, 3, none⟩ (w.heap.size + 1) (.slice A9 (segs.length - (k)) c9) (by show w.heap.size + 1 ≠ tb; omega)).trans xr1; have r0 := bx_cells xr2 0; have r1 := bx_cells xr2 1; have r2 := bx_cells xr2 2; have r3 := bx_cells xr2 3; have f0 := bx_free xr2 0; have f1 := bx_free xr2 1; have f2 := bx_free xr2 2; have f3 := bx_free xr2 3))))); have hzz := bx_set (bx_set (bx_set (bx_set xr2 0 (.slice (some ⟨gf, 0, none⟩) (na - q') c3)) 1 (.string (fileB (fileK segs (k))))) 2 (.int .i64 (keepK segs (k) : Nat))) 3 (.slice A9 (segs.length - (k)) c9); have y0 := bx_cells hzz 0; have y1 := bx_cells hzz 1; have y2 := bx_cells hzz 2; have y3 := bx_cells hzz 3; rw [Exit.noGoto_ret]; refine bodyPost_ret (v := .tuple #[.agg #[.slice (some ⟨gf, 0, none⟩) (na - q') c3, .string (fileB (fileK segs (k))), .int .i64 (keepK segs (k) : Nat), .slice A9 (segs.length - (k)) c9], .int .i64 0]) (by rw [results_cell_tmp rfl]; go_simp) rfl ?_; rw [HSC.out]; exact scan_done (B := tb + 1) ((hB2.trans (hbz2.mono (by omega))).setCell (p := ⟨tb, 3, none⟩) (by show w.heap.size ≤ tb; omega) _) (by omega) (ownsRow_setCell_other (own_below oZ b9) (a := ⟨tb, 3, none⟩) (by simp [Value.ownBlock]; omega) _) HDL.out (ownsRow_setCell_other o9 (a := ⟨tb, 3, none⟩) (fun e => absurd (show tb + 1 ≤ tb from (o9.lt _ e).1) (by omega)) _) (by simp) rfl rfl _ _ _ _)
end Go.Proofs.YtcpmicinibfepaaGreatDoor
