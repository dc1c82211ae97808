/- Walks of layer 7 (disk): is a text a name? · Walks of layer 7 (disk): operate; what a store into a file leaves · Walks of layer 7 (disk): Append · Walks of layer 7 (disk): Append, where it is done · Walks of layer 7 (disk): Sync · Walks of layer 7 (disk): take, Remove · Walks of layer 7 (disk): Remove, Rename · Walks of layer 7 (disk): Cut. -/
import Derived.Test.YtcpmicinibfepaaGreatDoorWAo
import Derived.Lib.OthersKept
import Derived.Laws.RangeAny
namespace Go.Proofs.YtcpmicinibfepaaGreatDoor
open Go.ChangeShapes Go.WideShapes Go.ChangeAt Go.RowKit Go.Deep DiskP


def letterI (r : Int) : Bool := decide ((97 ≤ r ∧ r ≤ 122) ∨ (48 ≤ r ∧ r ≤ 57) ∨ r = 46 ∨ r = 45)
def namedD (s : ByteArray) : Bool := s.data.toList.all (fun c => letterI (c.toNat : Int)) && (decide (1 ≤ s.size) && decide (s.size ≤ 24))
theorem disk_letter (r : Int) (w : World) : Calls Tryz.prog 80 #[.int .i32 r] w fun e w' => e = .returned (.bool (letterI r)) ∧ w = w' := by
  by_cases h1 : 97 ≤ r ∧ r ≤ 122
  · rw [show letterI r = true by unfold letterI; rw [decide_eq_true_eq]; exact .inl h1]
    obtain ⟨a1, a2⟩ := h1
    go_enter Tryz.func80, Tryz.ntmps80
    go_wp2_with fail
    go_ret
    exact ⟨rfl, rfl⟩
  · by_cases h2 : 48 ≤ r ∧ r ≤ 57
    · rw [show letterI r = true by unfold letterI; rw [decide_eq_true_eq]; exact .inr (.inl h2)]
      obtain ⟨a1, a2⟩ := h2
      have a3 : ¬ 97 ≤ r := by omega
      go_enter Tryz.func80, Tryz.ntmps80
      go_wp2_with fail
      go_ret
      exact ⟨rfl, rfl⟩
    · by_cases h3 : r = 46
      · subst h3
        go_enter Tryz.func80, Tryz.ntmps80
        go_wp2_with fail
        go_ret
        exact ⟨rfl, rfl⟩
      · by_cases h4 : r = 45
        · subst h4
          go_enter Tryz.func80, Tryz.ntmps80
          go_wp2_with fail
          go_ret
          exact ⟨rfl, rfl⟩
        · rw [show letterI r = false by unfold letterI; rw [decide_eq_false_iff_not]; omega]
          have b3 : (r == 46) = false := by rw [beq_eq_false_iff_ne]; exact h3
          have b4 : (r == 45) = false := by rw [beq_eq_false_iff_ne]; exact h4
          clear h3 h4
          by_cases c1 : 97 ≤ r
          · have c2 : ¬ r ≤ 122 := fun h => h1 ⟨c1, h⟩
            have c3 : ¬ r ≤ 57 := by omega
            have c4 : 48 ≤ r := by omega
            clear h1 h2
            go_enter Tryz.func80, Tryz.ntmps80
            go_wp2_with fail
            go_ret
            exact ⟨rfl, rfl⟩
          · by_cases c4 : 48 ≤ r
            · have c3 : ¬ r ≤ 57 := fun h => h2 ⟨c4, h⟩
              clear h1 h2
              go_enter Tryz.func80, Tryz.ntmps80
              go_wp2_with fail
              go_ret
              exact ⟨rfl, rfl⟩
            · clear h1 h2
              go_enter Tryz.func80, Tryz.ntmps80
              go_wp2_with fail
              go_ret
              exact ⟨rfl, rfl⟩
theorem named_at (s : ByteArray) (j : Nat) (h : j < s.size) : s.data.toList[j]? = some (s[j]'h) := by
  have h2 : j < s.data.toList.length := h
  rw [List.getElem?_eq_getElem h2]
  rfl
theorem named_no {s : ByteArray} {j : Nat} {h : j < s.size} (hb : letterI ((s[j]'h).toNat : Int) = false) : namedD s = false := by
  unfold namedD
  have ha : s.data.toList.all (fun c => letterI (c.toNat : Int)) = false := by
    rw [List.all_eq_false]
    exact ⟨s[j]'h, List.mem_of_getElem? (named_at s j h), by rw [hb]; simp⟩
  rw [ha]; rfl
theorem named_yes {s : ByteArray} (hb : ∀ j (h : j < s.size), letterI ((s[j]'h).toNat : Int) = true) : namedD s = (decide (1 ≤ s.size) && decide (s.size ≤ 24)) := by
  unfold namedD
  have ha : s.data.toList.all (fun c => letterI (c.toNat : Int)) = true := by
    rw [List.all_eq_true]
    intro c hc
    obtain ⟨j, hj, e⟩ := List.getElem_of_mem hc
    have := hb j hj
    rw [← e]
    exact this
  rw [ha]; rfl

set_option maxRecDepth 100000 in
theorem disk_named (s : ByteArray) (hs : s.size ≤ maxLen) (w : World) : Calls Tryz.prog 58 #[.string s] w fun e w' => e = .returned (.bool (namedD s)) ∧ Below w.heap.size w w' := by
  unfold maxLen at hs
  have HNO := Lib.hid (fun j (h : j < s.size) => named_no (s := s) (j := j) (h := h))
  have HYES := Lib.hid (named_yes (s := s))
  go_enter Tryz.func58, Tryz.ntmps58
  go_wp2_with fail
  go_loopw [] (fun wr => ∃ pos : Nat, pos ≤ s.size ∧ wr.heap[w.heap.size]? = some (.stringIter s pos) ∧ (∀ j (h : j < s.size), j < pos → letterI ((s[j]'h).toNat : Int) = true) ∧ Below w.heap.size w wr) (fun wr => s.size - wr.iterPos w.heap.size)
  case atStart => exact ⟨0, by omega, by have := World.iter_heap w s 0; simpa using this, fun j h hj => by omega, (Below.refl _ w).alloc (Nat.le_refl _) _⟩
  case round =>
    obtain ⟨pos, hpos, hit, hpre, hb⟩ := hrel
    have HPRE := Lib.hid hpre
    clear hpre
    by_cases hp : pos < s.size
    · by_cases ha : (s[pos]'hp).toNat < 128
      · have hnx := fun ty => Lib.run_next_ascii_at (P := Tryz.prog) wr w.heap.size s pos ty hit hp ha
        have hit2 := Lib.iterAt_heap wr w.heap.size s pos (pos + 1) hit
        have hb2 := Lib.below_iterAt hb (k := w.heap.size) (Nat.le_refl _) s (pos + 1)
        have HB := Lib.hid (HNO.out pos hp)
        have HPK := Lib.hid (fun (hl : letterI ((s[pos]'hp).toNat : Int) = true) (j : Nat) (h : j < s.size) (hj : j < pos + 1) => (by
          rcases Nat.lt_or_ge j pos with h1 | h1
          · exact HPRE.out j h h1
          · obtain rfl : j = pos := by omega
            exact hl : letterI ((s[j]'h).toNat : Int) = true))
        have HIT := Lib.hid hit
        generalize (s[pos]'hp).toNat = x at hnx HB HPK ha
        cases hl : letterI (x : Int) with
        | false =>
          go_wp2_with (go_at_call 80; refine (disk_letter _ _).mono ?_; rintro e w1 ⟨rfl, rfl⟩; rw [hl])
          go_ret
          exact ⟨by rw [HB.out hl]; rfl, hb2⟩
        | true =>
          go_wp2_with (go_at_call 80; refine (disk_letter _ _).mono ?_; rintro e w1 ⟨rfl, rfl⟩; rw [hl])
          refine ⟨⟨pos + 1, by omega, hit2, HPK.out hl, hb2⟩, ?_⟩
          simp only [World.iterPos, hit2, HIT.out]
          omega
      · have hd := decode_high s pos hp (by omega)
        have hnx := fun ty => Lib.run_next_any_at (P := Tryz.prog) wr w.heap.size s pos ty hit hp
        have hb2 := Lib.below_iterAt hb (k := w.heap.size) (Nat.le_refl _) s (pos + (Utf8.decode s pos).2)
        have HB := Lib.hid (HNO.out pos hp (by unfold letterI; rw [decide_eq_false_iff_not]; omega))
        have hl : letterI ((Utf8.decode s pos).1 : Int) = false := by unfold letterI; rw [decide_eq_false_iff_not]; omega
        clear hd
        generalize Utf8.decode s pos = dd at hnx hb2 hl
        go_wp2_with (go_at_call 80; refine (disk_letter _ _).mono ?_; rintro e w1 ⟨rfl, rfl⟩; rw [hl])
        go_ret
        exact ⟨by rw [HB.out]; rfl, hb2⟩
    · have hnx := fun ty => Lib.run_next_end_at (P := Tryz.prog) wr w.heap.size s pos ty hit hp
      have HY := Lib.hid (HYES.out (fun j h => HPRE.out j h (by omega)))
      by_cases h0 : s.size = 0
      · have he : s.toList.isEmpty = true := by
          rw [ByteArray.toList_eq, List.isEmpty_iff]
          exact List.eq_nil_of_length_eq_zero h0
        go_wp2_with fail
        go_ret
        exact ⟨by rw [HY.out, h0]; rfl, hb⟩
      · have he : s.toList.isEmpty = false := by
          rw [ByteArray.toList_eq, List.isEmpty_eq_false_iff]
          intro h
          exact h0 (congrArg List.length h)
        by_cases h24 : s.size ≤ 24
        · have d24 : decide ((s.size : Int) ≤ 24) = true := by rw [decide_eq_true_eq]; omega
          go_wp2_with fail
          go_ret
          exact ⟨by rw [HY.out, decide_eq_true h24, decide_eq_true (show 1 ≤ s.size by omega)]; rfl, hb⟩
        · have d24 : decide ((s.size : Int) ≤ 24) = false := by rw [decide_eq_false_iff_not]; omega
          go_wp2_with fail
          go_ret
          exact ⟨by rw [HY.out, decide_eq_false h24, Bool.and_false]; rfl, hb⟩
end Go.Proofs.YtcpmicinibfepaaGreatDoor

namespace Go.Proofs.YtcpmicinibfepaaGreatDoor
open Go.ChangeShapes Go.WideShapes Go.ChangeAt Go.RowKit Go.Deep DiskP


theorem dkeep_grown {w w' : World} {d n sz : Nat} {v : Value} {xs : List Value} (ho : w.ownsRow (d + 1) 81 sz v n xs) (hg : w.grownBy w' v.ownBlock) (hd : d ≤ w.heap.size) : DKeep d w w' := by
  refine ⟨(Below.refl d w).grown hg hd (fun k e => by have := (ho.lt k e).1; omega), fun b hb hs ht => hg.block b hs (fun e => ?_)⟩
  rcases ho.2 with ⟨rfl, _⟩ | ⟨g, cap, cur, rfl, _, hgb, _⟩
  · simp [Value.ownBlock] at e
  · have : b = g := by simpa [Value.ownBlock] using e
    subst this
    exact ht _ _ hgb
theorem dkeep_box {d : Nat} {w w' : World} (h : DKeep d w w') {b : Nat} {cs : Array Value} {T : TypeId} (hb : w.heap[b]? = some (.cells cs T (0, 0))) (hd : b ≠ d) (hT : T ≠ 81) : w'.heap[b]? = some (.cells cs T (0, 0)) := by
  rcases Nat.lt_or_ge b d with h1 | h1
  · exact (h.below.block b h1).trans hb
  · exact (h.others b (by omega) (bx_lt hb) (fun cs' z e => by rw [hb] at e; simp at e; exact hT e.2.1)).trans hb
theorem fC_set (l : List Fl) : ∀ (k : Nat) (f f' : Fl) (r : Nat) (u : Value), l[k]? = some f → r < 3 → fC f' = (fC f).set r u → (l.flatMap fC).set (k * 3 + r) u = (l.set k f').flatMap fC := by
  induction l with
  | nil => intro k f f' r u hk; simp at hk
  | cons y l ih =>
    intro k f f' r u hk hr hf
    cases k with
    | zero =>
      obtain rfl : y = f := by simpa using hk
      rw [List.set_cons_zero, List.flatMap_cons, List.flatMap_cons, hf, Nat.zero_mul, Nat.zero_add, List.set_append_left _ _ (by simp [fC]; omega)]
    | succ k =>
      rw [List.set_cons_succ, List.flatMap_cons, List.flatMap_cons, ← ih k f f' r u (by simpa using hk) hr hf]
      rw [List.set_append_right _ _ (by simp [fC]; omega)]
      congr 2
      simp [fC]; omega
/-- a store into one file -/
theorem Dk.set_file {d g c : Nat} {S : DS} {w : World} (h : Dk d (some ⟨g, 0, none⟩) c S w) {k : Nat} {f f' : Fl} {r : Nat} {u : Value} (hk : S.fs[k]? = some f) (hr : r < 3) (hf : fC f' = (fC f).set r u) :
    Dk d (some ⟨g, 0, none⟩) c { S with fs := S.fs.set k f' } (w.setCell ⟨g, k * 3 + r, none⟩ u) ∧ DKeep d w (w.setCell ⟨g, k * 3 + r, none⟩ u) := by
  obtain ⟨h1, h2⟩ := h.row.stored (k * 3 + r) u
  have hgd := (h.row.lt g rfl).1
  refine ⟨⟨?_, ?_⟩, dkeep_grown h.row h2 (Nat.le_of_lt h.lt)⟩
  · have := (h2.block d h.lt (by simp; omega)).trans h.box
    simpa using this
  · rw [fC_set _ k f f' r u hk hr hf] at h1
    simpa using h1
theorem row_some {w : World} {d n c : Nat} {A : Option Addr} {xs : List Value} (h : w.ownsRow (d + 1) 81 3 (.slice A n c) n xs) (hn : 0 < n) : ∃ g, A = some ⟨g, 0, none⟩ ∧ d < g ∧ g < w.heap.size := by
  rcases h.2 with ⟨e1, e2⟩ | ⟨g, cap, cur, e1, hb, hg, _⟩
  · omega
  · exact ⟨g, (by simpa using e1 : A = some ⟨g, 0, none⟩ ∧ c = cap).1, by omega, bx_lt hg⟩

set_option maxRecDepth 100000 in
theorem disk_operate (d : Nat) (A : Option Addr) (c : Nat) (S : DS) (hon : S.on = true) (hf : -1 ≤ S.fuse ∧ S.fuse ≤ 9223372036854775807) (ho : 0 ≤ S.ops ∧ S.ops ≤ 1000000000) (g : Nat) (caps : Array Value) (hent : ∀ args w, (callFunc g args).run Tryz.prog w = .ok (.enter g args) w) (Q : World → Prop) (w : World) (h : Dk d A c S w)
    (hcl : ∀ W, Dk d A c (blow S).1 W → DKeep d w W → (blow S).2 = false → Calls Tryz.prog g caps W fun e w' => e = .returned (.tuple #[]) ∧ Q w') :
    Calls Tryz.prog 61 #[.pointer (some ⟨d, 0, none⟩), .func (.func g) #[] caps] w fun e w' => ((blow S).2 = true ∧ e = .returned (.int .i64 9) ∧ Dk d A c (blow S).1 w' ∧ DKeep d w w') ∨ ((blow S).2 = false ∧ e = .returned (.int .i64 0) ∧ Q w') := by
  have HB := Lib.hid (disk_blows d A c S hon hf ho w h)
  have HCL := Lib.hid hcl
  clear hcl h
  cases hb : (blow S).2 with
  | true =>
    rw [hb] at HB
    go_enter Tryz.func61, Tryz.ntmps61
    go_wp2_with (go_at_call 83; refine (HB.out).mono ?_; rintro e w1 ⟨rfl, q1, q2⟩)
    go_ret
    exact .inl ⟨trivial, rfl, q1, q2⟩
  | false =>
    rw [hb] at HB
    go_enter Tryz.func61, Tryz.ntmps61
    go_wp2_with (go_at_call 83; refine (HB.out).mono ?_; rintro e w1 ⟨rfl, q1, q2⟩)
    refine (HCL.out w1 q1 q2 hb).mono ?_
    rintro e w2 ⟨rfl, q3⟩
    go_wp2
    go_ret
    exact .inr ⟨trivial, rfl, q3⟩
/-- what is appended: the files -/
def putF (fs : List Fl) (nm s : ByteArray) : List Fl := match fs[pos fs nm]? with
  | some f => if has fs nm then fs.set (pos fs nm) { f with all := f.all ++ s } else fs.take (pos fs nm) ++ ⟨nm, ⟨#[]⟩ ++ s, 0⟩ :: fs.drop (pos fs nm)
  | none => fs.take (pos fs nm) ++ ⟨nm, ⟨#[]⟩ ++ s, 0⟩ :: fs.drop (pos fs nm)
def begun (S : DS) : DS × Int := ((blow S).1, if (blow S).2 then 9 else 0)
def appendD (S : DS) (nm s : ByteArray) : DS × Int :=
  if S.on = false then (S, 9) else if namedD nm = false then (S, 1)
  else if S.room - (used S.fs : Int) < (s.size : Int) ∨ (has S.fs nm = false ∧ 64 ≤ S.fs.length) then (S, 5)
  else begun { S with fs := putF S.fs nm s }
/-- what holds of a disk that is used as it is meant -/
structure OkD (S : DS) : Prop where
  sorted : Sorted S.fs
  many : S.fs.length ≤ 64
  sure : ∀ f ∈ S.fs, f.su ≤ f.all.size
  full : (used S.fs : Int) ≤ S.room
  room : 0 ≤ S.room ∧ S.room ≤ 9223372036854775807
  size : used S.fs ≤ 100000000
  fuse : -1 ≤ S.fuse ∧ S.fuse ≤ 9223372036854775807
  ops : 0 ≤ S.ops ∧ S.ops ≤ 1000000000
end Go.Proofs.YtcpmicinibfepaaGreatDoor

namespace Go.Proofs.YtcpmicinibfepaaGreatDoor
open Go.ChangeShapes Go.WideShapes Go.ChangeAt Go.RowKit Go.Deep DiskP


theorem disk_Append1 (W : World) : Calls Tryz.prog 62 #[] W fun e w' => e = .returned (.tuple #[]) ∧ W = w' := by
  go_enter Tryz.func62, Tryz.ntmps62
  go_wp2
  go_end0
  exact ⟨rfl, rfl⟩
/-- operate with nothing to do -/
theorem disk_op_none (d : Nat) (A : Option Addr) (c : Nat) (S : DS) (hon : S.on = true) (hf : -1 ≤ S.fuse ∧ S.fuse ≤ 9223372036854775807) (ho : 0 ≤ S.ops ∧ S.ops ≤ 1000000000) (w : World) (h : Dk d A c S w) :
    Calls Tryz.prog 61 #[.pointer (some ⟨d, 0, none⟩), .func (.func 62) #[] #[]] w (DPost d (begun S).1 (.int .i64 (begun S).2) w) := by
  refine (disk_operate d A c S hon hf ho 62 #[] (enters_of Tryz.func62 (by kernel_rfl) rfl) (fun W => Dk d A c (blow S).1 W ∧ DKeep d w W) w h (fun W h1 h2 _ => (disk_Append1 W).mono (by rintro e w' ⟨rfl, rfl⟩; exact ⟨rfl, h1, h2⟩))).mono ?_
  rintro e w' (⟨h1, rfl, h2, h3⟩ | ⟨h1, rfl, h2, h3⟩)
  · exact ⟨by unfold begun; rw [h1]; rfl, A, c, h2, h3⟩
  · exact ⟨by unfold begun; rw [h1]; rfl, A, c, h2, h3⟩

set_option maxRecDepth 100000 in
set_option maxHeartbeats 4000000 in
theorem disk_Append_bad (d : Nat) (A : Option Addr) (c : Nat) (S : DS) (hS : OkD S) (nm s : ByteArray) (hnm : nm.size ≤ 1000) (hs : s.size ≤ 1000000) (hbad : S.on = false ∨ namedD nm = false ∨ S.room - (used S.fs : Int) < (s.size : Int) ∨ (has S.fs nm = false ∧ 64 ≤ S.fs.length)) (w : World) (h : Dk d A c S w) :
    Calls Tryz.prog 39 #[.pointer (some ⟨d, 0, none⟩), .string nm, .string s] w fun e w' => e = .returned (.int .i64 (appendD S nm s).2) ∧ (appendD S nm s).1 = S ∧ Below w.heap.size w w' := by
  have hl : S.fs.length ≤ 1000 := by have := hS.many; omega
  have HF := Lib.hid (disk_find d A c S nm hS.sorted hl w h)
  have HN := Lib.hid (fun W => disk_named nm (by unfold maxLen; omega) W)
  have HD := Lib.hid h
  clear h
  unfold appendD
  cases hon : S.on with
  | false =>
    rw [if_pos rfl]
    go_enter Tryz.func39, Tryz.ntmps39
    go_wp2_with (first
      | (go_at_call 41; (with_reducible refine (HF.out).mono ?_); rintro e w1 ⟨rfl, b1⟩; have hd1 := HD.out.kept b1)
      | (go_at_call 30; refine (disk_On d A c S _ hd1).mono ?_; rintro e w2 ⟨rfl, rfl⟩; rw [hon]))
    go_ret
    exact ⟨rfl, trivial, b1⟩
  | true =>
    rw [if_neg (by simp)]
    cases hn : namedD nm with
    | false =>
      rw [if_pos rfl]
      rw [hn] at HN
      go_enter Tryz.func39, Tryz.ntmps39
      go_wp2_with (first
        | (go_at_call 41; (with_reducible refine (HF.out).mono ?_); rintro e w1 ⟨rfl, b1⟩; have hd1 := HD.out.kept b1)
        | (go_at_call 30; refine (disk_On d A c S _ hd1).mono ?_; rintro e w2 ⟨rfl, rfl⟩; rw [hon])
        | (go_at_call 58; (with_reducible refine (HN.out _).mono ?_); rintro e w3 ⟨rfl, b3⟩))
      go_ret
      exact ⟨rfl, trivial, by (repeat (first | assumption | exact Below.refl _ _ | refine below_step (by assumption) ?_ | refine below_alloc' _ ?_ | refine below_drewN ?_ _ | refine Below.drew ?_))⟩
    | true =>
      rw [if_neg (by simp)]
      rw [hn] at HN
      have hb2 : S.room - (used S.fs : Int) < (s.size : Int) ∨ (has S.fs nm = false ∧ 64 ≤ S.fs.length) := by simpa [hon, hn] using hbad
      rw [if_pos hb2]
      have hfull := hS.full
      have hroom := hS.room
      have HUS := Lib.hid (fun (W : World) (hd : Dk d A c S W) => disk_Used d A c S hl (by have := hS.size; omega) W hd)
      have HX := Lib.hid (fun (W : World) (hd : Dk d A c S W) (u : Later W.heap.size W) => And.intro ((u.h.cell (p := ⟨d, 0, none⟩) hd.lt).trans (bx_cells hd.box 0)) ((u.h.cell (p := ⟨d, 1, none⟩) hd.lt).trans (bx_cells hd.box 1)))
      have HKD := Lib.hid (fun (W : World) (hd : Dk d A c S W) (u : Later W.heap.size W) => HUS.out u.w (hd.kept u.h))
      clear hbad hS
      generalize used S.fs = U at HKD hb2 hfull
      generalize S.room = R at HX hb2 hfull hroom
      by_cases hc : R - (U : Int) < (s.size : Int)
      · have hdec : decide (R - (U : Int) < (s.size : Int)) = true := decide_eq_true hc
        clear hb2
        go_enter Tryz.func39, Tryz.ntmps39
        go_wp2_with (first
          | (go_at_call 41; (with_reducible refine (HF.out).mono ?_); rintro e w1 ⟨rfl, b1⟩; have hd1 := HD.out.kept b1)
          | (go_at_call 30; refine (disk_On d A c S _ hd1).mono ?_; rintro e w2 ⟨rfl, rfl⟩; rw [hon])
          | (go_at_call 58; (with_reducible refine (HN.out _).mono ?_); rintro e w3 ⟨rfl, b3⟩; have hd3 := hd1.kept b3))
        have F0 := fun u => (HX.out _ hd3 u).1
        have F1 := fun u => (HX.out _ hd3 u).2
        have HK3 := Lib.hid (HKD.out _ hd3)
        refine wp_region_later w3.heap.size (by kernel_rfl) (by kernel_rfl) ?_
        repeat (go_big_quiet_step ((go_at_call 59; exact later_of _ (Nat.le_refl _) (HK3.out _))))
        refine wpQuiet_nil ?_; intro _ hw'; obtain ⟨u, hw''⟩ := hw'; subst hw''
        go_wp2_with fail
        go_ret
        exact ⟨rfl, trivial, by have b9 := u.h; (repeat (first | assumption | exact Below.refl _ _ | refine below_step (by assumption) ?_ | refine below_alloc' _ ?_ | refine below_drewN ?_ _ | refine Below.drew ?_))⟩
      · obtain ⟨hh, h64⟩ : has S.fs nm = false ∧ 64 ≤ S.fs.length := by rcases hb2 with h | h; exact absurd h hc; exact h
        have hdec : decide (R - (U : Int) < (s.size : Int)) = false := decide_eq_false hc
        rw [hh] at HF
        have h64' : decide ((64 : Int) ≤ (S.fs.length : Int)) = true := decide_eq_true (by omega)
        clear hb2 hc
        go_enter Tryz.func39, Tryz.ntmps39
        go_wp2_with (first
          | (go_at_call 41; (with_reducible refine (HF.out).mono ?_); rintro e w1 ⟨rfl, b1⟩; have hd1 := HD.out.kept b1)
          | (go_at_call 30; refine (disk_On d A c S _ hd1).mono ?_; rintro e w2 ⟨rfl, rfl⟩; rw [hon])
          | (go_at_call 58; (with_reducible refine (HN.out _).mono ?_); rintro e w3 ⟨rfl, b3⟩; have hd3 := hd1.kept b3))
        have F0 := fun u => (HX.out _ hd3 u).1
        have F1 := fun u => (HX.out _ hd3 u).2
        have HK3 := Lib.hid (HKD.out _ hd3)
        refine wp_region_later w3.heap.size (by kernel_rfl) (by kernel_rfl) ?_
        repeat (go_big_quiet_step ((go_at_call 59; exact later_of _ (Nat.le_refl _) (HK3.out _))))
        refine wpQuiet_nil ?_; intro _ hw'; obtain ⟨u, hw''⟩ := hw'; subst hw''
        go_wp2_with fail
        go_ret
        exact ⟨rfl, trivial, by have b9 := u.h; (repeat (first | assumption | exact Below.refl _ _ | refine below_step (by assumption) ?_ | refine below_alloc' _ ?_ | refine below_drewN ?_ _ | refine Below.drew ?_))⟩
end Go.Proofs.YtcpmicinibfepaaGreatDoor

namespace Go.Proofs.YtcpmicinibfepaaGreatDoor
open Go.ChangeShapes Go.WideShapes Go.ChangeAt Go.RowKit Go.Deep DiskP


theorem used_mem {fs : List Fl} {f : Fl} {k : Nat} (h : fs[k]? = some f) : f.all.size ≤ used fs := by
  have h1 := used_take h
  have h2 := used_le fs (k + 1)
  omega
set_option maxRecDepth 100000 in
set_option maxHeartbeats 4000000 in
theorem disk_Append_has (d : Nat) (A : Option Addr) (c : Nat) (S : DS) (hS : OkD S) (nm s : ByteArray) (hnm : nm.size ≤ 1000) (hs : s.size ≤ 1000000) (hon : S.on = true) (hn : namedD nm = true) (hfit : ¬ S.room - (used S.fs : Int) < (s.size : Int)) (hh : has S.fs nm = true) (w : World) (h : Dk d A c S w) :
    Calls Tryz.prog 39 #[.pointer (some ⟨d, 0, none⟩), .string nm, .string s] w (DPost d (begun { S with fs := putF S.fs nm s }).1 (.int .i64 (begun { S with fs := putF S.fs nm s }).2) w) := by
  have hl : S.fs.length ≤ 1000 := by have := hS.many; omega
  have HF := Lib.hid (disk_find d A c S nm hS.sorted hl w h)
  have HN := Lib.hid (fun W => disk_named nm (by unfold maxLen; omega) W)
  have HD := Lib.hid h
  obtain ⟨f, hf, -⟩ := has_some hh
  have hp := (List.getElem?_eq_some_iff.1 hf).1
  obtain ⟨g, rfl, hdg, hgl⟩ := row_some h.row (by omega)
  have hput : putF S.fs nm s = S.fs.set (pos S.fs nm) { f with all := f.all ++ s } := by unfold putF; rw [hf]; simp [hh]
  rw [hput]
  have hfsz := used_mem hf
  have hU := hS.size
  have hroom := hS.room
  have hfull := hS.full
  have HFO := Lib.hid (And.intro hS.fuse hS.ops)
  have HUS := Lib.hid (fun (W : World) (hd : Dk d (some ⟨g, 0, none⟩) c S W) => disk_Used d _ c S hl (by omega) W hd)
  have HX := Lib.hid (fun (W : World) (hd : Dk d (some ⟨g, 0, none⟩) c S W) (u : Later W.heap.size W) => And.intro ((u.h.cell (p := ⟨d, 0, none⟩) hd.lt).trans (bx_cells hd.box 0)) ((u.h.cell (p := ⟨d, 1, none⟩) hd.lt).trans (bx_cells hd.box 1)))
  have HKD := Lib.hid (fun (W : World) (hd : Dk d (some ⟨g, 0, none⟩) c S W) (u : Later W.heap.size W) => HUS.out u.w (hd.kept u.h))
  rw [hn] at HN
  rw [hh] at HF
  generalize pos S.fs nm = p at HF hf hp ⊢
  have HP := Lib.hid (fun (W : World) (hd : Dk d (some ⟨g, 0, none⟩) c S W) => hd.row.cells (g := g) rfl (p * 3 + 1) (.string f.all) (by rw [fC_at _ p f hf 1 (by omega)]; rfl))
  have HST := Lib.hid (fun (W : World) (hd : Dk d (some ⟨g, 0, none⟩) c S W) => hd.set_file (k := p) (f' := { f with all := f.all ++ s }) (r := 1) (u := .string (f.all ++ s)) hf (by omega) rfl)
  clear h hS hput hf hh hn
  have HOP := Lib.hid (fun (W : World) (hd : Dk d (some ⟨g, 0, none⟩) c { S with fs := S.fs.set p { f with all := f.all ++ s } } W) => disk_op_none d _ c { S with fs := S.fs.set p { f with all := f.all ++ s } } hon HFO.out.1 HFO.out.2 W hd)
  have hdec : decide (S.room - (used S.fs : Int) < (s.size : Int)) = false := decide_eq_false hfit
  generalize used S.fs = U at HKD hfit hdec hfsz hU hfull
  have hi1 : (p : Int) < (S.fs.length : Int) := by omega
  clear hfit
  go_enter Tryz.func39, Tryz.ntmps39
  go_wp2_with (first
    | (go_at_call 41; (with_reducible refine (HF.out).mono ?_); rintro e w1 ⟨rfl, b1⟩; have hd1 := HD.out.kept b1)
    | (go_at_call 30; refine (disk_On d _ c S _ hd1).mono ?_; rintro e w2 ⟨rfl, rfl⟩; rw [hon])
    | (go_at_call 58; (with_reducible refine (HN.out _).mono ?_); rintro e w3 ⟨rfl, b3⟩; have hd3 := hd1.kept b3))
  have F0 := fun u => (HX.out _ hd3 u).1
  have F1 := fun u => (HX.out _ hd3 u).2
  have HK3 := Lib.hid (HKD.out _ hd3)
  refine wp_region_later w3.heap.size (by kernel_rfl) (by kernel_rfl) ?_
  repeat (go_big_quiet_step ((go_at_call 59; exact later_of _ (Nat.le_refl _) (HK3.out _))))
  refine wpQuiet_nil ?_; intro _ hw'; obtain ⟨u, hw''⟩ := hw'; subst hw''
  have hdu := hd3.kept u.h
  have y0 := bx_cells hdu.box 0
  have y1 := HP.out _ hdu
  rw [fl_add_0] at y1
  have y2 := hdu.row.frozenAt (p * 3 + 1)
  obtain ⟨hd5, hk5⟩ := HST.out _ hdu
  have HOP5 := Lib.hid (HOP.out _ hd5)
  clear F0 F1 HOP HST HP HX HKD HF
  have hBu : Below w.heap.size w u.w := by have b9 := u.h; (repeat (first | assumption | exact Below.refl _ _ | refine below_step (by assumption) ?_ | refine below_alloc' _ ?_ | refine below_drewN ?_ _ | refine Below.drew ?_))
  go_wp2_with (go_at_call 61; refine (HOP5.out).mono ?_; rintro e w6 ⟨rfl, A6, c6, hd6, hk6⟩)
  go_ret
  exact ⟨(by rw [hon]; rfl), A6, c6, hd6, (DKeep.of_below hBu (Nat.le_of_lt HD.out.lt)).trans (hk5.trans hk6)⟩
theorem ins_facts {d c q : Nat} {A A4 : Option Addr} {c4 : Nat} {S : DS} {u w4 : World} {tmp : Obj} {ins : List Fl} (hd : Dk d A c S u) (hq : ins.length = q) (hq0 : 0 < q)
    (o4 : w4.ownsRow (d + 1) 81 3 (.slice A4 q c4) q (ins.flatMap fC)) (g4 : (u.alloc tmp).grownBy w4 (Value.ownBlock (.slice A S.fs.length c))) :
    w4.cell? ⟨d, 0, none⟩ = some (.slice A S.fs.length c) ∧ w4.frozen? ⟨d, 0, none⟩ = false ∧ (∃ g, A4 = some ⟨g, 0, none⟩) ∧ Dk d A4 c4 { S with fs := ins } (w4.setCell ⟨d, 0, none⟩ (.slice A4 q c4)) ∧ DKeep d u (w4.setCell ⟨d, 0, none⟩ (.slice A4 q c4)) := by
  subst hq
  have hne : some d ≠ Value.ownBlock (.slice A S.fs.length c) := fun e => by have := (hd.row.lt d e.symm).1; omega
  have hb : w4.heap[d]? = some (.cells #[.slice A S.fs.length c, .int .i64 S.room, .bool S.made, .bool S.on, .int .i64 S.fuse, .int .i64 S.ops] 71 (0, 0)) :=
    (g4.block d (by rw [World.size_alloc]; have := hd.lt; omega) hne).trans ((Below.heap_alloc u tmp d hd.lt).trans hd.box)
  obtain ⟨g, hg, _, _⟩ := row_some o4 hq0
  refine ⟨bx_cells hb 0, bx_free hb 0, ⟨g, hg⟩, ⟨by simpa using bx_set hb 0 (.slice A4 ins.length c4), dk_row_other o4 _⟩, ?_⟩
  have k1 : DKeep d (u.alloc tmp) w4 := dkeep_grown (hd.row.alloc tmp) g4 (by rw [World.size_alloc]; have := hd.lt; omega)
  exact ((DKeep.of_below (below_alloc' tmp (Below.refl _ u)) (Nat.le_of_lt hd.lt)).trans k1).trans (dkeep_set _)
theorem ins_at (fs : List Fl) (f : Fl) (p : Nat) (hp : p ≤ fs.length) : (fs.take p ++ f :: fs.drop p)[p]? = some f := by
  rw [List.getElem?_append_right (by rw [List.length_take]; omega), List.length_take, show p - min p fs.length = 0 by omega]
  rfl
theorem ins_set (fs : List Fl) (f f' : Fl) (p : Nat) (hp : p ≤ fs.length) : (fs.take p ++ f :: fs.drop p).set p f' = fs.take p ++ f' :: fs.drop p := by
  rw [List.set_append_right _ _ (by rw [List.length_take]; omega), List.length_take, show p - min p fs.length = 0 by omega]
  rfl
theorem ins_len (fs : List Fl) (f : Fl) (p : Nat) (hp : p ≤ fs.length) : (fs.take p ++ f :: fs.drop p).length = fs.length + 1 := by
  rw [List.length_append, List.length_cons, List.length_take, List.length_drop]; omega
set_option maxRecDepth 100000 in
set_option maxHeartbeats 4000000 in
theorem disk_Append_new (d : Nat) (A : Option Addr) (c : Nat) (S : DS) (hS : OkD S) (nm s : ByteArray) (hnm : nm.size ≤ 1000) (hs : s.size ≤ 1000000) (hon : S.on = true) (hn : namedD nm = true) (hfit : ¬ S.room - (used S.fs : Int) < (s.size : Int)) (hh : has S.fs nm = false) (h64 : S.fs.length < 64) (w : World) (h : Dk d A c S w) :
    Calls Tryz.prog 39 #[.pointer (some ⟨d, 0, none⟩), .string nm, .string s] w (DPost d (begun { S with fs := putF S.fs nm s }).1 (.int .i64 (begun { S with fs := putF S.fs nm s }).2) w) := by
  have hl : S.fs.length ≤ 1000 := by omega
  have HF := Lib.hid (disk_find d A c S nm hS.sorted hl w h)
  have HN := Lib.hid (fun W => disk_named nm (by unfold maxLen; omega) W)
  have HD := Lib.hid h
  have hp := pos_le S.fs nm
  have hput : putF S.fs nm s = S.fs.take (pos S.fs nm) ++ ⟨nm, ⟨#[]⟩ ++ s, 0⟩ :: S.fs.drop (pos S.fs nm) := by unfold putF; split <;> simp [hh]
  rw [hput]
  have hU := hS.size
  have hroom := hS.room
  have hfull := hS.full
  have HFO := Lib.hid (And.intro hS.fuse hS.ops)
  have HUS := Lib.hid (fun (W : World) (hd : Dk d A c S W) => disk_Used d _ c S hl (by omega) W hd)
  have HX := Lib.hid (fun (W : World) (hd : Dk d A c S W) (u : Later W.heap.size W) => And.intro ((u.h.cell (p := ⟨d, 0, none⟩) hd.lt).trans (bx_cells hd.box 0)) ((u.h.cell (p := ⟨d, 1, none⟩) hd.lt).trans (bx_cells hd.box 1)))
  have HKD := Lib.hid (fun (W : World) (hd : Dk d A c S W) (u : Later W.heap.size W) => HUS.out u.w (hd.kept u.h))
  rw [hn] at HN
  rw [hh] at HF
  generalize pos S.fs nm = p at HF hp ⊢
  have HINS := Lib.hid (fun (W : World) (hd : Dk d A c S W) (b : Nat) (hb : b = W.heap.size) => (by
    subst hb
    exact disk_insert (d + 1) A c W.heap.size p S.fs ⟨nm, ⟨#[]⟩, 0⟩ (by omega) hp (W.alloc (.cells #[.string nm, .string ⟨#[]⟩, .int .i64 0] 81)) (hd.row.alloc _) (by rw [World.size_alloc]; have := hd.lt; omega) (heap_alloc_new W _) (fun e => by have := (hd.row.lt _ e).2; omega) :
      Calls Tryz.prog 60 #[.slice A S.fs.length c, .int .i64 p, .slice (some ⟨b, 0, none⟩) 1 1] (W.alloc (.cells #[.string nm, .string ⟨#[]⟩, .int .i64 0] 81)) fun e w' => ∃ A' c', e = .returned (.slice A' (S.fs.length + 1) c') ∧ w'.ownsRow (d + 1) 81 3 (.slice A' (S.fs.length + 1) c') (S.fs.length + 1) ((S.fs.take p ++ ⟨nm, ⟨#[]⟩, 0⟩ :: S.fs.drop p).flatMap fC) ∧ (W.alloc (.cells #[.string nm, .string ⟨#[]⟩, .int .i64 0] 81)).grownBy w' (Value.ownBlock (.slice A S.fs.length c))))
  obtain ⟨I, hI⟩ : ∃ I, S.fs.take p ++ ⟨nm, ⟨#[]⟩, 0⟩ :: S.fs.drop p = I := ⟨_, rfl⟩
  have hIl : I.length = S.fs.length + 1 := by rw [← hI]; exact ins_len _ _ _ hp
  have hIa : I[p]? = some ⟨nm, ⟨#[]⟩, 0⟩ := by rw [← hI]; exact ins_at _ _ _ hp
  have hIs : I.set p ⟨nm, ⟨#[]⟩ ++ s, 0⟩ = S.fs.take p ++ ⟨nm, ⟨#[]⟩ ++ s, 0⟩ :: S.fs.drop p := by rw [← hI]; exact ins_set _ _ _ _ hp
  rw [← hIs]
  rw [hI] at HINS
  have HIL := Lib.hid hIl
  have HFACT := Lib.hid (fun (W : World) (hd : Dk d A c S W) (tmp : Obj) (w4 : World) (A4 : Option Addr) (c4 : Nat) o4 (g4 : (W.alloc tmp).grownBy w4 (Value.ownBlock (.slice A S.fs.length c))) => ins_facts (c4 := c4) (A4 := A4) hd hIl (by omega) o4 g4)
  have HP := Lib.hid (fun (W : World) (g c4 : Nat) (hd : Dk d (some ⟨g, 0, none⟩) c4 { S with fs := I } W) => hd.row.cells (g := g) rfl (p * 3 + 1) (.string ⟨#[]⟩) (by rw [fC_at _ p _ hIa 1 (by omega)]; rfl))
  have HST := Lib.hid (fun (W : World) (g c4 : Nat) (hd : Dk d (some ⟨g, 0, none⟩) c4 { S with fs := I } W) => hd.set_file (k := p) (f' := ⟨nm, ⟨#[]⟩ ++ s, 0⟩) (r := 1) (u := .string (⟨#[]⟩ ++ s)) hIa (by omega) rfl)
  have HOP := Lib.hid (fun (W : World) (g c4 : Nat) (hd : Dk d (some ⟨g, 0, none⟩) c4 { S with fs := I.set p ⟨nm, ⟨#[]⟩ ++ s, 0⟩ } W) => disk_op_none d _ c4 { S with fs := I.set p ⟨nm, ⟨#[]⟩ ++ s, 0⟩ } hon HFO.out.1 HFO.out.2 W hd)
  have hip : p < I.length := by omega
  have hip2 : (p : Int) < (I.length : Int) := by omega
  clear h hS hput hh hn hIs hIa hI hIl
  have hdec : decide (S.room - (used S.fs : Int) < (s.size : Int)) = false := decide_eq_false hfit
  have hdec2 : decide ((64 : Int) ≤ (S.fs.length : Int)) = false := by rw [decide_eq_false_iff_not]; omega
  generalize used S.fs = U at HKD hfit hdec hU hfull
  have hi1 : (p : Int) < (S.fs.length : Int) + 1 := by omega
  clear hfit
  go_enter Tryz.func39, Tryz.ntmps39
  go_wp2_with (first
    | (go_at_call 41; (with_reducible refine (HF.out).mono ?_); rintro e w1 ⟨rfl, b1⟩; have hd1 := HD.out.kept b1)
    | (go_at_call 30; refine (disk_On d _ c S _ hd1).mono ?_; rintro e w2 ⟨rfl, rfl⟩; rw [hon])
    | (go_at_call 58; (with_reducible refine (HN.out _).mono ?_); rintro e w3 ⟨rfl, b3⟩; have hd3 := hd1.kept b3))
  have F0 := fun u => (HX.out _ hd3 u).1
  have F1 := fun u => (HX.out _ hd3 u).2
  have HK3 := Lib.hid (HKD.out _ hd3)
  refine wp_region_later w3.heap.size (by kernel_rfl) (by kernel_rfl) ?_
  repeat (go_big_quiet_step ((go_at_call 59; exact later_of _ (Nat.le_refl _) (HK3.out _))))
  refine wpQuiet_nil ?_; intro _ hw'; obtain ⟨u, hw''⟩ := hw'; subst hw''
  have hdu := hd3.kept u.h
  have hBu : Below w.heap.size w u.w := by have b9 := u.h; (repeat (first | assumption | exact Below.refl _ _ | refine below_step (by assumption) ?_ | refine below_alloc' _ ?_ | refine below_drewN ?_ _ | refine Below.drew ?_))
  generalize u.w = W at hdu hBu ⊢
  have y0 := bx_cells hdu.box 0
  have HI2 := Lib.hid (HINS.out _ hdu _ rfl)
  have HFA := Lib.hid (HFACT.out _ hdu)
  clear F0 F1 HX HKD HF HINS HFACT HK3
  go_wp2_with (first
    | (go_at_call 60; refine (HI2.out).mono ?_; rintro e w4 ⟨A4, c4, rfl, o4, g4⟩; obtain ⟨z0, z1, ⟨g, rfl⟩, hd5, hk5⟩ := HFA.out _ _ _ _ o4 g4; have z2 := bx_cells hd5.box 0; have y1 := HP.out _ _ _ hd5; rw [fl_add_0] at y1; have y2 := hd5.row.frozenAt (p * 3 + 1); obtain ⟨hd6, hk6⟩ := HST.out _ _ _ hd5; have HOP6 := Lib.hid (HOP.out _ _ _ hd6))
    | (go_at_call 61; refine (HOP6.out).mono ?_; rintro e w7 ⟨rfl, A7, c7, hd7, hk7⟩))
  go_ret
  exact ⟨(by rw [hon]; rfl), A7, c7, hd7, (DKeep.of_below hBu (Nat.le_of_lt HD.out.lt)).trans (hk5.trans (hk6.trans hk7))⟩
end Go.Proofs.YtcpmicinibfepaaGreatDoor

namespace Go.Proofs.YtcpmicinibfepaaGreatDoor
open Go.ChangeShapes Go.WideShapes Go.ChangeAt Go.RowKit Go.Deep DiskP


theorem blow_fs (S : DS) : (blow S).1.fs = S.fs ∧ (blow S).1.room = S.room ∧ (blow S).1.made = S.made := by
  unfold blow
  split
  · exact ⟨rfl, rfl, rfl⟩
  · split <;> exact ⟨rfl, rfl, rfl⟩
/-- an operation that turns the files, unless it crashes ahead of it -/
def opD (S : DS) (t : List Fl → List Fl) : DS × Int := if (blow S).2 then ((blow S).1, 9) else ({ (blow S).1 with fs := t S.fs }, 0)
def modF (fs : List Fl) (nm : ByteArray) (t : Fl → Fl) : List Fl := match fs[pos fs nm]? with
  | some f => fs.set (pos fs nm) (t f)
  | none => fs
def syncD (S : DS) (nm : ByteArray) : DS × Int :=
  if S.on = false then (S, 9) else if has S.fs nm = false then (S, 7) else opD S fun fs => modF fs nm fun f => { f with su := f.all.size }
theorem disk_op_with (d : Nat) (A : Option Addr) (c : Nat) (S : DS) (hon : S.on = true) (hf : -1 ≤ S.fuse ∧ S.fuse ≤ 9223372036854775807) (ho : 0 ≤ S.ops ∧ S.ops ≤ 1000000000) (g : Nat) (caps : Array Value) (hent : ∀ args w, (callFunc g args).run Tryz.prog w = .ok (.enter g args) w) (t : List Fl → List Fl) (w : World) (h : Dk d A c S w)
    (hcl : ∀ W, Dk d A c (blow S).1 W → DKeep d w W → Calls Tryz.prog g caps W (DPost d { (blow S).1 with fs := t S.fs } (.tuple #[]) W)) :
    Calls Tryz.prog 61 #[.pointer (some ⟨d, 0, none⟩), .func (.func g) #[] caps] w (DPost d (opD S t).1 (.int .i64 (opD S t).2) w) := by
  refine (disk_operate d A c S hon hf ho g caps hent (fun W => ∃ A c, Dk d A c { (blow S).1 with fs := t S.fs } W ∧ DKeep d w W) w h (fun W h1 h2 _ => (hcl W h1 h2).mono ?_)).mono ?_
  · rintro e w' ⟨rfl, A', c', q1, q2⟩
    exact ⟨rfl, A', c', q1, h2.trans q2⟩
  · rintro e w' (⟨h1, rfl, h2, h3⟩ | ⟨h1, rfl, A', c', h2, h3⟩)
    · exact ⟨by unfold opD; rw [if_pos h1], A, c, by unfold opD; rw [if_pos h1]; exact h2, h3⟩
    · exact ⟨by unfold opD; rw [if_neg (by simp [h1])], A', c', by unfold opD; rw [if_neg (by simp [h1])]; exact h2, h3⟩

set_option maxRecDepth 100000 in
theorem disk_Sync1 (d b0 b5 k : Nat) (A : Option Addr) (c : Nat) (S : DS) (f : Fl) (hk : S.fs[k]? = some f) (hl : S.fs.length ≤ 1000) (W : World) (h : Dk d A c S W) (h0 : W.heap[b0]? = some (.cells #[.pointer (some ⟨d, 0, none⟩)] 25 (0, 0))) (h5 : W.heap[b5]? = some (.cells #[.int .i64 k] 3 (0, 0))) :
    Calls Tryz.prog 78 #[.pointer (some ⟨b0, 0, none⟩), .pointer (some ⟨b5, 0, none⟩)] W (DPost d { S with fs := S.fs.set k { f with su := f.all.size } } (.tuple #[]) W) := by
  have hp := (List.getElem?_eq_some_iff.1 hk).1
  obtain ⟨g, rfl, hdg, hgl⟩ := row_some h.row (by omega)
  have x0 := bx_cells h0 0
  have x5 := bx_cells h5 0
  have y0 := bx_cells h.box 0
  have y1 := h.row.cells (g := g) rfl (k * 3 + 1) (.string f.all) (by rw [fC_at _ k f hk 1 (by omega)]; rfl)
  have y2 := h.row.cells (g := g) rfl (k * 3 + 2) (.int .i64 (f.su : Int)) (by rw [fC_at _ k f hk 2 (by omega)]; rfl)
  rw [fl_add_0] at y1 y2
  have y3 := h.row.frozenAt (k * 3 + 2)
  have hd' : Dk d (some ⟨g, 0, none⟩) c S W.drew := ⟨h.box, h.row.drew⟩
  obtain ⟨q1, q2⟩ := hd'.set_file (k := k) (f' := { f with su := f.all.size }) (r := 2) (u := .int .i64 (f.all.size : Nat)) hk (by omega) rfl
  have q3 : DKeep d W W.drew := DKeep.of_below ((Below.refl _ W).drew) (Nat.le_of_lt h.lt)
  have hi1 : (k : Int) < (S.fs.length : Int) := by omega
  clear hk h hd' h0 h5
  go_enter Tryz.func78, Tryz.ntmps78
  go_wp2_with fail
  go_region
  go_wp2_with fail
  go_end0
  exact ⟨rfl, _, c, q1, q3.trans q2⟩
theorem alloc_kept (w : World) (o : Obj) : Below w.heap.size w (w.alloc o) := below_alloc' o (Below.refl _ w)
set_option maxRecDepth 100000 in
set_option maxHeartbeats 4000000 in
theorem disk_Sync (d : Nat) (A : Option Addr) (c : Nat) (S : DS) (hS : OkD S) (nm : ByteArray) (w : World) (h : Dk d A c S w) :
    Calls Tryz.prog 53 #[.pointer (some ⟨d, 0, none⟩), .string nm] w (DPost d (syncD S nm).1 (.int .i64 (syncD S nm).2) w) := by
  have hl : S.fs.length ≤ 1000 := by have := hS.many; omega
  have HF := Lib.hid (disk_find d A c S nm hS.sorted hl (w.alloc (.cells #[.pointer (some ⟨d, 0, none⟩)] 25)) (h.kept (alloc_kept w _)))
  have HD := Lib.hid h
  have hb0 := heap_alloc_new w (.cells #[.pointer (some ⟨d, 0, none⟩)] 25)
  have HB0 := Lib.hid (fun (W : World) (hb : Below (w.heap.size + 1) (w.alloc (.cells #[.pointer (some ⟨d, 0, none⟩)] 25)) W) => (hb.block w.heap.size (by omega)).trans hb0)
  have HD0 := Lib.hid (fun (W : World) (hb : Below (w.heap.size + 1) (w.alloc (.cells #[.pointer (some ⟨d, 0, none⟩)] 25)) W) => ((h.kept (alloc_kept w (.cells #[.pointer (some ⟨d, 0, none⟩)] 25))).kept (by rw [World.size_alloc]; exact hb) : Dk d A c S W))
  have hsz : (w.alloc (.cells #[.pointer (some ⟨d, 0, none⟩)] 25)).heap.size = w.heap.size + 1 := World.size_alloc w _
  have hdl := h.lt
  have HFO := Lib.hid (And.intro hS.fuse hS.ops)
  have hB : ∀ w1, Below (w.heap.size + 1) (w.alloc (.cells #[.pointer (some ⟨d, 0, none⟩)] 25)) w1 → ∀ u : Value, Below (w.heap.size + 1) (w.alloc (.cells #[.pointer (some ⟨d, 0, none⟩)] 25)) (w1.alloc (.cells #[u] 3)) := fun w1 b1 u =>
    b1.alloc (by have := b1.size; rw [hsz] at this; exact this) _
  have HBB := Lib.hid hB
  unfold syncD
  cases hon : S.on with
  | false =>
    rw [if_pos rfl]
    generalize hp : pos S.fs nm = p at HF
    go_enter Tryz.func53, Tryz.ntmps53
    go_wp2_with (first
      | (go_at_call 41; (with_reducible refine (HF.out).mono ?_); rintro e w1 ⟨rfl, b1⟩; rw [hsz] at b1; have e0 := bx_cells (HB0.out _ b1) 0; have bB := HBB.out _ b1 (.int .i64 p); have e1 := bx_cells (HB0.out _ bB) 0; have hd1 := HD0.out _ bB)
      | (go_at_call 30; refine (disk_On d A c S _ hd1).mono ?_; rintro e w2 ⟨rfl, rfl⟩; rw [hon]))
    go_ret
    exact ⟨rfl, A, c, hd1, DKeep.of_below ((alloc_kept w _).trans (bB.mono (by omega))) (Nat.le_of_lt hdl)⟩
  | true =>
    rw [if_neg (by simp)]
    cases hh : has S.fs nm with
    | false =>
      rw [if_pos rfl]
      rw [hh] at HF
      generalize hp : pos S.fs nm = p at HF
      go_enter Tryz.func53, Tryz.ntmps53
      go_wp2_with (first
        | (go_at_call 41; (with_reducible refine (HF.out).mono ?_); rintro e w1 ⟨rfl, b1⟩; rw [hsz] at b1; have e0 := bx_cells (HB0.out _ b1) 0; have bB := HBB.out _ b1 (.int .i64 p); have e1 := bx_cells (HB0.out _ bB) 0; have hd1 := HD0.out _ bB)
        | (go_at_call 30; refine (disk_On d A c S _ hd1).mono ?_; rintro e w2 ⟨rfl, rfl⟩; rw [hon]))
      go_ret
      exact ⟨rfl, A, c, hd1, DKeep.of_below ((alloc_kept w _).trans (bB.mono (by omega))) (Nat.le_of_lt hdl)⟩
    | true =>
      rw [if_neg (by simp)]
      rw [hh] at HF
      obtain ⟨f, hf, -⟩ := has_some hh
      have hmod : (modF S.fs nm fun f => { f with su := f.all.size }) = S.fs.set (pos S.fs nm) { f with su := f.all.size } := by unfold modF; rw [hf]
      generalize hp : pos S.fs nm = p at HF hf hmod
      have HOP := Lib.hid (fun (W : World) (b5 : Nat) (hd : Dk d A c S W) (h0 : W.heap[w.heap.size]? = some (.cells #[.pointer (some ⟨d, 0, none⟩)] 25 (0, 0))) (h5 : W.heap[b5]? = some (.cells #[.int .i64 p] 3 (0, 0))) (hb5 : b5 ≠ d) =>
        disk_op_with d A c S hon hS.fuse hS.ops 78 #[.pointer (some ⟨w.heap.size, 0, none⟩), .pointer (some ⟨b5, 0, none⟩)] (enters_of Tryz.func78 (by kernel_rfl) rfl) (fun fs => modF fs nm fun f => { f with su := f.all.size }) W hd
          (fun X h1 h2 => by
            rw [hmod]
            obtain ⟨q1, _, _⟩ := blow_fs S
            have := disk_Sync1 d w.heap.size b5 p A c (blow S).1 f (by rw [q1]; exact hf) (by rw [q1]; exact hl) X h1 (dkeep_box h2 h0 (by omega) (by decide)) (dkeep_box h2 h5 hb5 (by decide))
            rw [q1] at this
            exact this))
      clear hf hmod hS h hb0 hB
      generalize opD S (fun fs => modF fs nm fun f => { f with su := f.all.size }) = R at HOP ⊢
      go_enter Tryz.func53, Tryz.ntmps53
      go_wp2_with (first
        | (go_at_call 41; (with_reducible refine (HF.out).mono ?_); rintro e w1 ⟨rfl, b1⟩; rw [hsz] at b1; have e0 := bx_cells (HB0.out _ b1) 0; have bB := HBB.out _ b1 (.int .i64 p); have e1 := bx_cells (HB0.out _ bB) 0; have hd1 := HD0.out _ bB; have HOP1 := Lib.hid (HOP.out _ w1.heap.size hd1 (HB0.out _ bB) (heap_alloc_new w1 _) (by have := b1.size; rw [hsz] at this; omega)))
        | (go_at_call 30; refine (disk_On d A c S _ hd1).mono ?_; rintro e w2 ⟨rfl, rfl⟩; rw [hon])
        | (go_at_call 61; refine (HOP1.out).mono ?_; rintro e w6 ⟨rfl, A6, c6, hd6, hk6⟩))
      go_ret
      exact ⟨rfl, A6, c6, hd6, (DKeep.of_below ((alloc_kept w _).trans (bB.mono (by omega))) (Nat.le_of_lt hdl)).trans hk6⟩
end Go.Proofs.YtcpmicinibfepaaGreatDoor

namespace Go.Proofs.YtcpmicinibfepaaGreatDoor
open Go.ChangeShapes Go.WideShapes Go.ChangeAt Go.RowKit Go.Deep DiskP


def flV (f : Fl) : Value := .agg #[.string f.nm, .string f.all, .int .i64 (f.su : Int)]
def delF (fs : List Fl) (nm : ByteArray) : List Fl := if has fs nm then fs.take (pos fs nm) ++ fs.drop (pos fs nm + 1) else fs
def fileF (fs : List Fl) (nm : ByteArray) : Fl := match fs[pos fs nm]? with
  | some f => if has fs nm then f else ⟨⟨#[]⟩, ⟨#[]⟩, 0⟩
  | none => ⟨⟨#[]⟩, ⟨#[]⟩, 0⟩
/-- as DKeep, but of rows of files only the one named may be turned -/
structure RKeep (d : Nat) (r : Option Nat) (w w' : World) : Prop where
  below : Below d w w'
  others : ∀ b, d < b → b < w.heap.size → r ≠ some b → w'.heap[b]? = w.heap[b]?
theorem RKeep.trans {d : Nat} {r : Option Nat} {a b c : World} (h : RKeep d r a b) (k : RKeep d r b c) : RKeep d r a c :=
  ⟨h.below.trans k.below, fun x hx hs ht => (k.others x hx (Nat.lt_of_lt_of_le hs h.below.size) ht).trans (h.others x hx hs ht)⟩
theorem RKeep.of_below {d : Nat} {r : Option Nat} {w w' : World} (h : Below w.heap.size w w') (hd : d ≤ w.heap.size) : RKeep d r w w' := ⟨h.mono hd, fun b _ hs _ => h.block b hs⟩
theorem rkeep_grown {w w' : World} {d n sz : Nat} {v : Value} {xs : List Value} (ho : w.ownsRow (d + 1) 81 sz v n xs) (hg : w.grownBy w' v.ownBlock) (hd : d ≤ w.heap.size) : RKeep d v.ownBlock w w' :=
  ⟨(Below.refl d w).grown hg hd (fun k e => by have := (ho.lt k e).1; omega), fun b _ hs ht => hg.block b hs (fun e => ht e.symm)⟩
theorem rkeep_set {w : World} {d j : Nat} {r : Option Nat} (u : Value) : RKeep d r w (w.setCell ⟨d, j, none⟩ u) :=
  ⟨(Below.refl d w).setCell (p := ⟨d, j, none⟩) (Nat.le_refl _) u, fun b hb _ _ => heap_setCell_other w ⟨d, j, none⟩ b u (by show b ≠ d; omega)⟩
theorem RKeep.set_new {d : Nat} {r : Option Nat} {w W : World} (h : RKeep d r w W) {b : Nat} (hb : w.heap.size ≤ b) (hd : d ≤ b) (j : Nat) (u : Value) : RKeep d r w (W.setCell ⟨b, j, none⟩ u) :=
  ⟨h.below.setCell (p := ⟨b, j, none⟩) hd u, fun k hk hs ht => (heap_setCell_other W ⟨b, j, none⟩ k u (by show k ≠ b; omega)).trans (h.others k hk hs ht)⟩
theorem RKeep.keep {w w' : World} {d n sz : Nat} {v : Value} {xs : List Value} (h : RKeep d v.ownBlock w w') (ho : w.ownsRow (d + 1) 81 sz v n xs) : DKeep d w w' :=
  ⟨h.below, fun b hb hs ht => h.others b hb hs (fun e => by
    rcases ho.2 with ⟨rfl, _⟩ | ⟨g, cap, cur, rfl, _, hgb, _⟩
    · simp [Value.ownBlock] at e
    · obtain rfl : g = b := by simpa [Value.ownBlock] using e
      exact ht _ _ hgb)⟩
theorem own_same (A : Option Addr) (n m c k : Nat) : Value.ownBlock (.slice A n c) = Value.ownBlock (.slice A m k) := by cases A <;> rfl
theorem del_facts {d c q : Nat} {A : Option Addr} {S : DS} {u w4 : World} {rest : List Fl} (hd : Dk d A c S u) (hq : rest.length = q)
    (o4 : w4.ownsRow (d + 1) 81 3 (.slice A q c) q (rest.flatMap fC)) (g4 : u.grownBy w4 (Value.ownBlock (.slice A S.fs.length c))) :
    w4.cell? ⟨d, 0, none⟩ = some (.slice A S.fs.length c) ∧ w4.frozen? ⟨d, 0, none⟩ = false ∧ Dk d A c { S with fs := rest } (w4.setCell ⟨d, 0, none⟩ (.slice A q c)) ∧ RKeep d (Value.ownBlock (.slice A S.fs.length c)) u (w4.setCell ⟨d, 0, none⟩ (.slice A q c)) := by
  subst hq
  have hne : some d ≠ Value.ownBlock (.slice A S.fs.length c) := fun e => by have := (hd.row.lt d e.symm).1; omega
  have hb : w4.heap[d]? = some (.cells #[.slice A S.fs.length c, .int .i64 S.room, .bool S.made, .bool S.on, .int .i64 S.fuse, .int .i64 S.ops] 71 (0, 0)) := (g4.block d hd.lt hne).trans hd.box
  exact ⟨bx_cells hb 0, bx_free hb 0, ⟨by simpa using bx_set hb 0 (.slice A rest.length c), dk_row_other o4 _⟩, (rkeep_grown hd.row g4 (Nat.le_of_lt hd.lt)).trans (rkeep_set _)⟩
theorem grown_box {w w' : World} {v : Value} (hg : w.grownBy w' v.ownBlock) {b : Nat} {o : Obj} (hb : w.heap[b]? = some o) (hne : v.ownBlock ≠ some b) : w'.heap[b]? = some o :=
  (hg.block b (bx_lt hb) (fun e => hne e.symm)).trans hb
theorem own_ne {g n c b : Nat} (h : g ≠ b) : Value.ownBlock (.slice (some ⟨g, 0, none⟩) n c) ≠ some b := by simpa [Value.ownBlock] using h
theorem kept_new {w : World} {b : Nat} {o : Obj} (h : w.heap[b]? = some o) (o' : Obj) : (w.alloc o').heap[b]? = some o := (Below.heap_alloc _ _ _ (bx_lt h)).trans h
theorem Dk.set_other {d : Nat} {A : Option Addr} {c : Nat} {S : DS} {w : World} (h : Dk d A c S w) {b : Nat} (hb : b ≠ d) (hr : Value.ownBlock (.slice A S.fs.length c) ≠ some b) (j : Nat) (u : Value) : Dk d A c S (w.setCell ⟨b, j, none⟩ u) :=
  ⟨(Below.heap_setCell w ⟨b, j, none⟩ u d (fun e => hb e.symm)).trans h.box, h.row.kept (row := some b) ⟨rfl, rfl, rfl, by simp, fun k _ hk => heap_setCell_other w ⟨b, j, none⟩ k u (fun e => hk (by simp [e]))⟩ (.inr hr)⟩
theorem DKeep.set_new {d : Nat} {w W : World} (h : DKeep d w W) {b : Nat} (hb : w.heap.size ≤ b) (hd : d ≤ b) (j : Nat) (u : Value) : DKeep d w (W.setCell ⟨b, j, none⟩ u) :=
  ⟨h.below.setCell (p := ⟨b, j, none⟩) hd u, fun k hk hs ht => (heap_setCell_other W ⟨b, j, none⟩ k u (by show k ≠ b; omega)).trans (h.others k hk hs ht)⟩

set_option maxRecDepth 100000 in
set_option maxHeartbeats 4000000 in
theorem disk_take' (d : Nat) (A : Option Addr) (c : Nat) (S : DS) (hs : Sorted S.fs) (hl : S.fs.length ≤ 900) (nm : ByteArray) (w : World) (h : Dk d A c S w) :
    Calls Tryz.prog 70 #[.pointer (some ⟨d, 0, none⟩), .string nm] w fun e w' => e = .returned (flV (fileF S.fs nm)) ∧ Dk d A c { S with fs := delF S.fs nm } w' ∧ RKeep d (Value.ownBlock (.slice A S.fs.length c)) w w' := by
  have hdl := h.lt
  cases hh : has S.fs nm with
  | false =>
    have e1 : delF S.fs nm = S.fs := by unfold delF; simp [hh]
    have e2 : fileF S.fs nm = ⟨⟨#[]⟩, ⟨#[]⟩, 0⟩ := by unfold fileF; split <;> simp [hh]
    rw [e1, e2]
    have HF := Lib.hid (disk_find d A c S nm hs (by omega) (w.alloc (.cells #[.string ⟨#[]⟩, .string ⟨#[]⟩, .int .i64 0] 81)) (h.kept (alloc_kept w _)))
    rw [hh] at HF
    have hb0 := heap_alloc_new w (.cells #[.string ⟨#[]⟩, .string ⟨#[]⟩, .int .i64 0] 81)
    have hd1 := h.kept (alloc_kept w (.cells #[.string ⟨#[]⟩, .string ⟨#[]⟩, .int .i64 0] 81))
    generalize hW : w.alloc (.cells #[.string ⟨#[]⟩, .string ⟨#[]⟩, .int .i64 0] 81) = W at HF hb0 hd1
    have hbW : Below w.heap.size w W := by rw [← hW]; exact alloc_kept w _
    go_enter Tryz.func70, Tryz.ntmps70
    go_wp2_with (go_at_call 41; (with_reducible refine (HF.out).mono ?_); rintro e w1 ⟨rfl, b1⟩; have q1 := bx_kept hb0 b1; have c0 := bx_cells q1 0; have c1 := bx_cells q1 1; have c2 := bx_cells q1 2; have f0 := bx_free q1 0; have f1 := bx_free q1 1; have f2 := bx_free q1 2; have q2 := bx_cells (bx_set (bx_set (bx_set q1 0 (.string ⟨#[]⟩)) 1 (.string ⟨#[]⟩)) 2 (.int .i64 0)); have r0 := q2 0; have r1 := q2 1; have r2 := q2 2)
    have hne : Value.ownBlock (.slice A S.fs.length c) ≠ some w.heap.size := fun e => by have := (h.row.lt _ e).2; omega
    have D1 := (((hd1.kept b1).set_other (b := w.heap.size) (by omega) hne 0 (.string ⟨#[]⟩)).set_other (b := w.heap.size) (by omega) hne 1 (.string ⟨#[]⟩)).set_other (b := w.heap.size) (by omega) hne 2 (.int .i64 0)
    have K1 := (((RKeep.of_below (r := Value.ownBlock (.slice A S.fs.length c)) (hbW.trans (b1.mono hbW.size)) (Nat.le_of_lt hdl)).set_new (b := w.heap.size) (Nat.le_refl _) (Nat.le_of_lt hdl) 0 (.string ⟨#[]⟩)).set_new (b := w.heap.size) (Nat.le_refl _) (Nat.le_of_lt hdl) 1 (.string ⟨#[]⟩)).set_new (b := w.heap.size) (Nat.le_refl _) (Nat.le_of_lt hdl) 2 (.int .i64 0)
    refine bodyPost_ret (v := flV ⟨⟨#[]⟩, ⟨#[]⟩, 0⟩) (by simp [results, Tryz.results70, go_sem, flV, r0, r1, r2]) rfl ⟨rfl, D1, K1⟩
  | true =>
    obtain ⟨f, hf, -⟩ := has_some hh
    have e1 : delF S.fs nm = S.fs.take (pos S.fs nm) ++ S.fs.drop (pos S.fs nm + 1) := by unfold delF; simp [hh]
    have e2 : fileF S.fs nm = f := by unfold fileF; rw [hf]; simp [hh]
    rw [e1, e2]
    have hp := (List.getElem?_eq_some_iff.1 hf).1
    have HF := Lib.hid (disk_find d A c S nm hs (by omega) (w.alloc (.cells #[.string ⟨#[]⟩, .string ⟨#[]⟩, .int .i64 0] 81)) (h.kept (alloc_kept w _)))
    rw [hh] at HF
    have hb0 := heap_alloc_new w (.cells #[.string ⟨#[]⟩, .string ⟨#[]⟩, .int .i64 0] 81)
    have hd1 := h.kept (alloc_kept w (.cells #[.string ⟨#[]⟩, .string ⟨#[]⟩, .int .i64 0] 81))
    generalize hW : w.alloc (.cells #[.string ⟨#[]⟩, .string ⟨#[]⟩, .int .i64 0] 81) = W at HF hb0 hd1
    have hbW : Below w.heap.size w W := by rw [← hW]; exact alloc_kept w _
    obtain ⟨g, rfl, hdg, hgl⟩ := row_some h.row (by omega)
    generalize pos S.fs nm = p at HF hf hp ⊢
    have HC := Lib.hid (fun (X : World) (hd : Dk d (some ⟨g, 0, none⟩) c S X) => (And.intro (hd.row.cells (g := g) rfl (p * 3) (.string f.nm) (by have := fC_at _ p f hf 0 (by omega); rw [Nat.add_zero] at this; rw [this]; rfl)) (And.intro (hd.row.cells (g := g) rfl (p * 3 + 1) (.string f.all) (by rw [fC_at _ p f hf 1 (by omega)]; rfl)) (hd.row.cells (g := g) rfl (p * 3 + 2) (.int .i64 (f.su : Int)) (by rw [fC_at _ p f hf 2 (by omega)]; rfl)))))
    have HDEL := Lib.hid (fun (X : World) (hd : Dk d (some ⟨g, 0, none⟩) c S X) => disk_delete (d + 1) (some ⟨g, 0, none⟩) c p S.fs hl hp X hd.row)
    have HFA := Lib.hid (fun (X w4 : World) (hd : Dk d (some ⟨g, 0, none⟩) c S X) (o4 : w4.ownsRow (d + 1) 81 3 (.slice (some ⟨g, 0, none⟩) (S.fs.length - 1) c) (S.fs.length - 1) ((S.fs.take p ++ S.fs.drop (p + 1)).flatMap fC)) (g4 : X.grownBy w4 (Value.ownBlock (.slice (some ⟨g, 0, none⟩) S.fs.length c))) =>
      del_facts hd (by rw [List.length_append, List.length_take, List.length_drop]; omega) o4 g4)
    have hi1 : (p : Int) < (S.fs.length : Int) := by omega
    have hgW : g < W.heap.size := Nat.lt_of_lt_of_le hgl hbW.size
    have hb0l : w.heap.size < W.heap.size := bx_lt hb0
    clear hf h e1 e2 hh
    go_enter Tryz.func70, Tryz.ntmps70
    go_wp2_with (first
      | (go_at_call 41; (with_reducible refine (HF.out).mono ?_); rintro e w1 ⟨rfl, b1⟩; have q1 := bx_kept hb0 b1; have hdw := hd1.kept b1; have y0 := bx_cells hdw.box 0; obtain ⟨y1, y2, y3⟩ := HC.out _ hdw; rw [fl_add_0] at y1 y2 y3; have hdw2 := hdw.kept (alloc_kept w1 (.cells #[.string f.nm, .string f.all, .int .i64 (f.su : Int)] 81)); have z0 := bx_cells hdw2.box 0; have HD2 := Lib.hid (HDEL.out _ hdw2))
      | (go_at_call 88; refine (HD2.out).mono ?_; rintro e w4 ⟨rfl, o4, g4⟩; obtain ⟨z1, z2, hd5, hk5⟩ := HFA.out _ _ hdw2 o4 g4; have m4 := grown_box g4 (kept_new q1 _) (own_ne (by omega)); have m7 := grown_box g4 (heap_alloc_new w1 _) (own_ne (by have := b1.size; omega)); have n4 := (Below.heap_setCell w4 ⟨d, 0, none⟩ (.slice (some ⟨g, 0, none⟩) (S.fs.length - 1) c) w.heap.size (by show w.heap.size ≠ d; omega)).trans m4; have n7 := (Below.heap_setCell w4 ⟨d, 0, none⟩ (.slice (some ⟨g, 0, none⟩) (S.fs.length - 1) c) w1.heap.size (by have := b1.size; show w1.heap.size ≠ d; omega)).trans m7; have c0 := bx_cells n4 0; have c1 := bx_cells n4 1; have c2 := bx_cells n4 2; have f0 := bx_free n4 0; have f1 := bx_free n4 1; have f2 := bx_free n4 2; have k0 := bx_cells n7 0; have k1 := bx_cells n7 1; have k2 := bx_cells n7 2; have q2 := bx_cells (bx_set (bx_set (bx_set n4 0 (.string f.nm)) 1 (.string f.all)) 2 (.int .i64 (f.su : Int))); have r0 := q2 0; have r1 := q2 1; have r2 := q2 2))
    have hne : Value.ownBlock (.slice (some ⟨g, 0, none⟩) (S.fs.take p ++ S.fs.drop (p + 1)).length c) ≠ some w.heap.size := own_ne (by omega)
    have D1 := ((hd5.set_other (b := w.heap.size) (by omega) hne 0 (.string f.nm)).set_other (b := w.heap.size) (by omega) hne 1 (.string f.all)).set_other (b := w.heap.size) (by omega) hne 2 (.int .i64 (f.su : Int))
    have K0 : RKeep d (Value.ownBlock (.slice (some ⟨g, 0, none⟩) S.fs.length c)) w (w1.alloc (.cells #[.string f.nm, .string f.all, .int .i64 (f.su : Int)] 81)) := RKeep.of_below ((hbW.trans (b1.mono hbW.size)).trans ((alloc_kept w1 _).mono (by have := b1.size; omega))) (Nat.le_of_lt hdl)
    have K1 := (((K0.trans hk5).set_new (b := w.heap.size) (Nat.le_refl _) (Nat.le_of_lt hdl) 0 (.string f.nm)).set_new (b := w.heap.size) (Nat.le_refl _) (Nat.le_of_lt hdl) 1 (.string f.all)).set_new (b := w.heap.size) (Nat.le_refl _) (Nat.le_of_lt hdl) 2 (.int .i64 (f.su : Int))
    refine bodyPost_ret (v := flV f) (by simp [results, Tryz.results70, go_sem, flV, r0, r1, r2]) rfl ⟨rfl, D1, K1⟩
theorem disk_take (d : Nat) (A : Option Addr) (c : Nat) (S : DS) (hs : Sorted S.fs) (hl : S.fs.length ≤ 900) (nm : ByteArray) (w : World) (h : Dk d A c S w) :
    Calls Tryz.prog 70 #[.pointer (some ⟨d, 0, none⟩), .string nm] w (DPost d { S with fs := delF S.fs nm } (flV (fileF S.fs nm)) w) :=
  (disk_take' d A c S hs hl nm w h).mono fun _ _ ⟨q1, q2, q3⟩ => ⟨q1, A, c, q2, q3.keep h.row⟩
theorem delF_sub (fs : List Fl) (nm : ByteArray) : List.Sublist (delF fs nm) fs := by
  unfold delF
  split
  · have h := List.Sublist.append (List.Sublist.refl (fs.take (pos fs nm))) (List.drop_sublist 1 (fs.drop (pos fs nm)))
    rw [List.drop_drop, List.take_append_drop] at h
    exact h
  · exact List.Sublist.refl _
theorem sorted_del {fs : List Fl} (h : Sorted fs) (nm : ByteArray) : Sorted (delF fs nm) := h.sublist (delF_sub fs nm)
end Go.Proofs.YtcpmicinibfepaaGreatDoor

namespace Go.Proofs.YtcpmicinibfepaaGreatDoor
open Go.ChangeShapes Go.WideShapes Go.ChangeAt Go.RowKit Go.Deep DiskP


def removeD (S : DS) (nm : ByteArray) : DS × Int :=
  if S.on = false then (S, 9) else if has S.fs nm = false then (S, 7) else opD S fun fs => delF fs nm
theorem disk_Remove1 (d b0 b1 : Nat) (A : Option Addr) (c : Nat) (S : DS) (hs : Sorted S.fs) (hl : S.fs.length ≤ 900) (nm : ByteArray) (W : World) (h : Dk d A c S W) (h0 : W.heap[b0]? = some (.cells #[.pointer (some ⟨d, 0, none⟩)] 25 (0, 0))) (h1 : W.heap[b1]? = some (.cells #[.string nm] 9 (0, 0))) :
    Calls Tryz.prog 69 #[.pointer (some ⟨b0, 0, none⟩), .pointer (some ⟨b1, 0, none⟩)] W (DPost d { S with fs := delF S.fs nm } (.tuple #[]) W) := by
  have x0 := bx_cells h0 0
  have x1 := bx_cells h1 0
  have HT := Lib.hid (disk_take d A c S hs hl nm W h)
  clear h h0 h1
  go_enter Tryz.func69, Tryz.ntmps69
  go_wp2_with (go_at_call 70; refine (HT.out).mono ?_; rintro e w1 ⟨rfl, A1, c1, q1, q2⟩)
  go_end0
  exact ⟨rfl, A1, c1, q1, q2⟩
/-- two boxes are laid: a disk's address, a name -/
def two (w : World) (d : Nat) (nm : ByteArray) : World := (w.alloc (.cells #[.pointer (some ⟨d, 0, none⟩)] 25)).alloc (.cells #[.string nm] 9)
theorem two_facts (w : World) (d : Nat) (nm : ByteArray) : (two w d nm).heap.size = w.heap.size + 2 ∧ (two w d nm).heap[w.heap.size]? = some (.cells #[.pointer (some ⟨d, 0, none⟩)] 25 (0, 0)) ∧ (two w d nm).heap[w.heap.size + 1]? = some (.cells #[.string nm] 9 (0, 0)) ∧ Below w.heap.size w (two w d nm) := by
  refine ⟨by simp [two], ?_, ?_, ?_⟩
  · exact kept_new (heap_alloc_new w _) _
  · have := heap_alloc_new (w.alloc (.cells #[.pointer (some ⟨d, 0, none⟩)] 25)) (.cells #[.string nm] 9)
    rw [World.size_alloc] at this
    exact this
  · unfold two
    exact below_alloc' _ (below_alloc' _ (Below.refl _ w))
set_option maxRecDepth 100000 in
set_option maxHeartbeats 4000000 in
theorem disk_Remove (d : Nat) (A : Option Addr) (c : Nat) (S : DS) (hS : OkD S) (nm : ByteArray) (w : World) (h : Dk d A c S w) :
    Calls Tryz.prog 44 #[.pointer (some ⟨d, 0, none⟩), .string nm] w (DPost d (removeD S nm).1 (.int .i64 (removeD S nm).2) w) := by
  have hl : S.fs.length ≤ 1000 := by have := hS.many; omega
  have hm := hS.many
  obtain ⟨hsz, hb0, hb1, hbw⟩ := two_facts w d nm
  have hd0 := h.kept hbw
  have HF := Lib.hid (disk_find d A c S nm hS.sorted hl (two w d nm) hd0)
  have hdl := h.lt
  have e0 := bx_cells hb0 0
  have e1 := bx_cells hb1 0
  have HB := Lib.hid (fun (W : World) (b : Below (two w d nm).heap.size (two w d nm) W) => And.intro (bx_kept hb0 b) (And.intro (bx_kept hb1 b) (hd0.kept b)))
  unfold removeD
  cases hon : S.on with
  | false =>
    rw [if_pos rfl]
    generalize hp : pos S.fs nm = p at HF
    generalize hW : two w d nm = W0 at HF HB e0 e1 hbw hsz
    unfold two at hW
    go_enter Tryz.func44, Tryz.ntmps44
    go_wp2_with (first
      | (go_at_call 41; (with_reducible refine (HF.out).mono ?_); rintro e w1 ⟨rfl, b1⟩; obtain ⟨j0, j1, hd1⟩ := HB.out _ b1; have k0 := bx_cells j0 0; have k1 := bx_cells j1 0)
      | (go_at_call 30; refine (disk_On d A c S _ hd1).mono ?_; rintro e w2 ⟨rfl, rfl⟩; rw [hon]))
    go_ret
    exact ⟨rfl, A, c, hd1, DKeep.of_below (hbw.trans (b1.mono hbw.size)) (Nat.le_of_lt hdl)⟩
  | true =>
    rw [if_neg (by simp)]
    cases hh : has S.fs nm with
    | false =>
      rw [if_pos rfl]
      rw [hh] at HF
      generalize hp : pos S.fs nm = p at HF
      generalize hW : two w d nm = W0 at HF HB e0 e1 hbw hsz
      unfold two at hW
      go_enter Tryz.func44, Tryz.ntmps44
      go_wp2_with (first
        | (go_at_call 41; (with_reducible refine (HF.out).mono ?_); rintro e w1 ⟨rfl, b1⟩; obtain ⟨j0, j1, hd1⟩ := HB.out _ b1; have k0 := bx_cells j0 0; have k1 := bx_cells j1 0)
        | (go_at_call 30; refine (disk_On d A c S _ hd1).mono ?_; rintro e w2 ⟨rfl, rfl⟩; rw [hon]))
      go_ret
      exact ⟨rfl, A, c, hd1, DKeep.of_below (hbw.trans (b1.mono hbw.size)) (Nat.le_of_lt hdl)⟩
    | true =>
      rw [if_neg (by simp)]
      rw [hh] at HF
      have HOP := Lib.hid (fun (W : World) (hd : Dk d A c S W) (h0 : W.heap[w.heap.size]? = some (.cells #[.pointer (some ⟨d, 0, none⟩)] 25 (0, 0))) (h1 : W.heap[w.heap.size + 1]? = some (.cells #[.string nm] 9 (0, 0))) =>
        disk_op_with d A c S hon hS.fuse hS.ops 69 #[.pointer (some ⟨w.heap.size, 0, none⟩), .pointer (some ⟨w.heap.size + 1, 0, none⟩)] (enters_of Tryz.func69 (by kernel_rfl) rfl) (fun fs => delF fs nm) W hd
          (fun X h2 h3 => by
            obtain ⟨q1, _, _⟩ := blow_fs S
            have := disk_Remove1 d w.heap.size (w.heap.size + 1) A c (blow S).1 (by rw [q1]; exact hS.sorted) (by rw [q1]; omega) nm X h2 (dkeep_box h3 h0 (by omega) (by decide)) (dkeep_box h3 h1 (by omega) (by decide))
            rw [q1] at this
            exact this))
      generalize hp : pos S.fs nm = p at HF
      generalize hW : two w d nm = W0 at HF HB e0 e1 hbw hsz
      unfold two at hW
      clear hS h hb0 hb1 hd0
      generalize opD S (fun fs => delF fs nm) = R at HOP ⊢
      go_enter Tryz.func44, Tryz.ntmps44
      go_wp2_with (first
        | (go_at_call 41; (with_reducible refine (HF.out).mono ?_); rintro e w1 ⟨rfl, b1⟩; obtain ⟨j0, j1, hd1⟩ := HB.out _ b1; have k0 := bx_cells j0 0; have k1 := bx_cells j1 0; have HOP1 := Lib.hid (HOP.out _ hd1 j0 j1))
        | (go_at_call 30; refine (disk_On d A c S _ hd1).mono ?_; rintro e w2 ⟨rfl, rfl⟩; rw [hon])
        | (go_at_call 61; refine (HOP1.out).mono ?_; rintro e w6 ⟨rfl, A6, c6, hd6, hk6⟩))
      go_ret
      exact ⟨rfl, A6, c6, hd6, (DKeep.of_below (hbw.trans (b1.mono hbw.size)) (Nat.le_of_lt hdl)).trans hk6⟩
end Go.Proofs.YtcpmicinibfepaaGreatDoor

namespace Go.Proofs.YtcpmicinibfepaaGreatDoor
open Go.ChangeShapes Go.WideShapes Go.ChangeAt Go.RowKit Go.Deep DiskP


def cutFl (n : Nat) (f : Fl) : Fl := { f with all := f.all.extract 0 n, su := min f.su n }
def cutD (S : DS) (nm : ByteArray) (n : Int) : DS × Int :=
  if S.on = false then (S, 9) else if has S.fs nm = false then (S, 7)
  else if n < 0 ∨ (((S.fs.map fun f => f.all.size).getD (pos S.fs nm) 0 : Nat) : Int) < n then (S, 11)
  else opD S fun fs => modF fs nm (cutFl n.toNat)
theorem Dk.set_file2 {d g c : Nat} {S : DS} {w : World} (h : Dk d (some ⟨g, 0, none⟩) c S w) {k : Nat} {f : Fl} {a : ByteArray} {m : Nat} (hk : S.fs[k]? = some f) :
    Dk d (some ⟨g, 0, none⟩) c { S with fs := S.fs.set k { f with all := a, su := m } } ((w.setCell ⟨g, k * 3 + 1, none⟩ (.string a)).setCell ⟨g, k * 3 + 2, none⟩ (.int .i64 (m : Int))) ∧ DKeep d w ((w.setCell ⟨g, k * 3 + 1, none⟩ (.string a)).setCell ⟨g, k * 3 + 2, none⟩ (.int .i64 (m : Int))) := by
  obtain ⟨h1, h2⟩ := h.set_file (k := k) (f' := { f with all := a }) (r := 1) (u := .string a) hk (by omega) rfl
  have hk2 : (S.fs.set k { f with all := a })[k]? = some { f with all := a } := by
    have := (List.getElem?_eq_some_iff.1 hk).1
    rw [List.getElem?_set_self this]
  obtain ⟨h3, h4⟩ := h1.set_file (k := k) (f' := { f with all := a, su := m }) (r := 2) (u := .int .i64 (m : Int)) hk2 (by omega) rfl
  rw [List.set_set] at h3
  exact ⟨h3, h2.trans h4⟩
set_option maxRecDepth 100000 in
set_option maxHeartbeats 4000000 in
theorem disk_Cut1 (d b0 b5 b7 k n : Nat) (A : Option Addr) (c : Nat) (S : DS) (f : Fl) (hk : S.fs[k]? = some f) (hl : S.fs.length ≤ 1000) (hn : n ≤ f.all.size) (W : World) (h : Dk d A c S W) (h0 : W.heap[b0]? = some (.cells #[.pointer (some ⟨d, 0, none⟩)] 25 (0, 0))) (h7 : W.heap[b7]? = some (.cells #[.int .i64 k] 3 (0, 0))) (h5 : W.heap[b5]? = some (.cells #[.int .i64 n] 3 (0, 0))) :
    Calls Tryz.prog 77 #[.pointer (some ⟨b0, 0, none⟩), .pointer (some ⟨b7, 0, none⟩), .pointer (some ⟨b5, 0, none⟩)] W (DPost d { S with fs := S.fs.set k (cutFl n f) } (.tuple #[]) W) := by
  have hp := (List.getElem?_eq_some_iff.1 hk).1
  obtain ⟨g, rfl, hdg, hgl⟩ := row_some h.row (by omega)
  have x0 := bx_cells h0 0
  have x5 := bx_cells h5 0
  have x7 := bx_cells h7 0
  have y0 := bx_cells h.box 0
  have y1 := h.row.cells (g := g) rfl (k * 3 + 1) (.string f.all) (by rw [fC_at _ k f hk 1 (by omega)]; rfl)
  have y2 := h.row.cells (g := g) rfl (k * 3 + 2) (.int .i64 (f.su : Int)) (by rw [fC_at _ k f hk 2 (by omega)]; rfl)
  rw [fl_add_0] at y1 y2
  have y3 := h.row.frozenAt (k * 3 + 1)
  have y4 := h.row.frozenAt (k * 3 + 2)
  have hd' : Dk d (some ⟨g, 0, none⟩) c S W.drew.drew := ⟨h.box, h.row.drew.drew⟩
  obtain ⟨q1, q2⟩ := hd'.set_file2 (k := k) (a := f.all.extract 0 n) (m := min f.su n) hk
  have q3 : DKeep d W W.drew.drew := DKeep.of_below ((Below.refl _ W).drew.drew) (Nat.le_of_lt h.lt)
  have hi1 : (k : Int) < (S.fs.length : Int) := by omega
  have hi2 : (n : Int) ≤ (f.all.size : Int) := by omega
  obtain ⟨m, hm⟩ : ∃ m, min f.su n = m := ⟨_, rfl⟩
  have hmi : min (f.su : Int) (n : Int) = (m : Int) := by omega
  have hcf : cutFl n f = { f with all := f.all.extract 0 n, su := m } := by unfold cutFl; rw [hm]
  rw [hcf]
  rw [hm] at q1 q2
  clear hk h hd' h0 h5 h7 hcf hm
  go_enter Tryz.func77, Tryz.ntmps77
  go_wp2_with fail
  go_region
  go_wp2_with fail
  go_region
  go_end0
  exact ⟨rfl, _, c, q1, q3.trans q2⟩
/-- two boxes are laid: a disk's address, a number -/
def twoI (w : World) (d : Nat) (n : Int) : World := (w.alloc (.cells #[.pointer (some ⟨d, 0, none⟩)] 25)).alloc (.cells #[.int .i64 n] 3)
theorem twoI_facts (w : World) (d : Nat) (n : Int) : (twoI w d n).heap.size = w.heap.size + 2 ∧ (twoI w d n).heap[w.heap.size]? = some (.cells #[.pointer (some ⟨d, 0, none⟩)] 25 (0, 0)) ∧ (twoI w d n).heap[w.heap.size + 1]? = some (.cells #[.int .i64 n] 3 (0, 0)) ∧ Below w.heap.size w (twoI w d n) := by
  refine ⟨by simp [twoI], ?_, ?_, ?_⟩
  · exact kept_new (heap_alloc_new w _) _
  · have := heap_alloc_new (w.alloc (.cells #[.pointer (some ⟨d, 0, none⟩)] 25)) (.cells #[.int .i64 n] 3)
    rw [World.size_alloc] at this
    exact this
  · unfold twoI
    exact below_alloc' _ (below_alloc' _ (Below.refl _ w))

set_option maxRecDepth 100000 in
set_option maxHeartbeats 4000000 in
theorem disk_Cut (d : Nat) (A : Option Addr) (c : Nat) (S : DS) (hS : OkD S) (nm : ByteArray) (n : Int) (w : World) (h : Dk d A c S w) :
    Calls Tryz.prog 52 #[.pointer (some ⟨d, 0, none⟩), .string nm, .int .i64 n] w (DPost d (cutD S nm n).1 (.int .i64 (cutD S nm n).2) w) := by
  have hl : S.fs.length ≤ 1000 := by have := hS.many; omega
  have hm := hS.many
  obtain ⟨hsz, hb0, hb1, hbw⟩ := twoI_facts w d n
  have hd0 := h.kept hbw
  have HF := Lib.hid (disk_find d A c S nm hS.sorted hl (twoI w d n) hd0)
  have hdl := h.lt
  have e0 := bx_cells hb0 0
  have e1 := bx_cells hb1 0
  have HB := Lib.hid (fun (W : World) (b : Below (twoI w d n).heap.size (twoI w d n) W) => And.intro (bx_kept hb0 b) (And.intro (bx_kept hb1 b) (hd0.kept b)))
  have HBA := Lib.hid (fun (W : World) (u : Value) (b : Below (twoI w d n).heap.size (twoI w d n) W) => (b.alloc b.size (.cells #[u] 3) : Below (twoI w d n).heap.size (twoI w d n) (W.alloc (.cells #[u] 3))))
  unfold cutD
  cases hon : S.on with
  | false =>
    rw [if_pos rfl]
    generalize hp : pos S.fs nm = p at HF
    generalize hW : twoI w d n = W0 at HF HB HBA e0 e1 hbw hsz
    unfold twoI at hW
    go_enter Tryz.func52, Tryz.ntmps52
    go_wp2_with (first
      | (go_at_call 41; (with_reducible refine (HF.out).mono ?_); rintro e w1 ⟨rfl, b1⟩; have b2 := HBA.out _ (.int .i64 p) b1; obtain ⟨j0, j1, hd1⟩ := HB.out _ b2; have k0 := bx_cells j0 0; have k1 := bx_cells j1 0)
      | (go_at_call 30; refine (disk_On d A c S _ hd1).mono ?_; rintro e w2 ⟨rfl, rfl⟩; rw [hon]))
    go_ret
    exact ⟨rfl, A, c, hd1, DKeep.of_below (hbw.trans (b2.mono hbw.size)) (Nat.le_of_lt hdl)⟩
  | true =>
    rw [if_neg (by simp)]
    cases hh : has S.fs nm with
    | false =>
      rw [if_pos rfl]
      rw [hh] at HF
      generalize hp : pos S.fs nm = p at HF
      generalize hW : twoI w d n = W0 at HF HB HBA e0 e1 hbw hsz
      unfold twoI at hW
      go_enter Tryz.func52, Tryz.ntmps52
      go_wp2_with (first
        | (go_at_call 41; (with_reducible refine (HF.out).mono ?_); rintro e w1 ⟨rfl, b1⟩; have b2 := HBA.out _ (.int .i64 p) b1; obtain ⟨j0, j1, hd1⟩ := HB.out _ b2; have k0 := bx_cells j0 0; have k1 := bx_cells j1 0)
        | (go_at_call 30; refine (disk_On d A c S _ hd1).mono ?_; rintro e w2 ⟨rfl, rfl⟩; rw [hon]))
      go_ret
      exact ⟨rfl, A, c, hd1, DKeep.of_below (hbw.trans (b2.mono hbw.size)) (Nat.le_of_lt hdl)⟩
    | true =>
      rw [if_neg (by simp)]
      rw [hh] at HF
      obtain ⟨f, hf, -⟩ := has_some hh
      have hgd : (S.fs.map fun f => f.all.size).getD (pos S.fs nm) 0 = f.all.size := by rw [List.getD_eq_getElem?_getD, List.getElem?_map, hf]; rfl
      rw [hgd]
      have hpl := (List.getElem?_eq_some_iff.1 hf).1
      obtain ⟨g, rfl, hdg, hgl⟩ := row_some h.row (by omega)
      by_cases hbad : n < 0 ∨ (f.all.size : Int) < n
      · rw [if_pos hbad]
        have HC := Lib.hid (fun (X : World) (hd : Dk d (some ⟨g, 0, none⟩) c S X) => hd.row.cells (g := g) rfl (pos S.fs nm * 3 + 1) (.string f.all) (by rw [fC_at _ _ f hf 1 (by omega)]; rfl))
        generalize hp : pos S.fs nm = p at HF HC hpl
        generalize hW : twoI w d n = W0 at HF HB HBA e0 e1 hbw hsz
        unfold twoI at hW
        have hi1 : (p : Int) < (S.fs.length : Int) := by omega
        clear hf hgd
        go_enter Tryz.func52, Tryz.ntmps52
        go_wp2_with (first
          | (go_at_call 41; (with_reducible refine (HF.out).mono ?_); rintro e w1 ⟨rfl, b1⟩; have b2 := HBA.out _ (.int .i64 p) b1; obtain ⟨j0, j1, hd1⟩ := HB.out _ b2; have k0 := bx_cells j0 0; have k1 := bx_cells j1 0; have j7 := heap_alloc_new w1 (.cells #[.int .i64 p] 3))
          | (go_at_call 30; refine (disk_On d _ c S _ hd1).mono ?_; rintro e w2 ⟨rfl, rfl⟩; rw [hon]))
        have y1 := HC.out _ hd1
        rw [fl_add_0] at y1
        have y0 := bx_cells hd1.box 0
        have k7 := bx_cells j7 0
        by_cases hn0 : n < 0
        · have d0 : decide (n < 0) = true := decide_eq_true hn0
          go_region
          go_wp2_with fail
          go_ret
          exact ⟨rfl, _, c, ⟨hd1.box, hd1.row.drew⟩, DKeep.of_below ((hbw.trans (b2.mono hbw.size)).drew) (Nat.le_of_lt hdl)⟩
        · have d0 : decide (n < 0) = false := decide_eq_false hn0
          have d1 : decide ((f.all.size : Int) < n) = true := decide_eq_true (hbad.resolve_left hn0)
          go_region
          go_wp2_with fail
          go_ret
          exact ⟨rfl, _, c, ⟨hd1.box, hd1.row.drew⟩, DKeep.of_below ((hbw.trans (b2.mono hbw.size)).drew) (Nat.le_of_lt hdl)⟩
      · rw [if_neg hbad]
        obtain ⟨m, rfl⟩ : ∃ m : Nat, n = (m : Int) := ⟨n.toNat, by omega⟩
        have hml : m ≤ f.all.size := by omega
        rw [Int.toNat_natCast]
        have hmod : modF S.fs nm (cutFl m) = S.fs.set (pos S.fs nm) (cutFl m f) := by unfold modF; rw [hf]
        have HC := Lib.hid (fun (X : World) (hd : Dk d (some ⟨g, 0, none⟩) c S X) => hd.row.cells (g := g) rfl (pos S.fs nm * 3 + 1) (.string f.all) (by rw [fC_at _ _ f hf 1 (by omega)]; rfl))
        generalize hp : pos S.fs nm = p at HF HC hpl hf hmod
        have HOP := Lib.hid (fun (W : World) (b7 : Nat) (hd : Dk d (some ⟨g, 0, none⟩) c S W) (h0 : W.heap[w.heap.size]? = some (.cells #[.pointer (some ⟨d, 0, none⟩)] 25 (0, 0))) (h5 : W.heap[w.heap.size + 1]? = some (.cells #[.int .i64 m] 3 (0, 0))) (h7 : W.heap[b7]? = some (.cells #[.int .i64 p] 3 (0, 0))) (hb7 : b7 ≠ d) =>
          disk_op_with d _ c S hon hS.fuse hS.ops 77 #[.pointer (some ⟨w.heap.size, 0, none⟩), .pointer (some ⟨b7, 0, none⟩), .pointer (some ⟨w.heap.size + 1, 0, none⟩)] (enters_of Tryz.func77 (by kernel_rfl) rfl) (fun fs => modF fs nm (cutFl m)) W hd
            (fun X q1 q2 => by
              obtain ⟨q3, _, _⟩ := blow_fs S
              have := disk_Cut1 d w.heap.size (w.heap.size + 1) b7 p m _ c (blow S).1 f (by rw [q3]; exact hf) (by rw [q3]; exact hl) hml X q1 (dkeep_box q2 h0 (by omega) (by decide)) (dkeep_box q2 h7 hb7 (by decide)) (dkeep_box q2 h5 (by omega) (by decide))
              rw [q3, ← hmod] at this
              exact this))
        generalize hW : twoI w d (m : Int) = W0 at HF HB HBA e0 e1 hbw hsz
        unfold twoI at hW
        have hi1 : (p : Int) < (S.fs.length : Int) := by omega
        have d0 : decide ((m : Int) < 0) = false := decide_eq_false (by omega)
        have d1 : decide ((f.all.size : Int) < (m : Int)) = false := decide_eq_false (by omega)
        clear hf hgd hmod hS h hb0 hb1 hd0
        generalize opD S (fun fs => modF fs nm (cutFl m)) = R at HOP ⊢
        go_enter Tryz.func52, Tryz.ntmps52
        go_wp2_with (first
          | (go_at_call 41; (with_reducible refine (HF.out).mono ?_); rintro e w1 ⟨rfl, b1⟩; have b2 := HBA.out _ (.int .i64 p) b1; obtain ⟨j0, j1, hd1⟩ := HB.out _ b2; have k0 := bx_cells j0 0; have k1 := bx_cells j1 0; have j7 := heap_alloc_new w1 (.cells #[.int .i64 p] 3))
          | (go_at_call 30; refine (disk_On d _ c S _ hd1).mono ?_; rintro e w2 ⟨rfl, rfl⟩; rw [hon]))
        have y1 := HC.out _ hd1
        rw [fl_add_0] at y1
        have y0 := bx_cells hd1.box 0
        have k7 := bx_cells j7 0
        have hdd : Dk d (some ⟨g, 0, none⟩) c S (w1.alloc (.cells #[.int .i64 p] 3)).drew := ⟨hd1.box, hd1.row.drew⟩
        have HOP1 := Lib.hid (HOP.out (w1.alloc (.cells #[.int .i64 p] 3)).drew w1.heap.size hdd j0 j1 j7 (by have := b1.size; omega))
        go_region
        go_wp2_with (go_at_call 61; refine (HOP1.out).mono ?_; rintro e w6 ⟨rfl, A6, c6, hd6, hk6⟩)
        go_ret
        exact ⟨rfl, A6, c6, hd6, (DKeep.of_below ((hbw.trans (b2.mono hbw.size)).drew) (Nat.le_of_lt hdl)).trans hk6⟩
end Go.Proofs.YtcpmicinibfepaaGreatDoor
