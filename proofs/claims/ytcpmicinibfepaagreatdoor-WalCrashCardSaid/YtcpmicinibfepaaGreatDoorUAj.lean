/- Walks of layer 7 (disk): is a text a name? · Walks of layer 7 (disk): operate; what a store into a file leaves · Walks of layer 7 (disk): Append · Walks of layer 7 (disk): Append, where it is done · Walks of layer 7 (disk): Sync. -/
import Derived.Test.YtcpmicinibfepaaGreatDoorUAi
import Derived.Lib.OthersKept
import Derived.Laws.RangeAny
namespace Go.Proofs.YtcpmicinibfepaaGreatDoor
open Go.ChangeShapes Go.WideShapes Go.ChangeAt Go.RowKit Go.Deep DiskP


def letterI (r : Int) : Bool := decide ((97 ≤ r ∧ r ≤ 122) ∨ (48 ≤ r ∧ r ≤ 57) ∨ r = 46 ∨ r = 45)
def namedD (s : ByteArray) : Bool := s.data.toList.all (fun c => letterI (c.toNat : Int)) && (decide (1 ≤ s.size) && decide (s.size ≤ 24))
theorem disk_letter (r : Int) (w : World) : Calls Tryz.prog 80 #[.int .i32 r] w fun e w' => e = .returned (.bool (letterI r)) ∧ w = w' := by
  by_cases h1 : 97 ≤ r ∧ r ≤ 122
  · rw [show letterI r = true by unfold letterI; rw [decide_eq_true_eq]; exact .inl h1]
    obtain ⟨a1, a2⟩ := h1
    go_enter Tryz.func80, Tryz.ntmps80
    go_wp2_with fail
    go_ret
    exact ⟨rfl, rfl⟩
  · by_cases h2 : 48 ≤ r ∧ r ≤ 57
    · rw [show letterI r = true by unfold letterI; rw [decide_eq_true_eq]; exact .inr (.inl h2)]
      obtain ⟨a1, a2⟩ := h2
      have a3 : ¬ 97 ≤ r := by omega
      go_enter Tryz.func80, Tryz.ntmps80
      go_wp2_with fail
      go_ret
      exact ⟨rfl, rfl⟩
    · by_cases h3 : r = 46
      · subst h3
        go_enter Tryz.func80, Tryz.ntmps80
        go_wp2_with fail
        go_ret
        exact ⟨rfl, rfl⟩
      · by_cases h4 : r = 45
        · subst h4
          go_enter Tryz.func80, Tryz.ntmps80
          go_wp2_with fail
          go_ret
          exact ⟨rfl, rfl⟩
        · rw [show letterI r = false by unfold letterI; rw [decide_eq_false_iff_not]; omega]
          have b3 : (r == 46) = false := by rw [beq_eq_false_iff_ne]; exact h3
          have b4 : (r == 45) = false := by rw [beq_eq_false_iff_ne]; exact h4
          clear h3 h4
          by_cases c1 : 97 ≤ r
          · have c2 : ¬ r ≤ 122 := fun h => h1 ⟨c1, h⟩
            have c3 : ¬ r ≤ 57 := by omega
            have c4 : 48 ≤ r := by omega
            clear h1 h2
            go_enter Tryz.func80, Tryz.ntmps80
            go_wp2_with fail
            go_ret
            exact ⟨rfl, rfl⟩
          · by_cases c4 : 48 ≤ r
            · have c3 : ¬ r ≤ 57 := fun h => h2 ⟨c4, h⟩
              clear h1 h2
              go_enter Tryz.func80, Tryz.ntmps80
              go_wp2_with fail
              go_ret
              exact ⟨rfl, rfl⟩
            · clear h1 h2
              go_enter Tryz.func80, Tryz.ntmps80
              go_wp2_with fail
              go_ret
              exact ⟨rfl, rfl⟩
theorem named_at (s : ByteArray) (j : Nat) (h : j < s.size) : s.data.toList[j]? = some (s[j]'h) := by
  have h2 : j < s.data.toList.length := h
  rw [List.getElem?_eq_getElem h2]
  rfl
theorem named_no {s : ByteArray} {j : Nat} {h : j < s.size} (hb : letterI ((s[j]'h).toNat : Int) = false) : namedD s = false := by
  unfold namedD
  have ha : s.data.toList.all (fun c => letterI (c.toNat : Int)) = false := by
    rw [List.all_eq_false]
    exact ⟨s[j]'h, List.mem_of_getElem? (named_at s j h), by rw [hb]; simp⟩
  rw [ha]; rfl
theorem named_yes {s : ByteArray} (hb : ∀ j (h : j < s.size), letterI ((s[j]'h).toNat : Int) = true) : namedD s = (decide (1 ≤ s.size) && decide (s.size ≤ 24)) := by
  unfold namedD
  have ha : s.data.toList.all (fun c => letterI (c.toNat : Int)) = true := by
    rw [List.all_eq_true]
    intro c hc
    obtain ⟨j, hj, e⟩ := List.getElem_of_mem hc
    have := hb j hj
    rw [← e]
    exact this
  rw [ha]; rfl

set_option maxRecDepth 100000 in
theorem disk_named (s : ByteArray) (hs : s.size ≤ maxLen) (w : World) : Calls Tryz.prog 58 #[.string s] w fun e w' => e = .returned (.bool (namedD s)) ∧ Below w.heap.size w w' := by
  unfold maxLen at hs
  have HNO := Lib.hid (fun j (h : j < s.size) => named_no (s := s) (j := j) (h := h))
  have HYES := Lib.hid (named_yes (s := s))
  go_enter Tryz.func58, Tryz.ntmps58
  go_wp2_with fail
  go_loopw [] (fun wr => ∃ pos : Nat, pos ≤ s.size ∧ wr.heap[w.heap.size]? = some (.stringIter s pos) ∧ (∀ j (h : j < s.size), j < pos → letterI ((s[j]'h).toNat : Int) = true) ∧ Below w.heap.size w wr) (fun wr => s.size - wr.iterPos w.heap.size)
  case atStart => exact ⟨0, by omega, by have := World.iter_heap w s 0; simpa using this, fun j h hj => by omega, (Below.refl _ w).alloc (Nat.le_refl _) _⟩
  case round =>
    obtain ⟨pos, hpos, hit, hpre, hb⟩ := hrel
    have HPRE := Lib.hid hpre
    clear hpre
    by_cases hp : pos < s.size
    · by_cases ha : (s[pos]'hp).toNat < 128
      · have hnx := fun ty => Lib.run_next_ascii_at (P := Tryz.prog) wr w.heap.size s pos ty hit hp ha
        have hit2 := Lib.iterAt_heap wr w.heap.size s pos (pos + 1) hit
        have hb2 := Lib.below_iterAt hb (k := w.heap.size) (Nat.le_refl _) s (pos + 1)
        have HB := Lib.hid (HNO.out pos hp)
        have HPK := Lib.hid (fun (hl : letterI ((s[pos]'hp).toNat : Int) = true) (j : Nat) (h : j < s.size) (hj : j < pos + 1) => (by
          rcases Nat.lt_or_ge j pos with h1 | h1
          · exact HPRE.out j h h1
          · obtain rfl : j = pos := by omega
            exact hl : letterI ((s[j]'h).toNat : Int) = true))
        have HIT := Lib.hid hit
        generalize (s[pos]'hp).toNat = x at hnx HB HPK ha
        cases hl : letterI (x : Int) with
        | false =>
          go_wp2_with (go_at_call 80; refine (disk_letter _ _).mono ?_; rintro e w1 ⟨rfl, rfl⟩; rw [hl])
          go_ret
          exact ⟨by rw [HB.out hl]; rfl, hb2⟩
        | true =>
          go_wp2_with (go_at_call 80; refine (disk_letter _ _).mono ?_; rintro e w1 ⟨rfl, rfl⟩; rw [hl])
          refine ⟨⟨pos + 1, by omega, hit2, HPK.out hl, hb2⟩, ?_⟩
          simp only [World.iterPos, hit2, HIT.out]
          omega
      · have hd := decode_high s pos hp (by omega)
        have hnx := fun ty => Lib.run_next_any_at (P := Tryz.prog) wr w.heap.size s pos ty hit hp
        have hb2 := Lib.below_iterAt hb (k := w.heap.size) (Nat.le_refl _) s (pos + (Utf8.decode s pos).2)
        have HB := Lib.hid (HNO.out pos hp (by unfold letterI; rw [decide_eq_false_iff_not]; omega))
        have hl : letterI ((Utf8.decode s pos).1 : Int) = false := by unfold letterI; rw [decide_eq_false_iff_not]; omega
        clear hd
        generalize Utf8.decode s pos = dd at hnx hb2 hl
        go_wp2_with (go_at_call 80; refine (disk_letter _ _).mono ?_; rintro e w1 ⟨rfl, rfl⟩; rw [hl])
        go_ret
        exact ⟨by rw [HB.out]; rfl, hb2⟩
    · have hnx := fun ty => Lib.run_next_end_at (P := Tryz.prog) wr w.heap.size s pos ty hit hp
      have HY := Lib.hid (HYES.out (fun j h => HPRE.out j h (by omega)))
      by_cases h0 : s.size = 0
      · have he : s.toList.isEmpty = true := by
          rw [ByteArray.toList_eq, List.isEmpty_iff]
          exact List.eq_nil_of_length_eq_zero h0
        go_wp2_with fail
        go_ret
        exact ⟨by rw [HY.out, h0]; rfl, hb⟩
      · have he : s.toList.isEmpty = false := by
          rw [ByteArray.toList_eq, List.isEmpty_eq_false_iff]
          intro h
          exact h0 (congrArg List.length h)
        by_cases h24 : s.size ≤ 24
        · have d24 : decide ((s.size : Int) ≤ 24) = true := by rw [decide_eq_true_eq]; omega
          go_wp2_with fail
          go_ret
          exact ⟨by rw [HY.out, decide_eq_true h24, decide_eq_true (show 1 ≤ s.size by omega)]; rfl, hb⟩
        · have d24 : decide ((s.size : Int) ≤ 24) = false := by rw [decide_eq_false_iff_not]; omega
          go_wp2_with fail
          go_ret
          exact ⟨by rw [HY.out, decide_eq_false h24, Bool.and_false]; rfl, hb⟩
end Go.Proofs.YtcpmicinibfepaaGreatDoor

namespace Go.Proofs.YtcpmicinibfepaaGreatDoor
open Go.ChangeShapes Go.WideShapes Go.ChangeAt Go.RowKit Go.Deep DiskP


theorem dkeep_grown {w w' : World} {d n sz : Nat} {v : Value} {xs : List Value} (ho : w.ownsRow (d + 1) 81 sz v n xs) (hg : w.grownBy w' v.ownBlock) (hd : d ≤ w.heap.size) : DKeep d w w' := by
  refine ⟨(Below.refl d w).grown hg hd (fun k e => by have := (ho.lt k e).1; omega), fun b hb hs ht => hg.block b hs (fun e => ?_)⟩
  rcases ho.2 with ⟨rfl, _⟩ | ⟨g, cap, cur, rfl, _, hgb, _⟩
  · simp [Value.ownBlock] at e
  · have : b = g := by simpa [Value.ownBlock] using e
    subst this
    exact ht _ _ hgb
theorem dkeep_box {d : Nat} {w w' : World} (h : DKeep d w w') {b : Nat} {cs : Array Value} {T : TypeId} (hb : w.heap[b]? = some (.cells cs T (0, 0))) (hd : b ≠ d) (hT : T ≠ 81) : w'.heap[b]? = some (.cells cs T (0, 0)) := by
  rcases Nat.lt_or_ge b d with h1 | h1
  · exact (h.below.block b h1).trans hb
  · exact (h.others b (by omega) (bx_lt hb) (fun cs' z e => by rw [hb] at e; simp at e; exact hT e.2.1)).trans hb
theorem fC_set (l : List Fl) : ∀ (k : Nat) (f f' : Fl) (r : Nat) (u : Value), l[k]? = some f → r < 3 → fC f' = (fC f).set r u → (l.flatMap fC).set (k * 3 + r) u = (l.set k f').flatMap fC := by
  induction l with
  | nil => intro k f f' r u hk; simp at hk
  | cons y l ih =>
    intro k f f' r u hk hr hf
    cases k with
    | zero =>
      obtain rfl : y = f := by simpa using hk
      rw [List.set_cons_zero, List.flatMap_cons, List.flatMap_cons, hf, Nat.zero_mul, Nat.zero_add, List.set_append_left _ _ (by simp [fC]; omega)]
    | succ k =>
      rw [List.set_cons_succ, List.flatMap_cons, List.flatMap_cons, ← ih k f f' r u (by simpa using hk) hr hf]
      rw [List.set_append_right _ _ (by simp [fC]; omega)]
      congr 2
      simp [fC]; omega
/-- a store into one file -/
theorem Dk.set_file {d g c : Nat} {S : DS} {w : World} (h : Dk d (some ⟨g, 0, none⟩) c S w) {k : Nat} {f f' : Fl} {r : Nat} {u : Value} (hk : S.fs[k]? = some f) (hr : r < 3) (hf : fC f' = (fC f).set r u) :
    Dk d (some ⟨g, 0, none⟩) c { S with fs := S.fs.set k f' } (w.setCell ⟨g, k * 3 + r, none⟩ u) ∧ DKeep d w (w.setCell ⟨g, k * 3 + r, none⟩ u) := by
  obtain ⟨h1, h2⟩ := h.row.stored (k * 3 + r) u
  have hgd := (h.row.lt g rfl).1
  refine ⟨⟨?_, ?_⟩, dkeep_grown h.row h2 (Nat.le_of_lt h.lt)⟩
  · have := (h2.block d h.lt (by simp; omega)).trans h.box
    simpa using this
  · rw [fC_set _ k f f' r u hk hr hf] at h1
    simpa using h1
theorem row_some {w : World} {d n c : Nat} {A : Option Addr} {xs : List Value} (h : w.ownsRow (d + 1) 81 3 (.slice A n c) n xs) (hn : 0 < n) : ∃ g, A = some ⟨g, 0, none⟩ ∧ d < g ∧ g < w.heap.size := by
  rcases h.2 with ⟨e1, e2⟩ | ⟨g, cap, cur, e1, hb, hg, _⟩
  · omega
  · exact ⟨g, (by simpa using e1 : A = some ⟨g, 0, none⟩ ∧ c = cap).1, by omega, bx_lt hg⟩

set_option maxRecDepth 100000 in
theorem disk_operate (d : Nat) (A : Option Addr) (c : Nat) (S : DS) (hon : S.on = true) (hf : -1 ≤ S.fuse ∧ S.fuse ≤ 9223372036854775807) (ho : 0 ≤ S.ops ∧ S.ops ≤ 1000000000) (g : Nat) (caps : Array Value) (hent : ∀ args w, (callFunc g args).run Tryz.prog w = .ok (.enter g args) w) (Q : World → Prop) (w : World) (h : Dk d A c S w)
    (hcl : ∀ W, Dk d A c (blow S).1 W → DKeep d w W → (blow S).2 = false → Calls Tryz.prog g caps W fun e w' => e = .returned (.tuple #[]) ∧ Q w') :
    Calls Tryz.prog 61 #[.pointer (some ⟨d, 0, none⟩), .func (.func g) #[] caps] w fun e w' => ((blow S).2 = true ∧ e = .returned (.int .i64 9) ∧ Dk d A c (blow S).1 w' ∧ DKeep d w w') ∨ ((blow S).2 = false ∧ e = .returned (.int .i64 0) ∧ Q w') := by
  have HB := Lib.hid (disk_blows d A c S hon hf ho w h)
  have HCL := Lib.hid hcl
  clear hcl h
  cases hb : (blow S).2 with
  | true =>
    rw [hb] at HB
    go_enter Tryz.func61, Tryz.ntmps61
    go_wp2_with (go_at_call 83; refine (HB.out).mono ?_; rintro e w1 ⟨rfl, q1, q2⟩)
    go_ret
    exact .inl ⟨trivial, rfl, q1, q2⟩
  | false =>
    rw [hb] at HB
    go_enter Tryz.func61, Tryz.ntmps61
    go_wp2_with (go_at_call 83; refine (HB.out).mono ?_; rintro e w1 ⟨rfl, q1, q2⟩)
    refine (HCL.out w1 q1 q2 hb).mono ?_
    rintro e w2 ⟨rfl, q3⟩
    go_wp2
    go_ret
    exact .inr ⟨trivial, rfl, q3⟩
/-- what is appended: the files -/
def putF (fs : List Fl) (nm s : ByteArray) : List Fl := match fs[pos fs nm]? with
  | some f => if has fs nm then fs.set (pos fs nm) { f with all := f.all ++ s } else fs.take (pos fs nm) ++ ⟨nm, ⟨#[]⟩ ++ s, 0⟩ :: fs.drop (pos fs nm)
  | none => fs.take (pos fs nm) ++ ⟨nm, ⟨#[]⟩ ++ s, 0⟩ :: fs.drop (pos fs nm)
def begun (S : DS) : DS × Int := ((blow S).1, if (blow S).2 then 9 else 0)
def appendD (S : DS) (nm s : ByteArray) : DS × Int :=
  if S.on = false then (S, 9) else if namedD nm = false then (S, 1)
  else if S.room - (used S.fs : Int) < (s.size : Int) ∨ (has S.fs nm = false ∧ 64 ≤ S.fs.length) then (S, 5)
  else begun { S with fs := putF S.fs nm s }
/-- what holds of a disk that is used as it is meant -/
structure OkD (S : DS) : Prop where
  sorted : Sorted S.fs
  many : S.fs.length ≤ 64
  sure : ∀ f ∈ S.fs, f.su ≤ f.all.size
  full : (used S.fs : Int) ≤ S.room
  room : 0 ≤ S.room ∧ S.room ≤ 9223372036854775807
  size : used S.fs ≤ 100000000
  fuse : -1 ≤ S.fuse ∧ S.fuse ≤ 9223372036854775807
  ops : 0 ≤ S.ops ∧ S.ops ≤ 1000000000
end Go.Proofs.YtcpmicinibfepaaGreatDoor

namespace Go.Proofs.YtcpmicinibfepaaGreatDoor
open Go.ChangeShapes Go.WideShapes Go.ChangeAt Go.RowKit Go.Deep DiskP


theorem disk_Append1 (W : World) : Calls Tryz.prog 62 #[] W fun e w' => e = .returned (.tuple #[]) ∧ W = w' := by
  go_enter Tryz.func62, Tryz.ntmps62
  go_wp2
  go_end0
  exact ⟨rfl, rfl⟩
/-- operate with nothing to do -/
theorem disk_op_none (d : Nat) (A : Option Addr) (c : Nat) (S : DS) (hon : S.on = true) (hf : -1 ≤ S.fuse ∧ S.fuse ≤ 9223372036854775807) (ho : 0 ≤ S.ops ∧ S.ops ≤ 1000000000) (w : World) (h : Dk d A c S w) :
    Calls Tryz.prog 61 #[.pointer (some ⟨d, 0, none⟩), .func (.func 62) #[] #[]] w (DPost d (begun S).1 (.int .i64 (begun S).2) w) := by
  refine (disk_operate d A c S hon hf ho 62 #[] (enters_of Tryz.func62 (by kernel_rfl) rfl) (fun W => Dk d A c (blow S).1 W ∧ DKeep d w W) w h (fun W h1 h2 _ => (disk_Append1 W).mono (by rintro e w' ⟨rfl, rfl⟩; exact ⟨rfl, h1, h2⟩))).mono ?_
  rintro e w' (⟨h1, rfl, h2, h3⟩ | ⟨h1, rfl, h2, h3⟩)
  · exact ⟨by unfold begun; rw [h1]; rfl, A, c, h2, h3⟩
  · exact ⟨by unfold begun; rw [h1]; rfl, A, c, h2, h3⟩

set_option maxRecDepth 100000 in
set_option maxHeartbeats 4000000 in
theorem disk_Append_bad (d : Nat) (A : Option Addr) (c : Nat) (S : DS) (hS : OkD S) (nm s : ByteArray) (hnm : nm.size ≤ 1000) (hs : s.size ≤ 1000000) (hbad : S.on = false ∨ namedD nm = false ∨ S.room - (used S.fs : Int) < (s.size : Int) ∨ (has S.fs nm = false ∧ 64 ≤ S.fs.length)) (w : World) (h : Dk d A c S w) :
    Calls Tryz.prog 39 #[.pointer (some ⟨d, 0, none⟩), .string nm, .string s] w fun e w' => e = .returned (.int .i64 (appendD S nm s).2) ∧ (appendD S nm s).1 = S ∧ Below w.heap.size w w' := by
  have hl : S.fs.length ≤ 1000 := by have := hS.many; omega
  have HF := Lib.hid (disk_find d A c S nm hS.sorted hl w h)
  have HN := Lib.hid (fun W => disk_named nm (by unfold maxLen; omega) W)
  have HD := Lib.hid h
  clear h
  unfold appendD
  cases hon : S.on with
  | false =>
    rw [if_pos rfl]
    go_enter Tryz.func39, Tryz.ntmps39
    go_wp2_with (first
      | (go_at_call 41; (with_reducible refine (HF.out).mono ?_); rintro e w1 ⟨rfl, b1⟩; have hd1 := HD.out.kept b1)
      | (go_at_call 30; refine (disk_On d A c S _ hd1).mono ?_; rintro e w2 ⟨rfl, rfl⟩; rw [hon]))
    go_ret
    exact ⟨rfl, trivial, b1⟩
  | true =>
    rw [if_neg (by simp)]
    cases hn : namedD nm with
    | false =>
      rw [if_pos rfl]
      rw [hn] at HN
      go_enter Tryz.func39, Tryz.ntmps39
      go_wp2_with (first
        | (go_at_call 41; (with_reducible refine (HF.out).mono ?_); rintro e w1 ⟨rfl, b1⟩; have hd1 := HD.out.kept b1)
        | (go_at_call 30; refine (disk_On d A c S _ hd1).mono ?_; rintro e w2 ⟨rfl, rfl⟩; rw [hon])
        | (go_at_call 58; (with_reducible refine (HN.out _).mono ?_); rintro e w3 ⟨rfl, b3⟩))
      go_ret
      exact ⟨rfl, trivial, by (repeat (first | assumption | exact Below.refl _ _ | refine below_step (by assumption) ?_ | refine below_alloc' _ ?_ | refine below_drewN ?_ _ | refine Below.drew ?_))⟩
    | true =>
      rw [if_neg (by simp)]
      rw [hn] at HN
      have hb2 : S.room - (used S.fs : Int) < (s.size : Int) ∨ (has S.fs nm = false ∧ 64 ≤ S.fs.length) := by simpa [hon, hn] using hbad
      rw [if_pos hb2]
      have hfull := hS.full
      have hroom := hS.room
      have HUS := Lib.hid (fun (W : World) (hd : Dk d A c S W) => disk_Used d A c S hl (by have := hS.size; omega) W hd)
      have HX := Lib.hid (fun (W : World) (hd : Dk d A c S W) (u : Later W.heap.size W) => And.intro ((u.h.cell (p := ⟨d, 0, none⟩) hd.lt).trans (bx_cells hd.box 0)) ((u.h.cell (p := ⟨d, 1, none⟩) hd.lt).trans (bx_cells hd.box 1)))
      have HKD := Lib.hid (fun (W : World) (hd : Dk d A c S W) (u : Later W.heap.size W) => HUS.out u.w (hd.kept u.h))
      clear hbad hS
      generalize used S.fs = U at HKD hb2 hfull
      generalize S.room = R at HX hb2 hfull hroom
      by_cases hc : R - (U : Int) < (s.size : Int)
      · have hdec : decide (R - (U : Int) < (s.size : Int)) = true := decide_eq_true hc
        clear hb2
        go_enter Tryz.func39, Tryz.ntmps39
        go_wp2_with (first
          | (go_at_call 41; (with_reducible refine (HF.out).mono ?_); rintro e w1 ⟨rfl, b1⟩; have hd1 := HD.out.kept b1)
          | (go_at_call 30; refine (disk_On d A c S _ hd1).mono ?_; rintro e w2 ⟨rfl, rfl⟩; rw [hon])
          | (go_at_call 58; (with_reducible refine (HN.out _).mono ?_); rintro e w3 ⟨rfl, b3⟩; have hd3 := hd1.kept b3))
        have F0 := fun u => (HX.out _ hd3 u).1
        have F1 := fun u => (HX.out _ hd3 u).2
        have HK3 := Lib.hid (HKD.out _ hd3)
        refine wp_region_later w3.heap.size (by kernel_rfl) (by kernel_rfl) ?_
        repeat (go_big_quiet_step ((go_at_call 59; exact later_of _ (Nat.le_refl _) (HK3.out _))))
        refine wpQuiet_nil ?_; intro _ hw'; obtain ⟨u, hw''⟩ := hw'; subst hw''
        go_wp2_with fail
        go_ret
        exact ⟨rfl, trivial, by have b9 := u.h; (repeat (first | assumption | exact Below.refl _ _ | refine below_step (by assumption) ?_ | refine below_alloc' _ ?_ | refine below_drewN ?_ _ | refine Below.drew ?_))⟩
      · obtain ⟨hh, h64⟩ : has S.fs nm = false ∧ 64 ≤ S.fs.length := by rcases hb2 with h | h; exact absurd h hc; exact h
        have hdec : decide (R - (U : Int) < (s.size : Int)) = false := decide_eq_false hc
        rw [hh] at HF
        have h64' : decide ((64 : Int) ≤ (S.fs.length : Int)) = true := decide_eq_true (by omega)
        clear hb2 hc
        go_enter Tryz.func39, Tryz.ntmps39
        go_wp2_with (first
          | (go_at_call 41; (with_reducible refine (HF.out).mono ?_); rintro e w1 ⟨rfl, b1⟩; have hd1 := HD.out.kept b1)
          | (go_at_call 30; refine (disk_On d A c S _ hd1).mono ?_; rintro e w2 ⟨rfl, rfl⟩; rw [hon])
          | (go_at_call 58; (with_reducible refine (HN.out _).mono ?_); rintro e w3 ⟨rfl, b3⟩; have hd3 := hd1.kept b3))
        have F0 := fun u => (HX.out _ hd3 u).1
        have F1 := fun u => (HX.out _ hd3 u).2
        have HK3 := Lib.hid (HKD.out _ hd3)
        refine wp_region_later w3.heap.size (by kernel_rfl) (by kernel_rfl) ?_
        repeat (go_big_quiet_step ((go_at_call 59; exact later_of _ (Nat.le_refl _) (HK3.out _))))
        refine wpQuiet_nil ?_; intro _ hw'; obtain ⟨u, hw''⟩ := hw'; subst hw''
        go_wp2_with fail
        go_ret
        exact ⟨rfl, trivial, by have b9 := u.h; (repeat (first | assumption | exact Below.refl _ _ | refine below_step (by assumption) ?_ | refine below_alloc' _ ?_ | refine below_drewN ?_ _ | refine Below.drew ?_))⟩
end Go.Proofs.YtcpmicinibfepaaGreatDoor

namespace Go.Proofs.YtcpmicinibfepaaGreatDoor
open Go.ChangeShapes Go.WideShapes Go.ChangeAt Go.RowKit Go.Deep DiskP


theorem used_mem {fs : List Fl} {f : Fl} {k : Nat} (h : fs[k]? = some f) : f.all.size ≤ used fs := by
  have h1 := used_take h
  have h2 := used_le fs (k + 1)
  omega
set_option maxRecDepth 100000 in
set_option maxHeartbeats 4000000 in
theorem disk_Append_has (d : Nat) (A : Option Addr) (c : Nat) (S : DS) (hS : OkD S) (nm s : ByteArray) (hnm : nm.size ≤ 1000) (hs : s.size ≤ 1000000) (hon : S.on = true) (hn : namedD nm = true) (hfit : ¬ S.room - (used S.fs : Int) < (s.size : Int)) (hh : has S.fs nm = true) (w : World) (h : Dk d A c S w) :
    Calls Tryz.prog 39 #[.pointer (some ⟨d, 0, none⟩), .string nm, .string s] w (DPost d (begun { S with fs := putF S.fs nm s }).1 (.int .i64 (begun { S with fs := putF S.fs nm s }).2) w) := by
  have hl : S.fs.length ≤ 1000 := by have := hS.many; omega
  have HF := Lib.hid (disk_find d A c S nm hS.sorted hl w h)
  have HN := Lib.hid (fun W => disk_named nm (by unfold maxLen; omega) W)
  have HD := Lib.hid h
  obtain ⟨f, hf, -⟩ := has_some hh
  have hp := (List.getElem?_eq_some_iff.1 hf).1
  obtain ⟨g, rfl, hdg, hgl⟩ := row_some h.row (by omega)
  have hput : putF S.fs nm s = S.fs.set (pos S.fs nm) { f with all := f.all ++ s } := by unfold putF; rw [hf]; simp [hh]
  rw [hput]
  have hfsz := used_mem hf
  have hU := hS.size
  have hroom := hS.room
  have hfull := hS.full
  have HFO := Lib.hid (And.intro hS.fuse hS.ops)
  have HUS := Lib.hid (fun (W : World) (hd : Dk d (some ⟨g, 0, none⟩) c S W) => disk_Used d _ c S hl (by omega) W hd)
  have HX := Lib.hid (fun (W : World) (hd : Dk d (some ⟨g, 0, none⟩) c S W) (u : Later W.heap.size W) => And.intro ((u.h.cell (p := ⟨d, 0, none⟩) hd.lt).trans (bx_cells hd.box 0)) ((u.h.cell (p := ⟨d, 1, none⟩) hd.lt).trans (bx_cells hd.box 1)))
  have HKD := Lib.hid (fun (W : World) (hd : Dk d (some ⟨g, 0, none⟩) c S W) (u : Later W.heap.size W) => HUS.out u.w (hd.kept u.h))
  rw [hn] at HN
  rw [hh] at HF
  generalize pos S.fs nm = p at HF hf hp ⊢
  have HP := Lib.hid (fun (W : World) (hd : Dk d (some ⟨g, 0, none⟩) c S W) => hd.row.cells (g := g) rfl (p * 3 + 1) (.string f.all) (by rw [fC_at _ p f hf 1 (by omega)]; rfl))
  have HST := Lib.hid (fun (W : World) (hd : Dk d (some ⟨g, 0, none⟩) c S W) => hd.set_file (k := p) (f' := { f with all := f.all ++ s }) (r := 1) (u := .string (f.all ++ s)) hf (by omega) rfl)
  clear h hS hput hf hh hn
  have HOP := Lib.hid (fun (W : World) (hd : Dk d (some ⟨g, 0, none⟩) c { S with fs := S.fs.set p { f with all := f.all ++ s } } W) => disk_op_none d _ c { S with fs := S.fs.set p { f with all := f.all ++ s } } hon HFO.out.1 HFO.out.2 W hd)
  have hdec : decide (S.room - (used S.fs : Int) < (s.size : Int)) = false := decide_eq_false hfit
  generalize used S.fs = U at HKD hfit hdec hfsz hU hfull
  have hi1 : (p : Int) < (S.fs.length : Int) := by omega
  clear hfit
  go_enter Tryz.func39, Tryz.ntmps39
  go_wp2_with (first
    | (go_at_call 41; (with_reducible refine (HF.out).mono ?_); rintro e w1 ⟨rfl, b1⟩; have hd1 := HD.out.kept b1)
    | (go_at_call 30; refine (disk_On d _ c S _ hd1).mono ?_; rintro e w2 ⟨rfl, rfl⟩; rw [hon])
    | (go_at_call 58; (with_reducible refine (HN.out _).mono ?_); rintro e w3 ⟨rfl, b3⟩; have hd3 := hd1.kept b3))
  have F0 := fun u => (HX.out _ hd3 u).1
  have F1 := fun u => (HX.out _ hd3 u).2
  have HK3 := Lib.hid (HKD.out _ hd3)
  refine wp_region_later w3.heap.size (by kernel_rfl) (by kernel_rfl) ?_
  repeat (go_big_quiet_step ((go_at_call 59; exact later_of _ (Nat.le_refl _) (HK3.out _))))
  refine wpQuiet_nil ?_; intro _ hw'; obtain ⟨u, hw''⟩ := hw'; subst hw''
  have hdu := hd3.kept u.h
  have y0 := bx_cells hdu.box 0
  have y1 := HP.out _ hdu
  rw [fl_add_0] at y1
  have y2 := hdu.row.frozenAt (p * 3 + 1)
  obtain ⟨hd5, hk5⟩ := HST.out _ hdu
  have HOP5 := Lib.hid (HOP.out _ hd5)
  clear F0 F1 HOP HST HP HX HKD HF
  have hBu : Below w.heap.size w u.w := by have b9 := u.h; (repeat (first | assumption | exact Below.refl _ _ | refine below_step (by assumption) ?_ | refine below_alloc' _ ?_ | refine below_drewN ?_ _ | refine Below.drew ?_))
  go_wp2_with (go_at_call 61; refine (HOP5.out).mono ?_; rintro e w6 ⟨rfl, A6, c6, hd6, hk6⟩)
  go_ret
  exact ⟨(by rw [hon]; rfl), A6, c6, hd6, (DKeep.of_below hBu (Nat.le_of_lt HD.out.lt)).trans (hk5.trans hk6)⟩
theorem ins_facts {d c q : Nat} {A A4 : Option Addr} {c4 : Nat} {S : DS} {u w4 : World} {tmp : Obj} {ins : List Fl} (hd : Dk d A c S u) (hq : ins.length = q) (hq0 : 0 < q)
    (o4 : w4.ownsRow (d + 1) 81 3 (.slice A4 q c4) q (ins.flatMap fC)) (g4 : (u.alloc tmp).grownBy w4 (Value.ownBlock (.slice A S.fs.length c))) :
    w4.cell? ⟨d, 0, none⟩ = some (.slice A S.fs.length c) ∧ w4.frozen? ⟨d, 0, none⟩ = false ∧ (∃ g, A4 = some ⟨g, 0, none⟩) ∧ Dk d A4 c4 { S with fs := ins } (w4.setCell ⟨d, 0, none⟩ (.slice A4 q c4)) ∧ DKeep d u (w4.setCell ⟨d, 0, none⟩ (.slice A4 q c4)) := by
  subst hq
  have hne : some d ≠ Value.ownBlock (.slice A S.fs.length c) := fun e => by have := (hd.row.lt d e.symm).1; omega
  have hb : w4.heap[d]? = some (.cells #[.slice A S.fs.length c, .int .i64 S.room, .bool S.made, .bool S.on, .int .i64 S.fuse, .int .i64 S.ops] 71 (0, 0)) :=
    (g4.block d (by rw [World.size_alloc]; have := hd.lt; omega) hne).trans ((Below.heap_alloc u tmp d hd.lt).trans hd.box)
  obtain ⟨g, hg, _, _⟩ := row_some o4 hq0
  refine ⟨bx_cells hb 0, bx_free hb 0, ⟨g, hg⟩, ⟨by simpa using bx_set hb 0 (.slice A4 ins.length c4), dk_row_other o4 _⟩, ?_⟩
  have k1 : DKeep d (u.alloc tmp) w4 := dkeep_grown (hd.row.alloc tmp) g4 (by rw [World.size_alloc]; have := hd.lt; omega)
  exact ((DKeep.of_below (below_alloc' tmp (Below.refl _ u)) (Nat.le_of_lt hd.lt)).trans k1).trans (dkeep_set _)
theorem ins_at (fs : List Fl) (f : Fl) (p : Nat) (hp : p ≤ fs.length) : (fs.take p ++ f :: fs.drop p)[p]? = some f := by
  rw [List.getElem?_append_right (by rw [List.length_take]; omega), List.length_take, show p - min p fs.length = 0 by omega]
  rfl
theorem ins_set (fs : List Fl) (f f' : Fl) (p : Nat) (hp : p ≤ fs.length) : (fs.take p ++ f :: fs.drop p).set p f' = fs.take p ++ f' :: fs.drop p := by
  rw [List.set_append_right _ _ (by rw [List.length_take]; omega), List.length_take, show p - min p fs.length = 0 by omega]
  rfl
theorem ins_len (fs : List Fl) (f : Fl) (p : Nat) (hp : p ≤ fs.length) : (fs.take p ++ f :: fs.drop p).length = fs.length + 1 := by
  rw [List.length_append, List.length_cons, List.length_take, List.length_drop]; omega
set_option maxRecDepth 100000 in
set_option maxHeartbeats 4000000 in
theorem disk_Append_new (d : Nat) (A : Option Addr) (c : Nat) (S : DS) (hS : OkD S) (nm s : ByteArray) (hnm : nm.size ≤ 1000) (hs : s.size ≤ 1000000) (hon : S.on = true) (hn : namedD nm = true) (hfit : ¬ S.room - (used S.fs : Int) < (s.size : Int)) (hh : has S.fs nm = false) (h64 : S.fs.length < 64) (w : World) (h : Dk d A c S w) :
    Calls Tryz.prog 39 #[.pointer (some ⟨d, 0, none⟩), .string nm, .string s] w (DPost d (begun { S with fs := putF S.fs nm s }).1 (.int .i64 (begun { S with fs := putF S.fs nm s }).2) w) := by
  have hl : S.fs.length ≤ 1000 := by omega
  have HF := Lib.hid (disk_find d A c S nm hS.sorted hl w h)
  have HN := Lib.hid (fun W => disk_named nm (by unfold maxLen; omega) W)
  have HD := Lib.hid h
  have hp := pos_le S.fs nm
  have hput : putF S.fs nm s = S.fs.take (pos S.fs nm) ++ ⟨nm, ⟨#[]⟩ ++ s, 0⟩ :: S.fs.drop (pos S.fs nm) := by unfold putF; split <;> simp [hh]
  rw [hput]
  have hU := hS.size
  have hroom := hS.room
  have hfull := hS.full
  have HFO := Lib.hid (And.intro hS.fuse hS.ops)
  have HUS := Lib.hid (fun (W : World) (hd : Dk d A c S W) => disk_Used d _ c S hl (by omega) W hd)
  have HX := Lib.hid (fun (W : World) (hd : Dk d A c S W) (u : Later W.heap.size W) => And.intro ((u.h.cell (p := ⟨d, 0, none⟩) hd.lt).trans (bx_cells hd.box 0)) ((u.h.cell (p := ⟨d, 1, none⟩) hd.lt).trans (bx_cells hd.box 1)))
  have HKD := Lib.hid (fun (W : World) (hd : Dk d A c S W) (u : Later W.heap.size W) => HUS.out u.w (hd.kept u.h))
  rw [hn] at HN
  rw [hh] at HF
  generalize pos S.fs nm = p at HF hp ⊢
  have HINS := Lib.hid (fun (W : World) (hd : Dk d A c S W) (b : Nat) (hb : b = W.heap.size) => (by
    subst hb
    exact disk_insert (d + 1) A c W.heap.size p S.fs ⟨nm, ⟨#[]⟩, 0⟩ (by omega) hp (W.alloc (.cells #[.string nm, .string ⟨#[]⟩, .int .i64 0] 81)) (hd.row.alloc _) (by rw [World.size_alloc]; have := hd.lt; omega) (heap_alloc_new W _) (fun e => by have := (hd.row.lt _ e).2; omega) :
      Calls Tryz.prog 60 #[.slice A S.fs.length c, .int .i64 p, .slice (some ⟨b, 0, none⟩) 1 1] (W.alloc (.cells #[.string nm, .string ⟨#[]⟩, .int .i64 0] 81)) fun e w' => ∃ A' c', e = .returned (.slice A' (S.fs.length + 1) c') ∧ w'.ownsRow (d + 1) 81 3 (.slice A' (S.fs.length + 1) c') (S.fs.length + 1) ((S.fs.take p ++ ⟨nm, ⟨#[]⟩, 0⟩ :: S.fs.drop p).flatMap fC) ∧ (W.alloc (.cells #[.string nm, .string ⟨#[]⟩, .int .i64 0] 81)).grownBy w' (Value.ownBlock (.slice A S.fs.length c))))
  obtain ⟨I, hI⟩ : ∃ I, S.fs.take p ++ ⟨nm, ⟨#[]⟩, 0⟩ :: S.fs.drop p = I := ⟨_, rfl⟩
  have hIl : I.length = S.fs.length + 1 := by rw [← hI]; exact ins_len _ _ _ hp
  have hIa : I[p]? = some ⟨nm, ⟨#[]⟩, 0⟩ := by rw [← hI]; exact ins_at _ _ _ hp
  have hIs : I.set p ⟨nm, ⟨#[]⟩ ++ s, 0⟩ = S.fs.take p ++ ⟨nm, ⟨#[]⟩ ++ s, 0⟩ :: S.fs.drop p := by rw [← hI]; exact ins_set _ _ _ _ hp
  rw [← hIs]
  rw [hI] at HINS
  have HIL := Lib.hid hIl
  have HFACT := Lib.hid (fun (W : World) (hd : Dk d A c S W) (tmp : Obj) (w4 : World) (A4 : Option Addr) (c4 : Nat) o4 (g4 : (W.alloc tmp).grownBy w4 (Value.ownBlock (.slice A S.fs.length c))) => ins_facts (c4 := c4) (A4 := A4) hd hIl (by omega) o4 g4)
  have HP := Lib.hid (fun (W : World) (g c4 : Nat) (hd : Dk d (some ⟨g, 0, none⟩) c4 { S with fs := I } W) => hd.row.cells (g := g) rfl (p * 3 + 1) (.string ⟨#[]⟩) (by rw [fC_at _ p _ hIa 1 (by omega)]; rfl))
  have HST := Lib.hid (fun (W : World) (g c4 : Nat) (hd : Dk d (some ⟨g, 0, none⟩) c4 { S with fs := I } W) => hd.set_file (k := p) (f' := ⟨nm, ⟨#[]⟩ ++ s, 0⟩) (r := 1) (u := .string (⟨#[]⟩ ++ s)) hIa (by omega) rfl)
  have HOP := Lib.hid (fun (W : World) (g c4 : Nat) (hd : Dk d (some ⟨g, 0, none⟩) c4 { S with fs := I.set p ⟨nm, ⟨#[]⟩ ++ s, 0⟩ } W) => disk_op_none d _ c4 { S with fs := I.set p ⟨nm, ⟨#[]⟩ ++ s, 0⟩ } hon HFO.out.1 HFO.out.2 W hd)
  have hip : p < I.length := by omega
  have hip2 : (p : Int) < (I.length : Int) := by omega
  clear h hS hput hh hn hIs hIa hI hIl
  have hdec : decide (S.room - (used S.fs : Int) < (s.size : Int)) = false := decide_eq_false hfit
  have hdec2 : decide ((64 : Int) ≤ (S.fs.length : Int)) = false := by rw [decide_eq_false_iff_not]; omega
  generalize used S.fs = U at HKD hfit hdec hU hfull
  have hi1 : (p : Int) < (S.fs.length : Int) + 1 := by omega
  clear hfit
  go_enter Tryz.func39, Tryz.ntmps39
  go_wp2_with (first
    | (go_at_call 41; (with_reducible refine (HF.out).mono ?_); rintro e w1 ⟨rfl, b1⟩; have hd1 := HD.out.kept b1)
    | (go_at_call 30; refine (disk_On d _ c S _ hd1).mono ?_; rintro e w2 ⟨rfl, rfl⟩; rw [hon])
    | (go_at_call 58; (with_reducible refine (HN.out _).mono ?_); rintro e w3 ⟨rfl, b3⟩; have hd3 := hd1.kept b3))
  have F0 := fun u => (HX.out _ hd3 u).1
  have F1 := fun u => (HX.out _ hd3 u).2
  have HK3 := Lib.hid (HKD.out _ hd3)
  refine wp_region_later w3.heap.size (by kernel_rfl) (by kernel_rfl) ?_
  repeat (go_big_quiet_step ((go_at_call 59; exact later_of _ (Nat.le_refl _) (HK3.out _))))
  refine wpQuiet_nil ?_; intro _ hw'; obtain ⟨u, hw''⟩ := hw'; subst hw''
  have hdu := hd3.kept u.h
  have hBu : Below w.heap.size w u.w := by have b9 := u.h; (repeat (first | assumption | exact Below.refl _ _ | refine below_step (by assumption) ?_ | refine below_alloc' _ ?_ | refine below_drewN ?_ _ | refine Below.drew ?_))
  generalize u.w = W at hdu hBu ⊢
  have y0 := bx_cells hdu.box 0
  have HI2 := Lib.hid (HINS.out _ hdu _ rfl)
  have HFA := Lib.hid (HFACT.out _ hdu)
  clear F0 F1 HX HKD HF HINS HFACT HK3
  go_wp2_with (first
    | (go_at_call 60; refine (HI2.out).mono ?_; rintro e w4 ⟨A4, c4, rfl, o4, g4⟩; obtain ⟨z0, z1, ⟨g, rfl⟩, hd5, hk5⟩ := HFA.out _ _ _ _ o4 g4; have z2 := bx_cells hd5.box 0; have y1 := HP.out _ _ _ hd5; rw [fl_add_0] at y1; have y2 := hd5.row.frozenAt (p * 3 + 1); obtain ⟨hd6, hk6⟩ := HST.out _ _ _ hd5; have HOP6 := Lib.hid (HOP.out _ _ _ hd6))
    | (go_at_call 61; refine (HOP6.out).mono ?_; rintro e w7 ⟨rfl, A7, c7, hd7, hk7⟩))
  go_ret
  exact ⟨(by rw [hon]; rfl), A7, c7, hd7, (DKeep.of_below hBu (Nat.le_of_lt HD.out.lt)).trans (hk5.trans (hk6.trans hk7))⟩
end Go.Proofs.YtcpmicinibfepaaGreatDoor

namespace Go.Proofs.YtcpmicinibfepaaGreatDoor
open Go.ChangeShapes Go.WideShapes Go.ChangeAt Go.RowKit Go.Deep DiskP


theorem blow_fs (S : DS) : (blow S).1.fs = S.fs ∧ (blow S).1.room = S.room ∧ (blow S).1.made = S.made := by
  unfold blow
  split
  · exact ⟨rfl, rfl, rfl⟩
  · split <;> exact ⟨rfl, rfl, rfl⟩
/-- an operation that turns the files, unless it crashes ahead of it -/
def opD (S : DS) (t : List Fl → List Fl) : DS × Int := if (blow S).2 then ((blow S).1, 9) else ({ (blow S).1 with fs := t S.fs }, 0)
def modF (fs : List Fl) (nm : ByteArray) (t : Fl → Fl) : List Fl := match fs[pos fs nm]? with
  | some f => fs.set (pos fs nm) (t f)
  | none => fs
def syncD (S : DS) (nm : ByteArray) : DS × Int :=
  if S.on = false then (S, 9) else if has S.fs nm = false then (S, 7) else opD S fun fs => modF fs nm fun f => { f with su := f.all.size }
theorem disk_op_with (d : Nat) (A : Option Addr) (c : Nat) (S : DS) (hon : S.on = true) (hf : -1 ≤ S.fuse ∧ S.fuse ≤ 9223372036854775807) (ho : 0 ≤ S.ops ∧ S.ops ≤ 1000000000) (g : Nat) (caps : Array Value) (hent : ∀ args w, (callFunc g args).run Tryz.prog w = .ok (.enter g args) w) (t : List Fl → List Fl) (w : World) (h : Dk d A c S w)
    (hcl : ∀ W, Dk d A c (blow S).1 W → DKeep d w W → Calls Tryz.prog g caps W (DPost d { (blow S).1 with fs := t S.fs } (.tuple #[]) W)) :
    Calls Tryz.prog 61 #[.pointer (some ⟨d, 0, none⟩), .func (.func g) #[] caps] w (DPost d (opD S t).1 (.int .i64 (opD S t).2) w) := by
  refine (disk_operate d A c S hon hf ho g caps hent (fun W => ∃ A c, Dk d A c { (blow S).1 with fs := t S.fs } W ∧ DKeep d w W) w h (fun W h1 h2 _ => (hcl W h1 h2).mono ?_)).mono ?_
  · rintro e w' ⟨rfl, A', c', q1, q2⟩
    exact ⟨rfl, A', c', q1, h2.trans q2⟩
  · rintro e w' (⟨h1, rfl, h2, h3⟩ | ⟨h1, rfl, A', c', h2, h3⟩)
    · exact ⟨by unfold opD; rw [if_pos h1], A, c, by unfold opD; rw [if_pos h1]; exact h2, h3⟩
    · exact ⟨by unfold opD; rw [if_neg (by simp [h1])], A', c', by unfold opD; rw [if_neg (by simp [h1])]; exact h2, h3⟩

set_option maxRecDepth 100000 in
theorem disk_Sync1 (d b0 b5 k : Nat) (A : Option Addr) (c : Nat) (S : DS) (f : Fl) (hk : S.fs[k]? = some f) (hl : S.fs.length ≤ 1000) (W : World) (h : Dk d A c S W) (h0 : W.heap[b0]? = some (.cells #[.pointer (some ⟨d, 0, none⟩)] 25 (0, 0))) (h5 : W.heap[b5]? = some (.cells #[.int .i64 k] 3 (0, 0))) :
    Calls Tryz.prog 78 #[.pointer (some ⟨b0, 0, none⟩), .pointer (some ⟨b5, 0, none⟩)] W (DPost d { S with fs := S.fs.set k { f with su := f.all.size } } (.tuple #[]) W) := by
  have hp := (List.getElem?_eq_some_iff.1 hk).1
  obtain ⟨g, rfl, hdg, hgl⟩ := row_some h.row (by omega)
  have x0 := bx_cells h0 0
  have x5 := bx_cells h5 0
  have y0 := bx_cells h.box 0
  have y1 := h.row.cells (g := g) rfl (k * 3 + 1) (.string f.all) (by rw [fC_at _ k f hk 1 (by omega)]; rfl)
  have y2 := h.row.cells (g := g) rfl (k * 3 + 2) (.int .i64 (f.su : Int)) (by rw [fC_at _ k f hk 2 (by omega)]; rfl)
  rw [fl_add_0] at y1 y2
  have y3 := h.row.frozenAt (k * 3 + 2)
  have hd' : Dk d (some ⟨g, 0, none⟩) c S W.drew := ⟨h.box, h.row.drew⟩
  obtain ⟨q1, q2⟩ := hd'.set_file (k := k) (f' := { f with su := f.all.size }) (r := 2) (u := .int .i64 (f.all.size : Nat)) hk (by omega) rfl
  have q3 : DKeep d W W.drew := DKeep.of_below ((Below.refl _ W).drew) (Nat.le_of_lt h.lt)
  have hi1 : (k : Int) < (S.fs.length : Int) := by omega
  clear hk h hd' h0 h5
  go_enter Tryz.func78, Tryz.ntmps78
  go_wp2_with fail
  go_region
  go_wp2_with fail
  go_end0
  exact ⟨rfl, _, c, q1, q3.trans q2⟩
theorem alloc_kept (w : World) (o : Obj) : Below w.heap.size w (w.alloc o) := below_alloc' o (Below.refl _ w)
set_option maxRecDepth 100000 in
set_option maxHeartbeats 4000000 in
theorem disk_Sync (d : Nat) (A : Option Addr) (c : Nat) (S : DS) (hS : OkD S) (nm : ByteArray) (w : World) (h : Dk d A c S w) :
    Calls Tryz.prog 53 #[.pointer (some ⟨d, 0, none⟩), .string nm] w (DPost d (syncD S nm).1 (.int .i64 (syncD S nm).2) w) := by
  have hl : S.fs.length ≤ 1000 := by have := hS.many; omega
  have HF := Lib.hid (disk_find d A c S nm hS.sorted hl (w.alloc (.cells #[.pointer (some ⟨d, 0, none⟩)] 25)) (h.kept (alloc_kept w _)))
  have HD := Lib.hid h
  have hb0 := heap_alloc_new w (.cells #[.pointer (some ⟨d, 0, none⟩)] 25)
  have HB0 := Lib.hid (fun (W : World) (hb : Below (w.heap.size + 1) (w.alloc (.cells #[.pointer (some ⟨d, 0, none⟩)] 25)) W) => (hb.block w.heap.size (by omega)).trans hb0)
  have HD0 := Lib.hid (fun (W : World) (hb : Below (w.heap.size + 1) (w.alloc (.cells #[.pointer (some ⟨d, 0, none⟩)] 25)) W) => ((h.kept (alloc_kept w (.cells #[.pointer (some ⟨d, 0, none⟩)] 25))).kept (by rw [World.size_alloc]; exact hb) : Dk d A c S W))
  have hsz : (w.alloc (.cells #[.pointer (some ⟨d, 0, none⟩)] 25)).heap.size = w.heap.size + 1 := World.size_alloc w _
  have hdl := h.lt
  have HFO := Lib.hid (And.intro hS.fuse hS.ops)
  have hB : ∀ w1, Below (w.heap.size + 1) (w.alloc (.cells #[.pointer (some ⟨d, 0, none⟩)] 25)) w1 → ∀ u : Value, Below (w.heap.size + 1) (w.alloc (.cells #[.pointer (some ⟨d, 0, none⟩)] 25)) (w1.alloc (.cells #[u] 3)) := fun w1 b1 u =>
    b1.alloc (by have := b1.size; rw [hsz] at this; exact this) _
  have HBB := Lib.hid hB
  unfold syncD
  cases hon : S.on with
  | false =>
    rw [if_pos rfl]
    generalize hp : pos S.fs nm = p at HF
    go_enter Tryz.func53, Tryz.ntmps53
    go_wp2_with (first
      | (go_at_call 41; (with_reducible refine (HF.out).mono ?_); rintro e w1 ⟨rfl, b1⟩; rw [hsz] at b1; have e0 := bx_cells (HB0.out _ b1) 0; have bB := HBB.out _ b1 (.int .i64 p); have e1 := bx_cells (HB0.out _ bB) 0; have hd1 := HD0.out _ bB)
      | (go_at_call 30; refine (disk_On d A c S _ hd1).mono ?_; rintro e w2 ⟨rfl, rfl⟩; rw [hon]))
    go_ret
    exact ⟨rfl, A, c, hd1, DKeep.of_below ((alloc_kept w _).trans (bB.mono (by omega))) (Nat.le_of_lt hdl)⟩
  | true =>
    rw [if_neg (by simp)]
    cases hh : has S.fs nm with
    | false =>
      rw [if_pos rfl]
      rw [hh] at HF
      generalize hp : pos S.fs nm = p at HF
      go_enter Tryz.func53, Tryz.ntmps53
      go_wp2_with (first
        | (go_at_call 41; (with_reducible refine (HF.out).mono ?_); rintro e w1 ⟨rfl, b1⟩; rw [hsz] at b1; have e0 := bx_cells (HB0.out _ b1) 0; have bB := HBB.out _ b1 (.int .i64 p); have e1 := bx_cells (HB0.out _ bB) 0; have hd1 := HD0.out _ bB)
        | (go_at_call 30; refine (disk_On d A c S _ hd1).mono ?_; rintro e w2 ⟨rfl, rfl⟩; rw [hon]))
      go_ret
      exact ⟨rfl, A, c, hd1, DKeep.of_below ((alloc_kept w _).trans (bB.mono (by omega))) (Nat.le_of_lt hdl)⟩
    | true =>
      rw [if_neg (by simp)]
      rw [hh] at HF
      obtain ⟨f, hf, -⟩ := has_some hh
      have hmod : (modF S.fs nm fun f => { f with su := f.all.size }) = S.fs.set (pos S.fs nm) { f with su := f.all.size } := by unfold modF; rw [hf]
      generalize hp : pos S.fs nm = p at HF hf hmod
      have HOP := Lib.hid (fun (W : World) (b5 : Nat) (hd : Dk d A c S W) (h0 : W.heap[w.heap.size]? = some (.cells #[.pointer (some ⟨d, 0, none⟩)] 25 (0, 0))) (h5 : W.heap[b5]? = some (.cells #[.int .i64 p] 3 (0, 0))) (hb5 : b5 ≠ d) =>
        disk_op_with d A c S hon hS.fuse hS.ops 78 #[.pointer (some ⟨w.heap.size, 0, none⟩), .pointer (some ⟨b5, 0, none⟩)] (enters_of Tryz.func78 (by kernel_rfl) rfl) (fun fs => modF fs nm fun f => { f with su := f.all.size }) W hd
          (fun X h1 h2 => by
            rw [hmod]
            obtain ⟨q1, _, _⟩ := blow_fs S
            have := disk_Sync1 d w.heap.size b5 p A c (blow S).1 f (by rw [q1]; exact hf) (by rw [q1]; exact hl) X h1 (dkeep_box h2 h0 (by omega) (by decide)) (dkeep_box h2 h5 hb5 (by decide))
            rw [q1] at this
            exact this))
      clear hf hmod hS h hb0 hB
      generalize opD S (fun fs => modF fs nm fun f => { f with su := f.all.size }) = R at HOP ⊢
      go_enter Tryz.func53, Tryz.ntmps53
      go_wp2_with (first
        | (go_at_call 41; (with_reducible refine (HF.out).mono ?_); rintro e w1 ⟨rfl, b1⟩; rw [hsz] at b1; have e0 := bx_cells (HB0.out _ b1) 0; have bB := HBB.out _ b1 (.int .i64 p); have e1 := bx_cells (HB0.out _ bB) 0; have hd1 := HD0.out _ bB; have HOP1 := Lib.hid (HOP.out _ w1.heap.size hd1 (HB0.out _ bB) (heap_alloc_new w1 _) (by have := b1.size; rw [hsz] at this; omega)))
        | (go_at_call 30; refine (disk_On d A c S _ hd1).mono ?_; rintro e w2 ⟨rfl, rfl⟩; rw [hon])
        | (go_at_call 61; refine (HOP1.out).mono ?_; rintro e w6 ⟨rfl, A6, c6, hd6, hk6⟩))
      go_ret
      exact ⟨rfl, A6, c6, hd6, (DKeep.of_below ((alloc_kept w _).trans (bB.mono (by omega))) (Nat.le_of_lt hdl)).trans hk6⟩
end Go.Proofs.YtcpmicinibfepaaGreatDoor
