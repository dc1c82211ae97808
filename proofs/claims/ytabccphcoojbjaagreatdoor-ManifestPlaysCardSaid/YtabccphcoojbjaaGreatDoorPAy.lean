/- Walks of layer 7 (disk): Rename. -/
import Derived.Test.YtabccphcoojbjaaGreatDoorPAx
import Derived.Deep.RegionWith
namespace Go.Proofs.YtabccphcoojbjaaGreatDoor
open Go.ChangeShapes Go.WideShapes Go.ChangeAt Go.RowKit Go.Deep DiskP


/-- the files behind a Rename -/
def renF (fs : List Fl) (from_ to_ : ByteArray) : List Fl :=
  let F2 := delF (delF fs from_) to_
  F2.take (pos F2 to_) ++ { fileF fs from_ with nm := to_ } :: F2.drop (pos F2 to_)
def renameD (S : DS) (from_ to_ : ByteArray) : DS × Int :=
  if S.on = false then (S, 9) else if has S.fs from_ = false then (S, 7) else if namedD to_ = false then (S, 1) else opD S fun fs => renF fs from_ to_
theorem own_box {w : World} {d b n c : Nat} {A : Option Addr} {xs : List Value} {cs : Array Value} {T : TypeId} (ho : w.ownsRow (d + 1) 80 3 (.slice A n c) n xs) (hb : w.heap[b]? = some (.cells cs T (0, 0))) (hT : T ≠ 80) (m k : Nat) : Value.ownBlock (.slice A m k) ≠ some b := by
  rcases ho.2 with ⟨e1, _⟩ | ⟨g, cap, cur, e1, _, hgb, _⟩
  · obtain ⟨rfl, -⟩ : A = none ∧ n = 0 ∧ c = 0 := by simpa using e1
    simp [Value.ownBlock]
  · obtain ⟨rfl, -⟩ : A = some ⟨g, 0, none⟩ ∧ c = cap := by simpa using e1
    intro e
    obtain rfl : g = b := by simpa [Value.ownBlock] using e
    rw [hgb] at hb
    simp at hb
    exact hT hb.2.symm
theorem ren_facts {d c : Nat} {A : Option Addr} {S : DS} {F1 F2 : List Fl} {W w1 w2 : World} {v0 v1 v2 : Value} {to_ : ByteArray} (_hdl : d < W.heap.size) (hws : W.heap.size ≤ w1.heap.size) (q1 : Dk d A c { S with fs := F1 } w1) (k1a : DKeep d W (w1.alloc (.cells #[v0, v1, v2] 80))) (d1 : Dk d A c { S with fs := F1 } (w1.alloc (.cells #[v0, v1, v2] 80)))
    (q2 : Dk d A c { S with fs := F2 } w2) (r2 : RKeep d (Value.ownBlock (.slice A F1.length c)) (w1.alloc (.cells #[v0, v1, v2] 80)) w2) :
    DKeep d W (w2.setCell ⟨w1.heap.size, 0, none⟩ (.string to_)) ∧ w2.heap[w1.heap.size]? = some (.cells #[v0, v1, v2] 80 (0, 0)) ∧ (w2.setCell ⟨w1.heap.size, 0, none⟩ (.string to_)).heap[w1.heap.size]? = some (.cells #[.string to_, v1, v2] 80 (0, 0)) ∧ Dk d A c { S with fs := F2 } (w2.setCell ⟨w1.heap.size, 0, none⟩ (.string to_)) := by
  have hd1 := q1.lt
  have hne : Value.ownBlock (.slice A F1.length c) ≠ some w1.heap.size := fun e => by have := (q1.row.lt _ e).2; omega
  have n3 : w2.heap[w1.heap.size]? = some (.cells #[v0, v1, v2] 80 (0, 0)) := (r2.others w1.heap.size hd1 (by rw [World.size_alloc]; omega) hne).trans (heap_alloc_new w1 _)
  refine ⟨(k1a.trans (r2.keep d1.row)).set_new hws (Nat.le_of_lt hd1) 0 _, n3, by simpa using bx_set n3 0 (.string to_), q2.set_other (b := w1.heap.size) (by omega) (by rw [own_same A _ F1.length c c]; exact hne) 0 _⟩

set_option maxRecDepth 100000 in
set_option maxHeartbeats 4000000 in
theorem disk_Rename1 (d b0 b1 b2 : Nat) (A : Option Addr) (c : Nat) (S : DS) (hs : Sorted S.fs) (hl : S.fs.length ≤ 64) (fr to_ : ByteArray) (W : World) (h : Dk d A c S W) (h0 : W.heap[b0]? = some (.cells #[.pointer (some ⟨d, 0, none⟩)] 33 (0, 0))) (h1 : W.heap[b1]? = some (.cells #[.string fr] 9 (0, 0))) (h2 : W.heap[b2]? = some (.cells #[.string to_] 9 (0, 0))) (n0 : b0 ≠ d) (n1 : b1 ≠ d) (n2 : b2 ≠ d) :
    Calls Tryz.prog 85 #[.pointer (some ⟨b0, 0, none⟩), .pointer (some ⟨b1, 0, none⟩), .pointer (some ⟨b2, 0, none⟩)] W (DPost d { S with fs := renF S.fs fr to_ } (.tuple #[]) W) := by
  obtain ⟨F1, hF1⟩ : ∃ F1, delF S.fs fr = F1 := ⟨_, rfl⟩
  have l1 : F1.length ≤ 64 := by have := (delF_sub S.fs fr).length_le; rw [hF1] at this; omega
  have s1 : Sorted F1 := by rw [← hF1]; exact sorted_del hs fr
  obtain ⟨F2, hF2⟩ : ∃ F2, delF F1 to_ = F2 := ⟨_, rfl⟩
  have l2 : F2.length ≤ 64 := by have := (delF_sub F1 to_).length_le; rw [hF2] at this; omega
  have s2 : Sorted F2 := by rw [← hF2]; exact sorted_del s1 to_
  obtain ⟨f0, hf0⟩ : ∃ f0, fileF S.fs fr = f0 := ⟨_, rfl⟩
  have hren : renF S.fs fr to_ = F2.take (pos F2 to_) ++ { f0 with nm := to_ } :: F2.drop (pos F2 to_) := by unfold renF; simp only [hF1, hF2, hf0]
  rw [hren]
  have HT1 := Lib.hid (disk_take' d A c S hs (by omega) fr W h)
  rw [hF1, hf0] at HT1
  unfold flV at HT1
  have HB := Lib.hid (fun (X : World) (k : DKeep d W X) => And.intro (dkeep_box k h0 n0 (by decide)) (And.intro (dkeep_box k h1 n1 (by decide)) (dkeep_box k h2 n2 (by decide))))
  have HT2 := Lib.hid (fun (X : World) (hd : Dk d A c { S with fs := F1 } X) => disk_take' d A c { S with fs := F1 } s1 (by show F1.length ≤ 900; omega) to_ X hd)
  simp only [hF2] at HT2
  have hp := pos_le F2 to_
  have HFI := Lib.hid (fun (X : World) (hd : Dk d A c { S with fs := F2 } X) => disk_find d A c { S with fs := F2 } to_ s2 (by show F2.length ≤ 1000; omega) X hd)
  simp only at HFI
  generalize pos F2 to_ = p at HFI hp ⊢
  have HROW := Lib.hid h.row
  have HREN := Lib.hid (fun (w1 w2 : World) (hws : W.heap.size ≤ w1.heap.size) (q1 : Dk d A c { S with fs := F1 } w1) (k1a : DKeep d W (w1.alloc (.cells #[.string f0.nm, .string f0.all, .int .i64 (f0.su : Int)] 80))) (d1 : Dk d A c { S with fs := F1 } (w1.alloc (.cells #[.string f0.nm, .string f0.all, .int .i64 (f0.su : Int)] 80)))
    (q2 : Dk d A c { S with fs := F2 } w2) (r2 : RKeep d (Value.ownBlock (.slice A F1.length c)) (w1.alloc (.cells #[.string f0.nm, .string f0.all, .int .i64 (f0.su : Int)] 80)) w2) => ren_facts (F1 := F1) (F2 := F2) (to_ := to_) h.lt hws q1 k1a d1 q2 r2)
  have HDL := Lib.hid h.lt
  have x0 := bx_cells h0 0
  have x1 := bx_cells h1 0
  have x2 := bx_cells h2 0
  have HW0 := Lib.hid (And.intro h0 (And.intro h1 h2))
  clear hF1 hF2 hf0 hren h s1 s2 hs h0 h1 h2
  go_enter Tryz.func85, Tryz.ntmps85
  go_wp2_with (first
    | (go_at_call 83; (with_reducible refine (HT1.out).mono ?_); rintro e w1 ⟨rfl, q1, r1⟩; have k1 := r1.keep HROW.out; have k1a := k1.trans (DKeep.of_below (alloc_kept w1 (.cells #[.string f0.nm, .string f0.all, .int .i64 (f0.su : Int)] 80)) (Nat.le_of_lt q1.lt)); have d1 := q1.kept (alloc_kept w1 (.cells #[.string f0.nm, .string f0.all, .int .i64 (f0.su : Int)] 80)); obtain ⟨m0, m1, m2⟩ := HB.out _ k1a; have x0 := bx_cells m0 0; have x1 := bx_cells m1 0; have x2 := bx_cells m2 0; have HT3 := Lib.hid (HT2.out _ d1))
    | (go_at_call 83; (with_reducible refine (HT3.out).mono ?_); rintro e w2 ⟨rfl, q2, r2⟩; obtain ⟨k3, n3, n3', D3⟩ := HREN.out _ _ k1.below.size q1 k1a d1 q2 r2; obtain ⟨m0, m1, m2⟩ := HB.out _ (k1a.trans (r2.keep d1.row)); have x2 := bx_cells m2 0; have c0 := bx_cells n3 0; have c1 := bx_cells n3 1; have c2 := bx_cells n3 2; have f0' := bx_free n3 0; obtain ⟨j0, j1, j2⟩ := HB.out _ k3; have y0 := bx_cells j0 0; have y2 := bx_cells j2 0; have HF3 := Lib.hid (HFI.out _ D3))
    | (go_at_call 38; (with_reducible refine (HF3.out).mono ?_); rintro e w4 ⟨rfl, b4⟩))
  have D4 := D3.kept b4
  have J0 := bx_kept j0 b4
  have N4 := bx_kept n3' b4
  have K4 := k3.trans (DKeep.of_below b4 (Nat.le_of_lt D3.lt))
  have hb3 : d < w1.heap.size := q1.lt
  have hA3 : Value.ownBlock (.slice A F2.length c) ≠ some w1.heap.size := by
    rw [own_same A F2.length F1.length c c]
    exact fun e => by have := (q1.row.lt _ e).2; omega
  have hbl : w1.heap.size < w4.heap.size := bx_lt N4
  generalize w1.heap.size = b3 at N4 hb3 hA3 hbl ⊢
  have z0 := bx_cells J0 0
  have zd := bx_cells D4.box 0
  have zb0 := bx_cells N4 0
  have zb1 := bx_cells N4 1
  have zb2 := bx_cells N4 2
  have t0 := fun o => bx_cells (kept_new J0 o) 0
  have td := fun o => bx_cells (kept_new D4.box o) 0
  have tb0 := fun o => bx_cells (kept_new N4 o) 0
  have tb1 := fun o => bx_cells (kept_new N4 o) 1
  have tb2 := fun o => bx_cells (kept_new N4 o) 2
  have HINS := Lib.hid (fun (X : World) (hX : X = (w4.alloc (.cells #[.string to_, .string f0.all, .int .i64 (f0.su : Int)] 80)).drew) => (by
    subst hX
    exact disk_insert (d + 1) A c w4.heap.size p F2 { f0 with nm := to_ } (by omega) hp _ ((D4.row.alloc _).drew) (by show d + 1 ≤ (w4.alloc _).heap.size; rw [World.size_alloc]; have := D4.lt; omega) (heap_alloc_new w4 _) (fun e => by have := (D4.row.lt _ e).2; omega) :
      Calls Tryz.prog 41 #[.slice A F2.length c, .int .i64 p, .slice (some ⟨w4.heap.size, 0, none⟩) 1 1] X fun e w' => ∃ A' c', e = .returned (.slice A' (F2.length + 1) c') ∧ w'.ownsRow (d + 1) 80 3 (.slice A' (F2.length + 1) c') (F2.length + 1) ((F2.take p ++ { f0 with nm := to_ } :: F2.drop p).flatMap fC) ∧ X.grownBy w' (Value.ownBlock (.slice A F2.length c))))
  have hn0 : Value.ownBlock (.slice A F2.length c) ≠ some b0 := own_box D4.row J0 (by decide) _ _
  have HB0 := Lib.hid (fun (w5 : World) (g5 : ((w4.alloc (.cells #[.string to_, .string f0.all, .int .i64 (f0.su : Int)] 80)).drew).grownBy w5 (Value.ownBlock (.slice A F2.length c))) => bx_cells ((g5.block b0 (bx_lt (kept_new J0 _)) (fun e => hn0 e.symm)).trans (kept_new J0 (.cells #[.string to_, .string f0.all, .int .i64 (f0.su : Int)] 80))) 0)
  have HFA := Lib.hid (fun (w5 : World) (A5 : Option Addr) (c5 : Nat) o5 (g5 : ((w4.alloc (.cells #[.string to_, .string f0.all, .int .i64 (f0.su : Int)] 80)).drew).grownBy w5 (Value.ownBlock (.slice A F2.length c))) =>
    ins_facts (c4 := c5) (A4 := A5) (q := F2.length + 1) (tmp := .cells #[.string to_, .string f0.all, .int .i64 (f0.su : Int)] 80) D4 (ins_len F2 { f0 with nm := to_ } p hp) (by omega) o5 ⟨g5.os, g5.tape, g5.output, g5.size, g5.block⟩)
  have hdl4 := D4.lt
  have HK4 := Lib.hid K4
  clear D4 J0 N4 K4 HT1 HB HT2 HFI HROW HREN HDL x0 x1 x2 HW0 q1 r1 k1 k1a d1 HT3 q2 r2 k3 n3 n3' D3 c0 c1 c2 f0' j0 j1 j2 y0 y2 HF3 b4 hA3 m0 m1 m2
  go_region_with (go_at_call 41; refine (HINS.out _ (by rfl)).mono ?_; rintro e w5 ⟨A5, c5, rfl, o5, g5⟩; obtain ⟨s0, s1, -, D5, K5⟩ := HFA.out _ _ _ o5 g5; have s3 := HB0.out _ g5)
  all_goals
    go_wp2_with fail
    go_end0
    exact ⟨rfl, _, _, D5, HK4.out.trans K5⟩
end Go.Proofs.YtabccphcoojbjaaGreatDoor
