/- Walks of layer 6's reference: frames one behind the other; are frames the same?. -/
import Derived.Test.YtcpmicinibfepaaGreatDoorWAh
import Derived.Test.YtcpmicinibfepaaGreatDoorWAi
import Derived.Test.YtcpmicinibfepaaGreatDoorWAj
namespace Go.Proofs.YtcpmicinibfepaaGreatDoor
open Go.ChangeShapes Go.WideShapes Go.ChangeAt Go.RowKit Go.Deep BigP


/-- frames as cells -/
def fcells (l : List FrameP.Fr) : List Value := l.flatMap fun f => [.int .i64 f.1, .string ⟨f.2.toArray⟩]
/-- a slice at A reads as frames, below block B -/
def RdF (w : World) (B : Nat) (A : Option Addr) (l : List FrameP.Fr) : Prop :=
  ∀ k f, l[k]? = some f → ∃ ad, A = some ad ∧ ad.block < B ∧ w.cell? (ad.add (k * 2)) = some (.int .i64 f.1) ∧ w.cell? ⟨(ad.add (k * 2)).block, (ad.add (k * 2)).off + 1, none⟩ = some (.string ⟨f.2.toArray⟩)
theorem RdF.below {w w' : World} {B : Nat} {A : Option Addr} {l : List FrameP.Fr} (h : RdF w B A l) (hb : Below B w w') : RdF w' B A l := fun k f hk => by
  obtain ⟨ad, e, hlt, h0, h1⟩ := h k f hk
  exact ⟨ad, e, hlt, (hb.cell (p := ad.add (k * 2)) (by rw [addr_add_block]; exact hlt)).trans h0, (hb.cell (p := ⟨(ad.add (k * 2)).block, (ad.add (k * 2)).off + 1, none⟩) (by show (ad.add (k * 2)).block < B; rw [addr_add_block]; exact hlt)).trans h1⟩
theorem RdF.more {w : World} {B B' : Nat} {A : Option Addr} {l : List FrameP.Fr} (h : RdF w B A l) (hB : B ≤ B') : RdF w B' A l := fun k f hk => by
  obtain ⟨ad, e, hlt, h0, h1⟩ := h k f hk
  exact ⟨ad, e, by omega, h0, h1⟩

set_option maxRecDepth 100000 in
theorem ref_Same6 (A B : Option Addr) (c d : Nat) (l : List FrameP.Fr) (hl : l.length ≤ 1000000) (w : World) (ha : RdF w w.heap.size A l) (hb : RdF w w.heap.size B l) :
    Calls Tryz.prog 31 #[.slice A l.length c, .slice B l.length d] w fun e w' => e = .returned (.bool true) ∧ Below w.heap.size w w' := by
  have HA := Lib.hid ha
  have HB := Lib.hid hb
  clear ha hb
  go_enter Tryz.func31, Tryz.ntmps31
  go_wp2_with fail
  go_loopw [5] (fun i wr => ∃ k : Nat, k ≤ l.length ∧ i = .int .i64 k ∧ Below w.heap.size w wr) (fun i _ => l.length - (intOf i).toNat)
  case atStart => exact ⟨0, by omega, rfl, Below.refl _ _⟩
  case round =>
    obtain ⟨k, hk, rfl, hbw⟩ := hrel
    by_cases hlt : k < l.length
    · obtain ⟨f, hk'⟩ : ∃ f, l[k]? = some f := ⟨l[k], List.getElem?_eq_getElem hlt⟩
      obtain ⟨ad, rfl, hadl, h0, h1⟩ := HA.out.below hbw k f hk'
      obtain ⟨bd, rfl, hbdl, k0, k1⟩ := HB.out.below hbw k f hk'
      have hz := hbw.size
      have x0 := fun u : Later wr.heap.size wr => (u.h.cell (p := ad.add (k * 2)) (by rw [addr_add_block]; omega)).trans h0
      have x1 := fun u : Later wr.heap.size wr => (u.h.cell (p := ⟨(ad.add (k * 2)).block, (ad.add (k * 2)).off + 1, none⟩) (by show (ad.add (k * 2)).block < _; rw [addr_add_block]; omega)).trans h1
      have y0 := fun u : Later wr.heap.size wr => (u.h.cell (p := bd.add (k * 2)) (by rw [addr_add_block]; omega)).trans k0
      have y1 := fun u : Later wr.heap.size wr => (u.h.cell (p := ⟨(bd.add (k * 2)).block, (bd.add (k * 2)).off + 1, none⟩) (by show (bd.add (k * 2)).block < _; rw [addr_add_block]; omega)).trans k1
      clear hk' h0 h1 k0 k1 hz
      have hi0 : (0 : Int) ≤ (k : Int) := by omega
      have hi1 : (k : Int) < (l.length : Int) := by omega
      go_wp2_with fail
      refine wp_region_later wr.heap.size (by kernel_rfl) (by kernel_rfl) ?_
      repeat (go_big_quiet_step (fail))
      refine wpQuiet_nil ?_; intro _ hw'; obtain ⟨u, hw''⟩ := hw'; subst hw''
      go_wp2_with fail
      exact ⟨⟨k + 1, by omega, by go_num, below_later hbw u⟩, by simp [intOf]; omega⟩
    · go_wp2_with fail
      go_ret
      exact ⟨rfl, hbw⟩

theorem fcells_get (l : List FrameP.Fr) : ∀ (k : Nat) (f : FrameP.Fr), l[k]? = some f → (fcells l)[k * 2]? = some (.int .i64 f.1) ∧ (fcells l)[k * 2 + 1]? = some (.string ⟨f.2.toArray⟩) := by
  induction l with
  | nil => intro k f h; simp at h
  | cons x l ih =>
    intro k f h
    cases k with
    | zero =>
      obtain rfl : x = f := by simpa using h
      exact ⟨rfl, rfl⟩
    | succ k =>
      have := ih k f (by simpa using h)
      rw [show (k + 1) * 2 = k * 2 + 1 + 1 by omega]
      exact this
theorem fcells_length (l : List FrameP.Fr) : (fcells l).length = l.length * 2 := by
  induction l with
  | nil => rfl
  | cons x l ih => show (fcells l).length + 1 + 1 = (l.length + 1) * 2; omega
theorem fcells_snoc (l : List FrameP.Fr) (f : FrameP.Fr) : fcells (l ++ [f]) = fcells l ++ (#[Value.int .i64 f.1, .string ⟨f.2.toArray⟩] : Array Value).toList := by
  simp [fcells]
theorem add0 (g n : Nat) : (⟨g, 0, none⟩ : Addr).add n = ⟨g, n, none⟩ := by unfold Addr.add; split <;> simp_all
theorem RdF.own {w : World} {base : Nat} {e : TypeId} {A : Option Addr} {c : Nat} {l : List FrameP.Fr} (h : w.ownsRow base e 2 (.slice A l.length c) l.length (fcells l)) : RdF w w.heap.size A l := fun k f hk => by
  have hn : 0 < l.length := by have := (List.getElem?_eq_some_iff.1 hk).1; omega
  obtain ⟨g0, g1⟩ := fcells_get l k f hk
  rcases h.2 with ⟨h0, h1⟩ | ⟨g, cap, cur, hv, hb, hg, hrest⟩
  · omega
  · injection hv with hA
    have c0 := h.cells (g := g) (by rw [hA]; rfl) _ _ g0
    have c1 := h.cells (g := g) (by rw [hA]; rfl) _ _ g1
    rw [add0] at c0 c1
    refine ⟨_, hA, (Array.getElem?_eq_some_iff.1 hg).1, ?_, ?_⟩
    · rw [add0]; exact c0
    · rw [add0]
      show w.cell? ⟨g, k * 2 + 1, none⟩ = _
      exact c1
theorem own_cap {w : World} {base : Nat} {e : TypeId} {sz n c : Nat} {A : Option Addr} {xs : List Value} (h : w.ownsRow base e sz (.slice A n c) n xs) : n ≤ c := by
  rcases h.2 with ⟨h0, h1⟩ | ⟨g, cap, cur, hv, _, _, hc, _⟩
  · omega
  · injection hv with _ _ h2; omega
/-- what a taking of all frames leaves -/
def AllPost (r : List FrameP.Fr × Nat × Int) (w : World) (e : Ending) (w' : World) : Prop :=
  ∃ A c, e = .returned (.tuple #[.slice A r.1.length c, .int .i64 (r.2.1 : Int), .int .i64 r.2.2]) ∧ RdF w' w'.heap.size A r.1 ∧ Below w.heap.size w w' ∧ r.1.length ≤ c
theorem all_done {w wr : World} {t : TypeId} {v : Value} {pre : List FrameP.Fr} {n : Nat} {er : Int} {l : List UInt8} (hown : wr.ownsRow w.heap.size t 2 v pre.length (fcells pre)) (hb : Below w.heap.size w wr) (h : FrameP.all l = (pre, n, er)) :
    AllPost (FrameP.all l) w (.returned (.tuple #[v, .int .i64 (n : Int), .int .i64 er])) wr := by
  obtain ⟨A, c, rfl⟩ := own_slice hown
  rw [h]
  exact ⟨A, c, rfl, RdF.own hown, hb, own_cap hown⟩
theorem ex_drop (s : ByteArray) (n : Nat) : (s.extract n s.size).data.toList = s.data.toList.drop n := by
  rw [ex_list]
  refine List.take_of_length_le ?_
  rw [List.length_drop]
  exact Nat.le_refl _
theorem all_step_bad (s : List UInt8) (x : FrameP.Fr) (m : Nat) (er : Int) (hs : s ≠ []) (ht : FrameP.take s = (x, m, er)) (he : er ≠ 0) : FrameP.all s = ([], 0, er) := by
  rw [FrameP.all_cons s hs, ht]; simp only [if_pos he]
theorem all_step_ok (s : List UInt8) (x : FrameP.Fr) (m : Nat) (hs : s ≠ []) (ht : FrameP.take s = (x, m, 0)) : FrameP.all s = (x :: (FrameP.all (s.drop m)).1, m + (FrameP.all (s.drop m)).2.1, (FrameP.all (s.drop m)).2.2) := by
  rw [FrameP.all_cons s hs, ht]
  simp

theorem info_frame : (Tryz.prog.info? 46).map (fun i => (i.zero, i.size, i.bytes)) = some (some (.agg #[.int .i64 0, .string ⟨#[]⟩]), 2, 24) := by kernel_rfl

set_option maxRecDepth 100000 in
set_option maxHeartbeats 1000000 in
theorem ref_All6 (s : ByteArray) (hs : s.size ≤ 1000000000) (w : World) :
    Calls Tryz.prog 17 #[.string s] w (AllPost (FrameP.all s.data.toList) w) := by
  obtain ⟨i0, hi, hz0, hz1, hz2⟩ := info_parts' info_frame
  have HI := Lib.hid (And.intro hi (And.intro hz0 (And.intro hz1 hz2)))
  clear hi hz0 hz1 hz2
  have hz : s.data.toList.length = s.size := rfl
  have HZ := Lib.hid hz
  clear hz
  go_enter Tryz.func17, Tryz.ntmps17
  go_wp2_with fail
  go_loopw [5, 6] (fun v i wr => ∃ (pre : List FrameP.Fr) (n : Nat), i = .int .i64 n ∧ n ≤ s.size ∧ 16 * pre.length ≤ n ∧ wr.ownsRow w.heap.size 46 2 v pre.length (fcells pre) ∧ Below w.heap.size w wr ∧
    FrameP.all s.data.toList = (pre ++ (FrameP.all (s.data.toList.drop n)).1, n + (FrameP.all (s.data.toList.drop n)).2.1, (FrameP.all (s.data.toList.drop n)).2.2)) (fun _ i _ => s.size - (intOf i).toNat)
  case atStart => exact ⟨[], 0, rfl, by omega, by simp, World.ownsRow_nil _ _ _ _, Below.refl _ _, by simp⟩
  case round =>
    obtain ⟨pre, n, rfl, hn, hpn, hown, hb, hall⟩ := hrel
    have HO := Lib.hid hown
    have HALL := Lib.hid hall
    clear hown hall
    by_cases hlt : n < s.size
    · have HNE := Lib.hid (show s.data.toList.drop n ≠ [] by
        intro h
        have h2 := congrArg List.length h
        rw [List.length_drop, HZ.out] at h2
        simp at h2; omega)
      have ht := ref_Take6 (s.extract n s.size) (by rw [ByteArray.size_extract]; unfold maxLen; omega)
      rw [ex_drop] at ht
      rcases htk : FrameP.take (s.data.toList.drop n) with ⟨x, m, er⟩
      rw [htk] at ht
      unfold tfV at ht
      simp only at ht
      have HT := Lib.hid ht
      clear ht
      by_cases her : er = 0
      · subst her
        obtain ⟨hm1, hm2, _⟩ := FrameP.take_ok _ _ _ htk
        rw [List.length_drop, HZ.out] at hm2
        have HS := Lib.hid (all_step_ok _ x m HNE.out htk)
        clear htk
        have hm16 : 16 ≤ m := by omega
        clear hm1
        have HO1 := Lib.hid (fun (W : World) (h : Below wr.heap.size wr W) => own_below HO.out h)
        go_wp2_with (first
          | (go_at_call 46; refine (HT.out _).mono ?_; rintro e w1 ⟨rfl, hb1⟩)
          | (at_builtin; go_must (refine wpList_append_one rfl _ _ _ (by rfl) w.heap.size 46 i0 _ 2 24 Tryz.underlying42 HI.out.1 HI.out.2.1 HI.out.2.2.1 HI.out.2.2.2 rfl (by decide) (by decide) _ _ _ (by rfl) (w1.alloc (.cells #[.int .i64 x.1, .string ⟨x.2.toArray⟩] 46)) ((HO1.out w1 hb1).alloc _) _ (w1.heap.size + 1) (World.size_alloc _ _) (by rfl) (by rfl) (by simp [Value.oneCell']) (by omega) (by have h1 := hb1.size; have h2 := hb.size; rw [World.size_alloc]; omega) ?_; intro g cap w2 hA)))
        refine ⟨⟨pre ++ [x], n + m, by go_num, by omega, by rw [List.length_append]; simp; omega, ?_, hA.below _ (below_alloc' _ (below_step hb1 hb)), ?_⟩, by simp [intOf]; omega⟩
        · rw [fcells_snoc, List.length_append]; exact hA.own
        · rw [HALL.out, HS.out, List.drop_drop]
          simp [Nat.add_assoc]
      · have HS := Lib.hid (all_step_bad _ x m er HNE.out htk her)
        clear htk
        have hne : (er != 0) = true := by rw [bne_iff_ne]; exact her
        clear her
        go_wp2_with (go_at_call 46; refine (HT.out _).mono ?_; rintro e w1 ⟨rfl, hb1⟩)
        go_ret3
        exact all_done (own_below HO.out (below_alloc' _ hb1)) (below_alloc' _ (below_step hb1 hb)) (by rw [HALL.out, HS.out]; simp)
    · have HD := Lib.hid (show s.data.toList.drop n = [] from List.drop_eq_nil_of_le (by rw [HZ.out]; omega))
      go_wp2_with fail
      go_ret3
      exact all_done HO.out hb (by rw [HALL.out, HD.out]; simp [FrameP.all_nil])
end Go.Proofs.YtcpmicinibfepaaGreatDoor
