/- Walks of layer 7 (disk): slices.Insert of a file where there is no room; and in all cases. -/
import Derived.Test.YtmkaijjakcjflaaDiskD
namespace Go.Proofs.Ytmkaijjakcjflaa
open Go.ChangeShapes Go.WideShapes Go.ChangeAt Go.RowKit Go.Deep DiskP

/-- a new row: the lists -/
theorem ins_new (R : List Value) (fs : List Fl) (f : Fl) (n k : Nat) (hn : fs.length = n) (hk : k < n) (hR : R.take (k * 3) = (fs.take k).flatMap fC) (hl : (n + 1) * 3 ≤ R.length) :
    let R2 := R.take (k * 3) ++ fC f ++ R.drop (k * 3 + (fC f).length)
    let R3 := R2.take ((k + 1) * 3) ++ (fs.drop k).flatMap fC ++ R2.drop ((k + 1) * 3 + ((fs.drop k).flatMap fC).length)
    R2.length = R.length ∧ R3.length = R.length ∧ R3.take ((n + 1) * 3) = (fs.take k ++ f :: fs.drop k).flatMap fC := by
  have hd : ((fs.drop k).flatMap fC).length = (n - k) * 3 := by rw [fC_len, List.length_drop, hn]
  have hf : (fC f).length = 3 := rfl
  have l0 : (R.take (k * 3)).length = k * 3 := by rw [List.length_take]; omega
  intro R2 R3
  have hR2l : R2.length = R.length := by
    show (R.take (k * 3) ++ fC f ++ R.drop (k * 3 + (fC f).length)).length = _
    simp only [List.length_append, l0, hf, List.length_drop]; omega
  have hR2t : R2.take ((k + 1) * 3) = (fs.take k).flatMap fC ++ fC f := by
    show (R.take (k * 3) ++ fC f ++ R.drop (k * 3 + (fC f).length)).take ((k + 1) * 3) = _
    rw [hR, List.take_left' (by rw [List.length_append, ← hR, l0, hf]; omega)]
  refine ⟨hR2l, ?_, ?_⟩
  · show (R2.take ((k + 1) * 3) ++ (fs.drop k).flatMap fC ++ R2.drop ((k + 1) * 3 + ((fs.drop k).flatMap fC).length)).length = _
    simp only [List.length_append, hd, List.length_take, List.length_drop, hR2l]; omega
  · show (R2.take ((k + 1) * 3) ++ (fs.drop k).flatMap fC ++ R2.drop ((k + 1) * 3 + ((fs.drop k).flatMap fC).length)).take ((n + 1) * 3) = _
    rw [hR2t, List.flatMap_append, List.flatMap_cons, List.append_assoc ((fs.take k).flatMap fC)]
    rw [List.take_left' (by simp only [List.length_append, fC_len, hf, List.length_take, List.length_drop]; omega)]
set_option maxRecDepth 100000 in
set_option maxHeartbeats 4000000 in
theorem insert_grow (g c k b : Nat) (fs : List Fl) (f : Fl) (cur : Array Value) (w : World) (hn : fs.length = c) (hk : k < c) (hc : c ≤ 1000) (hg : w.heap[g]? = some (.cells cur 67 (0, 0))) (hX : cur.toList.take (c * 3) = fs.flatMap fC)
    (hb : w.heap[b]? = some (.cells #[.string f.nm, .string f.all, .int .i64 (f.su : Int)] 67 (0, 0))) :
    Calls Try.prog 41 #[.slice (some ⟨g, 0, none⟩) c c, .int .i64 k, .slice (some ⟨b, 0, none⟩) 1 1] w fun e w' => ∃ G, e = .returned (.slice (some ⟨w.heap.size, 0, none⟩) (c + 1) G) ∧ c + 1 ≤ G ∧ G ≤ maxLen ∧ (∃ cur' : Array Value, w'.heap[w.heap.size]? = some (.cells cur' 67 (0, 0)) ∧ cur'.size = G * 3 ∧ cur'.toList.take ((c + 1) * 3) = (fs.take k ++ f :: fs.drop k).flatMap fC) ∧ w.grownBy w' none := by
  obtain ⟨i0, hi0, hz0, hzs, hzb⟩ := info_parts' info_file
  have hz2 : ¬ ((k : Int) = (c : Int)) := by omega
  have hbw : b < w.heap.size := bx_lt hb
  have hgw : g < w.heap.size := bx_lt hg
  have hd : ((fs.drop k).flatMap fC).length = (c - k) * 3 := by rw [fC_len, List.length_drop, hn]
  have hkk : (c : Int) + 1 - (k : Int) = ((c + 1 - k : Nat) : Int) := by omega
  have hik : k + (c + 1 - k) = c + 1 := by omega
  have hsrc : ∀ j v, ((fs.take k).flatMap fC)[j]? = some v → w.cell? ⟨g, j, none⟩ = some v := fun j v hj => by
    rw [← fC_take, ← hX, List.take_take, List.getElem?_take] at hj
    split at hj
    · rw [bx_cells hg]; simpa using hj
    · cases hj
  have hold : (Builtin.firstCells i0.size k (.slice (some ⟨g, 0, none⟩) k c)).run Try.prog w.drew = .ok ((fs.take k).flatMap fC).toArray w.drew := by
    rw [hzs]
    exact run_firstCells_some w.drew 3 k ⟨g, 0, none⟩ k c ((fs.take k).flatMap fC) (by rw [fC_len, List.length_take]; omega) (fun j v hj => by rw [fl_add_0]; exact hsrc j v hj)
  obtain ⟨G, hG⟩ : ∃ G, grownCap w (c + 1) c 67 = G := ⟨_, rfl⟩
  have hG1 : c + 1 ≤ G := by rw [← hG]; exact grownCap_ge w _ _ _
  have hG2 : G ≤ maxLen := by
    have := grownCap_le_maxLen w (c + 1) c 67 (by unfold maxLen; omega)
    rwa [hG] at this
  have hrz := fun ty => Lib.run_append_grow_zeros w 42 3 ty 67 i0 _ .i64 .i64 Try.underlying42 Try.underlying3 hi0 hz0 (some ⟨g, 0, none⟩) k c _ hold (c + 1 - k) (by omega) (by omega) (by omega) (by omega) (by rw [hzb]; omega) (by rw [hzb, hik]; exact growslice_fits (by omega) (by omega))
  rw [hik, hG] at hrz
  rw [← hkk] at hrz
  obtain ⟨ROW, hROW⟩ : ∃ ROW : Array Value, ((fs.take k).flatMap fC).toArray ++ Builtin.zeroCells (Value.agg #[.string ⟨#[]⟩, .string ⟨#[]⟩, .int .i64 0]).cells (c + 1 - k) ++ Builtin.zeroCells (Value.agg #[.string ⟨#[]⟩, .string ⟨#[]⟩, .int .i64 0]).cells (G - (c + 1)) = ROW := ⟨_, rfl⟩
  rw [hROW] at hrz
  have hPl : ((fs.take k).flatMap fC).length = k * 3 := by rw [fC_len, List.length_take]; omega
  have hRs : ROW.toList.length = G * 3 := by
    rw [← hROW]
    simp only [Array.toList_append, List.length_append, hPl, Builtin.zeroCells, Value.cells]
    simp
    omega
  have hRt : ROW.toList.take (k * 3) = (fs.take k).flatMap fC := by
    rw [← hROW]
    simp only [Array.toList_append, List.append_assoc]
    rw [List.take_left' hPl]
  clear hROW
  obtain ⟨L2, L3, L4⟩ := ins_new ROW.toList fs f c k hn hk hRt (by omega)
  obtain ⟨R2, hR2⟩ : ∃ R2 : List Value, ROW.toList.take (k * 3) ++ fC f ++ ROW.toList.drop (k * 3 + (fC f).length) = R2 := ⟨_, rfl⟩
  have hcpA : ∀ W : World, W.heap = (w.alloc (.cells ROW 67)).heap → ∀ ty dc, (Builtin.copy_ #[42, 42] ty #[.slice (some ⟨w.heap.size, k * 3, none⟩) (c + 1 - k) dc, .slice (some ⟨b, 0, none⟩) 1 1]).run Try.prog W = .ok (goInt ((1 : Nat) : Int)) (W.setRow w.heap.size R2.toArray) := fun W hW ty dc => by
    rw [← hR2]
    exact dk_copy W _ _ ty 67 3 w.heap.size (k * 3) (c + 1 - k) dc ⟨b, 0, none⟩ 1 1 ROW 67 (fC f) Try.underlying42 file_size (by rw [hW]; exact heap_alloc_new w _) 1 (by simp only [Nat.min_def]; split <;> omega) rfl
      (fun j v hj => by
        have hb1 : W.heap[b]? = some (.cells #[.string f.nm, .string f.all, .int .i64 (f.su : Int)] 67 (0, 0)) := by rw [hW]; exact (Below.heap_alloc w _ b hbw).trans hb
        rw [fl_add_0, bx_cells hb1]
        simpa [fC] using hj) (by show k * 3 + 3 ≤ ROW.size; have : ROW.size = G * 3 := hRs; omega) (by intro u hu; simp only [fC, List.mem_cons, List.not_mem_nil, or_false] at hu; rcases hu with rfl | rfl | rfl <;> rfl)
  rw [hR2] at L2 L3 L4
  obtain ⟨R3, hR3⟩ : ∃ R3 : List Value, R2.take ((k + 1) * 3) ++ (fs.drop k).flatMap fC ++ R2.drop ((k + 1) * 3 + ((fs.drop k).flatMap fC).length) = R3 := ⟨_, rfl⟩
  have hcpB : ∀ W : World, W.heap = ((w.alloc (.cells ROW 67)).setRow w.heap.size R2.toArray).heap → ∀ ty dc sc, (Builtin.copy_ #[42, 42] ty #[.slice (some ⟨w.heap.size, (k + 1) * 3, none⟩) (c - k) dc, .slice (some ⟨g, k * 3, none⟩) (c - k) sc]).run Try.prog W = .ok (goInt ((c - k : Nat) : Int)) (W.setRow w.heap.size R3.toArray) := fun W hW ty dc sc => by
    rw [← hR3]
    have hh : W.heap[w.heap.size]? = some (.cells R2.toArray 67 (0, 0)) := by rw [hW]; exact setRow_at (heap_alloc_new w _) _
    have hg1 : W.heap[g]? = some (.cells cur 67 (0, 0)) := by
      rw [hW]
      exact (((setRow_grown (w.alloc (.cells ROW 67)) w.heap.size R2.toArray).block g (by rw [World.size_alloc]; omega) (by simp; omega)).trans (Below.heap_alloc w _ g hgw)).trans hg
    exact dk_copy W _ _ ty 67 3 w.heap.size ((k + 1) * 3) (c - k) dc ⟨g, k * 3, none⟩ (c - k) sc R2.toArray 67 ((fs.drop k).flatMap fC) Try.underlying42 file_size hh (c - k) (by simp only [Nat.min_def]; split <;> omega) hd
      (fun j v hj => by
        rw [← fC_drop, ← hX, List.getElem?_drop, List.getElem?_take] at hj
        split at hj
        · rw [show (⟨g, k * 3, none⟩ : Addr).add j = ⟨g, k * 3 + j, none⟩ by unfold Addr.add; split <;> simp_all]
          rw [bx_cells hg1]
          simpa using hj
        · cases hj) (by rw [hd]; show _ ≤ R2.length; omega) (fC_one _)
  rw [hR3] at L3 L4
  have hw1 : IntKind.i64.wrap ((k : Int) + 1) = (k : Int) + 1 := by rw [IntKind.wrap_i64]; omega
  have hb1 : (0 : Int) ≤ (k : Int) + 1 := by omega
  have hin : k ≤ c := by omega
  have htn : ((k : Int) + 1).toNat = k + 1 := by omega
  have hb3 : (k : Int) ≤ (c : Int) := by omega
  have hb5 : (k : Int) ≤ (c : Int) + 1 := by omega
  have hGi : ¬ (G = k) := by omega
  have hGim : ¬ (G = k + 1) := by omega
  have hci : ¬ (c = k) := by omega
  have hG63 : (G : Int) ≤ 9223372036854775807 := by unfold maxLen at hG2; omega
  have hgt : (c : Int) < (c : Int) + 1 := by omega
  have LL := Lib.hid (And.intro (L3.trans hRs) L4)
  clear L2 L3 L4 hR2 hR3 hRt hRs hX hd hold hsrc hkk hik hG hPl
  have mixed : Try.prog.follows .mixedOrders = true := by kernel_rfl
  go_enter Try.func41, Try.ntmps41
  go_wp2_with (at_builtin; refine Lib.wpList_append_run _ rfl _ _ _ _ rfl _ _ rfl rfl _ _ (hrz _) ?_)
  rw [hcpA (w.alloc (.cells ROW 67)).drew rfl]
  simp only [Result.andThen]
  rw [Oper.upon_value]
  go_wp2_with fail
  go_region_law_o (refine step_copy_runI rfl _ _ 42 42 rfl (.slice (some ⟨w.heap.size, (k + 1) * 3, none⟩) (c - k) (G - (k + 1))) (.slice (some ⟨g, k * 3, none⟩) (c - k) (c - k)) (by simp [Act.eval, Act.put]) (by simp [Act.eval, Act.put]) (hcpB ((w.alloc (.cells ROW 67)).drew.setRow w.heap.size R2.toArray).drew rfl 3 (G - (k + 1)) (c - k)) ?_)
  go_wp2_with fail
  go_ret
  have g1 := setRow_grown (w.alloc (.cells ROW 67)).drew w.heap.size R2.toArray
  have g2 := setRow_grown ((w.alloc (.cells ROW 67)).drew.setRow w.heap.size R2.toArray).drew w.heap.size R3.toArray
  have hs1 : ((w.alloc (.cells ROW 67)).drew).heap.size = w.heap.size + 1 := World.size_alloc w _
  have hs2 := g1.size
  have hs3 : ((w.alloc (.cells ROW 67)).drew.setRow w.heap.size R2.toArray).drew.heap.size = ((w.alloc (.cells ROW 67)).drew.setRow w.heap.size R2.toArray).heap.size := rfl
  have hs4 := g2.size
  refine ⟨G, rfl, hG1, hG2, ⟨R3.toArray, setRow_at (setRow_at (heap_alloc_new w _) _) _, by simpa using LL.out.1, by simpa using LL.out.2⟩, ⟨rfl, rfl, rfl, by omega, fun j hj _ => ?_⟩⟩
  rw [g2.block j (by omega) (by simp; omega)]
  exact (g1.block j (by omega) (by simp; omega)).trans (Below.heap_alloc w _ j hj)
/-- slices.Insert of one file -/
theorem disk_insert (B : Nat) (A : Option Addr) (c b k : Nat) (fs : List Fl) (f : Fl) (hl : fs.length ≤ 900) (hk : k ≤ fs.length) (w : World) (ho : w.ownsRow B 67 3 (.slice A fs.length c) fs.length (fs.flatMap fC)) (hB : B ≤ w.heap.size)
    (hb : w.heap[b]? = some (.cells #[.string f.nm, .string f.all, .int .i64 (f.su : Int)] 67 (0, 0))) (hbg : Value.ownBlock (.slice A fs.length c) ≠ some b) :
    Calls Try.prog 41 #[.slice A fs.length c, .int .i64 k, .slice (some ⟨b, 0, none⟩) 1 1] w fun e w' => ∃ A' c', e = .returned (.slice A' (fs.length + 1) c') ∧ w'.ownsRow B 67 3 (.slice A' (fs.length + 1) c') (fs.length + 1) ((fs.take k ++ f :: fs.drop k).flatMap fC) ∧ w.grownBy w' (Value.ownBlock (.slice A fs.length c)) := by
  have hlen : ((fs.take k ++ f :: fs.drop k).flatMap fC).length = (fs.length + 1) * 3 := by rw [fC_len, List.length_append, List.length_cons, List.length_take, List.length_drop]; omega
  by_cases hke : k = fs.length
  · subst hke
    rw [List.take_length, List.drop_length]
    exact insert_end B A c b fs f (by omega) w ho hB hb
  · rcases id ho.2 with ⟨e1, e2⟩ | ⟨g, cap, cur, e1, e3, hg, hnc, hcm, hcs, htk⟩
    · omega
    · obtain ⟨rfl, rfl⟩ : A = some ⟨g, 0, none⟩ ∧ c = cap := by simpa using e1
      by_cases hroom : fs.length + 1 ≤ c
      · refine (insert_shift g c fs.length k b fs f cur w rfl (by omega) hroom hcm hg hcs htk hb (fun e => hbg (by rw [e]; rfl))).mono ?_
        rintro e w' ⟨rfl, ⟨cur', q1, q2, q3⟩, q4⟩
        exact ⟨_, c, rfl, ⟨hlen, .inr ⟨g, c, cur', rfl, e3, q1, hroom, hcm, q2, q3⟩⟩, q4⟩
      · have hn : fs.length = c := by omega
        have := insert_grow g c k b fs f cur w hn (by omega) (by omega) hg (by rw [← hn]; exact htk) hb
        rw [hn] at hlen ⊢
        refine this.mono ?_
        rintro e w' ⟨G, rfl, q1, q2, ⟨cur', q3, q4, q5⟩, q6⟩
        exact ⟨_, G, rfl, ⟨hlen, .inr ⟨_, G, cur', rfl, hB, q3, q1, q2, q4, q5⟩⟩, ⟨q6.os, q6.tape, q6.output, q6.size, fun j hj _ => q6.block j hj (by simp)⟩⟩
end Go.Proofs.Ytmkaijjakcjflaa
