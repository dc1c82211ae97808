/- Layer 34, plain: what a write leaves on a disk, and what is read; wherever it crashes. -/
import Derived.Test.YtabccphcoojbjaaDoorQAz
import Derived.Test.YtabccphcoojbjaaDoorQBa
namespace Go.Proofs.YtabccphcoojbjaaDoor
open Go.ChangeShapes Go.WideShapes Go.ChangeAt Go.RowKit Go.Deep DiskP ManP


theorem uniqD {fs : List Fl} (hs : Sorted fs) {f g : Fl} (hf : f ∈ fs) (hg : g ∈ fs) (h : f.nm = g.nm) : f = g := by
  have h1 := (file_at hs hf).1
  have h2 := (file_at hs hg).1
  rw [h] at h1
  rw [h1] at h2
  exact Option.some.inj h2
/-! which files of another name stay -/
theorem del_iff {fs : List Fl} (nm : ByteArray) {x : Fl} (hx : x.nm ≠ nm) : x ∈ delF fs nm ↔ x ∈ fs := by
  refine ⟨fun h => (delF_sub fs nm).subset h, fun h => mem_delF h hx⟩
theorem set_iff {fs : List Fl} {p : Nat} {f g x : Fl} (h : fs[p]? = some f) (hf : x.nm ≠ f.nm) (hg : x.nm ≠ g.nm) : x ∈ fs.set p g ↔ x ∈ fs := by
  refine ⟨fun h' => ?_, fun h' => set_other h h' hf g⟩
  rcases List.mem_or_eq_of_mem_set h' with h1 | h1
  · exact h1
  · exact absurd (by rw [h1]) hg
theorem ins_iff {fs : List Fl} {p : Nat} {g x : Fl} (hg : x.nm ≠ g.nm) : x ∈ fs.take p ++ g :: fs.drop p ↔ x ∈ fs := by
  refine ⟨fun h => ?_, fun h => mem_ins h⟩
  rcases List.mem_append.1 h with h | h
  · exact List.mem_of_mem_take h
  · rcases List.mem_cons.1 h with h | h
    · exact absurd (by rw [h]) hg
    · exact List.mem_of_mem_drop h
theorem put_iff {fs : List Fl} {nm : ByteArray} (s : ByteArray) {x : Fl} (hx : x.nm ≠ nm) : x ∈ putF fs nm s ↔ x ∈ fs := by
  unfold putF
  split
  · rename_i f hf
    split
    · rename_i hh
      obtain ⟨g, hg, hn⟩ := has_some hh
      rw [hf] at hg
      obtain rfl := Option.some.inj hg
      exact set_iff hf (by rw [hn]; exact hx) (by show x.nm ≠ f.nm; rw [hn]; exact hx)
    · exact ins_iff hx
  · exact ins_iff hx
theorem sync_iff {fs : List Fl} {nm : ByteArray} (hh : has fs nm = true) {x : Fl} (hx : x.nm ≠ nm) : x ∈ modF fs nm (fun f => { f with su := f.all.size }) ↔ x ∈ fs := by
  obtain ⟨g, hg, hn⟩ := has_some hh
  unfold modF
  rw [hg]
  exact set_iff hg (by rw [hn]; exact hx) (by show x.nm ≠ g.nm; rw [hn]; exact hx)
/-- the file Main is the same in both -/
def Same (F G : List Fl) : Prop := ∀ x : Fl, x.nm = mainB → (x ∈ F ↔ x ∈ G)
theorem Same.rfl' (F : List Fl) : Same F F := fun _ _ => Iff.rfl
theorem Same.trans {F G K : List Fl} (h : Same F G) (k : Same G K) : Same F K := fun x hx => (h x hx).trans (k x hx)
theorem Same.of {F G : List Fl} (h : ∀ x : Fl, x.nm ≠ newB → (x ∈ G ↔ x ∈ F)) : Same F G := fun x hx => (h x (by rw [hx]; exact main_new)).symm
theorem begun_cases (S : DS) (hon : S.on = true) : (begun S).1.fs = S.fs ∧ ((begun S).2 = 9 ∨ ((begun S).2 = 0 ∧ (begun S).1.on = true)) := by
  unfold begun
  refine ⟨(blow_fs S).1, ?_⟩
  show (if (blow S).2 = true then (9 : Int) else 0) = 9 ∨ ((if (blow S).2 = true then (9 : Int) else 0) = 0 ∧ (blow S).1.on = true)
  unfold blow
  split
  · exact .inr ⟨rfl, hon⟩
  · split
    · exact .inl rfl
    · exact .inr ⟨rfl, hon⟩
theorem w1_same {S : DS} (hon : S.on = true) : Same S.fs (w1 S).1.fs ∧ ((w1 S).2 = 0 → (w1 S).1.on = true) := by
  unfold w1
  split
  · rename_i hh
    unfold removeD
    rw [if_neg (by simp [hon]), if_neg (by simp [hh])]
    rcases opD_cases S (fun fs => delF fs newB) hon with ⟨h1, h2⟩ | ⟨h1, h2, h3⟩
    · rw [h2, h1]
      exact ⟨Same.rfl' _, fun h => absurd h (by decide)⟩
    · rw [h2]
      exact ⟨Same.of fun x hx => del_iff newB hx, fun _ => h3⟩
  · exact ⟨Same.rfl' _, fun _ => hon⟩
theorem app_same {S : DS} (hon : S.on = true) (b : ByteArray) : Same S.fs (appendD S newB b).1.fs ∧ ((appendD S newB b).2 = 0 → (appendD S newB b).1.on = true ∧ (appendD S newB b).1.fs = putF S.fs newB b) := by
  unfold appendD
  rw [if_neg (by simp [hon])]
  split
  · exact ⟨Same.rfl' _, fun h => absurd h (by simp only; decide)⟩
  · split
    · exact ⟨Same.rfl' _, fun h => absurd h (by simp only; decide)⟩
    · obtain ⟨h1, h2⟩ := begun_cases { S with fs := putF S.fs newB b } hon
      rw [h1]
      refine ⟨Same.of fun x hx => put_iff b hx, fun h => ?_⟩
      rcases h2 with h2 | ⟨_, h3⟩
      · rw [h2] at h; exact absurd h (by decide)
      · exact ⟨h3, rfl⟩
theorem sync_same {S : DS} (hon : S.on = true) : Same S.fs (syncD S newB).1.fs ∧ ((syncD S newB).2 = 0 → (syncD S newB).1.on = true ∧ has S.fs newB = true ∧ (syncD S newB).1.fs = modF S.fs newB fun f => { f with su := f.all.size }) := by
  unfold syncD
  rw [if_neg (by simp [hon])]
  split
  · exact ⟨Same.rfl' _, fun h => absurd h (by simp only; decide)⟩
  · rename_i hh
    rw [Bool.not_eq_false] at hh
    rcases opD_cases S (fun fs => modF fs newB fun f => { f with su := f.all.size }) hon with ⟨h1, h2⟩ | ⟨h1, h2, h3⟩
    · rw [h2, h1]
      exact ⟨Same.rfl' _, fun h => absurd h (by decide)⟩
    · rw [h2]
      exact ⟨Same.of fun x hx => sync_iff hh hx, fun _ => ⟨h3, hh, rfl⟩⟩
theorem ren_same {S : DS} (hon : S.on = true) : ((renameD S newB mainB).2 ≠ 0 → Same S.fs (renameD S newB mainB).1.fs) ∧ ((renameD S newB mainB).2 = 0 → (renameD S newB mainB).1.fs = renF S.fs newB mainB) := by
  unfold renameD
  rw [if_neg (by simp [hon])]
  split
  · exact ⟨fun _ => Same.rfl' _, fun h => absurd h (by simp only; decide)⟩
  · split
    · exact ⟨fun _ => Same.rfl' _, fun h => absurd h (by simp only; decide)⟩
    · rcases opD_cases S (fun fs => renF fs newB mainB) hon with ⟨h1, h2⟩ | ⟨h1, h2, h3⟩
      · rw [h2, h1]
        exact ⟨fun _ => Same.rfl' _, fun h => absurd h (by decide)⟩
      · rw [h2]
        exact ⟨fun h => absurd h1 h, fun _ => rfl⟩
/-- what was written, synced -/
theorem put_file {fs : List Fl} (hs : Sorted fs) (hno : has fs newB = false) (b : ByteArray) : fileF (modF (putF fs newB b) newB fun f => { f with su := f.all.size }) newB = ⟨newB, ⟨#[]⟩ ++ b, (⟨#[]⟩ ++ b : ByteArray).size⟩ := by
  have e1 : putF fs newB b = fs.take (pos fs newB) ++ ⟨newB, ⟨#[]⟩ ++ b, 0⟩ :: fs.drop (pos fs newB) := by
    unfold putF
    split
    · rw [if_neg (by simp [hno])]
    · rfl
  have hsi : Sorted (putF fs newB b) := by
    rw [e1]
    exact sorted_ins hs ⟨newB, ⟨#[]⟩ ++ b, 0⟩ hno
  have hm : (⟨newB, ⟨#[]⟩ ++ b, 0⟩ : Fl) ∈ putF fs newB b := by
    rw [e1]
    exact List.mem_append_right _ (List.mem_cons_self ..)
  obtain ⟨h1, h2⟩ := file_at hsi hm
  have h1' : (putF fs newB b)[pos (putF fs newB b) newB]? = some ⟨newB, ⟨#[]⟩ ++ b, 0⟩ := h1
  have e2 : modF (putF fs newB b) newB (fun f => { f with su := f.all.size }) = (putF fs newB b).set (pos (putF fs newB b) newB) ⟨newB, ⟨#[]⟩ ++ b, (⟨#[]⟩ ++ b : ByteArray).size⟩ := by
    unfold modF
    rw [h1']
  rw [e2]
  have hs2 : Sorted ((putF fs newB b).set (pos (putF fs newB b) newB) ⟨newB, ⟨#[]⟩ ++ b, (⟨#[]⟩ ++ b : ByteArray).size⟩) := by
    refine sorted_of_names hsi ?_
    unfold names
    rw [List.map_set]
    apply List.ext_getElem?
    intro k
    rw [List.getElem?_set]
    split
    · rename_i hk
      subst hk
      rw [List.getElem?_map, h1']
      have := (List.getElem?_eq_some_iff.1 h1').1
      simp [this]
    · rfl
  have hm2 := set_self h1' ⟨newB, ⟨#[]⟩ ++ b, (⟨#[]⟩ ++ b : ByteArray).size⟩
  obtain ⟨h3, h4⟩ := file_at hs2 hm2
  unfold fileF
  have h3' := h3
  simp only at h3' h4
  rw [h3']
  simp only [h4, if_true]
theorem w1_gone {R : Int} {i j : Nat} {S : DS} (h : DInv R i j S) (hon : S.on = true) (h0 : (w1 S).2 = 0) : has (w1 S).1.fs newB = false := by
  unfold w1 at h0 ⊢
  split at h0
  · rename_i hh
    rw [if_pos hh]
    unfold removeD at h0 ⊢
    rw [if_neg (by simp [hon]), if_neg (by simp [hh])] at h0 ⊢
    rcases opD_cases S (fun fs => delF fs newB) hon with ⟨h1, h2⟩ | ⟨h1, h2, h3⟩
    · rw [h1] at h0; exact absurd h0 (by decide)
    · rw [h2]
      exact has_del h.sorted newB
  · rename_i hh
    rw [if_neg hh]
    simpa using hh
/-- what a write leaves: the file Main as it was, or what was to be written, which is sure -/
theorem writeB_law {R : Int} {i j : Nat} {S : DS} (h : DInv R i j S) (hon : S.on = true) {b : ByteArray} :
    ((writeB S b).2 ≠ 0 → Same S.fs (writeB S b).1.fs) ∧ ((writeB S b).2 = 0 → ∃ f ∈ (writeB S b).1.fs, f.nm = mainB ∧ f.all = b ∧ f.su = f.all.size) := by
  obtain ⟨s1, o1⟩ := w1_same hon
  unfold writeB
  by_cases e1 : (w1 S).2 = 0
  · rw [if_neg (by simp [e1])]
    have on1 := o1 e1
    obtain ⟨s2, o2⟩ := app_same on1 b
    have s2' : Same S.fs (w2 S b).1.fs := s1.trans s2
    by_cases e2 : (w2 S b).2 = 0
    · rw [if_neg (by simp [e2])]
      obtain ⟨on2, f2⟩ := o2 e2
      obtain ⟨s3, o3⟩ := sync_same on2
      have s3' : Same S.fs (w3 S b).1.fs := s2'.trans s3
      by_cases e3 : (w3 S b).2 = 0
      · rw [if_neg (by simp [e3])]
        obtain ⟨on3, hh3, f3⟩ := o3 e3
        obtain ⟨s4, o4⟩ := ren_same on3
        refine ⟨fun h4 => s3'.trans (s4 h4), fun h4 => ?_⟩
        have e4 : (w4 S b).1.fs = renF (w3 S b).1.fs newB mainB := o4 h4
        rw [e4]
        have hf : fileF (w3 S b).1.fs newB = ⟨newB, ⟨#[]⟩ ++ b, (⟨#[]⟩ ++ b : ByteArray).size⟩ := by
          have e5 : (w3 S b).1.fs = modF (putF (w1 S).1.fs newB b) newB fun f => { f with su := f.all.size } := by
            rw [← f2]
            exact f3
          rw [e5]
          exact put_file (w1_inv h).sorted (w1_gone h hon e1) b
        refine ⟨_, new_renF (w3 S b).1.fs newB mainB, rfl, ?_, ?_⟩
        · rw [hf]
          exact ByteArray.empty_append
        · rw [hf]
      · rw [if_pos e3]
        exact ⟨fun _ => s3', fun h => absurd h e3⟩
    · rw [if_pos e2]
      exact ⟨fun _ => s2', fun h => absurd h e2⟩
  · rw [if_pos e1]
    exact ⟨fun _ => s1, fun h => absurd h e1⟩
/-- the file Main is sure -/
def MainSure (fs : List Fl) : Prop := ∀ f ∈ fs, f.nm = mainB → f.su = f.all.size
theorem up_main {R : Int} {i j : Nat} {S : DS} (h : DInv R i j S) (hm : MainSure S.fs) (ks : List Int) : Same S.fs (upD S ks).fs ∧ MainSure (upD S ks).fs := by
  have hup := (upD_inv h ks).1
  have fwd : ∀ x ∈ S.fs, x.nm = mainB → x ∈ (upD S ks).fs := fun x hx hn => by
    obtain ⟨r, hr⟩ := mem_upL S.fs ks x hx
    have : (upOne x r).1 = x := by unfold upOne; rw [if_pos (hm x hx hn)]
    rw [this] at hr
    exact hr
  have bwd : ∀ x ∈ (upD S ks).fs, x.nm = mainB → x ∈ S.fs := fun x hx hn => by
    have hnm := (upL_facts S.fs ks h.sure).1
    have : x.nm ∈ names (upL S.fs ks).1 := List.mem_map.2 ⟨x, hx, rfl⟩
    rw [hnm] at this
    obtain ⟨g, hg, e⟩ := List.mem_map.1 this
    have := uniqD hup.sorted (fwd g hg (by rw [e]; exact hn)) hx e
    rw [← this]
    exact hg
  exact ⟨fun x hn => ⟨fun hx => fwd x hx hn, fun hx => bwd x hx hn⟩, fun x hx hn => hm x (bwd x hx hn) hn⟩
theorem read_none {S : DS} (hs : Sorted S.fs) (hon : S.on = true) {nm : ByteArray} (h : ∀ f ∈ S.fs, f.nm ≠ nm) : readD S nm = (⟨#[]⟩, 7) := by
  have hh : has S.fs nm = false := by
    rw [Bool.eq_false_iff]
    intro hc
    obtain ⟨f, hf, e⟩ := (has_iff hs nm).1 hc
    exact h f hf e
  unfold readD
  rw [if_neg (by simp [hon])]
  split
  · rw [if_neg (by simp [hh])]
  · rfl
theorem read_same {S T : DS} (hs : Sorted S.fs) (ht : Sorted T.fs) (hon : S.on = true) (hot : T.on = true) (h : Same S.fs T.fs) : readMD T = readMD S := by
  have : readD T mainB = readD S mainB := by
    by_cases he : ∃ f ∈ S.fs, f.nm = mainB
    · obtain ⟨f, hf, e⟩ := he
      rw [← e, read_at hs hon hf, read_at ht hot ((h f e).1 hf)]
    · rw [read_none hs hon (fun f hf e => he ⟨f, hf, e⟩), read_none ht hot (fun f hf e => he ⟨f, (h f e).2 hf, e⟩)]
  unfold readMD
  rw [this]
/-- WHEREVER IT CRASHES, and whatever is kept -/
theorem swap_law {R : Int} {i j : Nat} {S : DS} (h : DInv R i j S) (hon : S.on = true) (hm : MainSure S.fs) (m : Mn) (h1 : m.1 ≤ 9223372036854775807) (h2 : m.2 ≤ 9223372036854775807) (ks : List Int) :
    MainSure (upD (writeD S m).1 ks).fs ∧ ((writeD S m).2 ≠ 0 → readMD (upD (writeD S m).1 ks) = readMD S) ∧ ((writeD S m).2 = 0 → readMD (upD (writeD S m).1 ks) = (m, 0)) := by
  have hw := writeD_inv h m
  have hup := (upD_inv hw ks).1
  have same : Same S.fs (writeD S m).1.fs → MainSure (upD (writeD S m).1 ks).fs ∧ readMD (upD (writeD S m).1 ks) = readMD S := fun hs => by
    have hm2 : MainSure (writeD S m).1.fs := fun f hf e => hm f ((hs f e).2 hf) e
    obtain ⟨u1, u2⟩ := up_main hw hm2 ks
    exact ⟨u2, read_same h.sorted hup.sorted hon rfl (hs.trans u1)⟩
  by_cases hmay : mayM m = true
  · have e : writeD S m = writeB S (bytesM m) := by unfold writeD; rw [if_pos hmay]
    obtain ⟨l1, l2⟩ := writeB_law h hon (b := bytesM m)
    rw [← e] at l1 l2
    by_cases h0 : (writeD S m).2 = 0
    · obtain ⟨f, hf, e1, e2, e3⟩ := l2 h0
      have hm2 : MainSure (writeD S m).1.fs := fun g hg eg => by
        have := uniqD hw.sorted hg hf (by rw [eg, e1])
        rw [this]
        exact e3
      obtain ⟨u1, u2⟩ := up_main hw hm2 ks
      refine ⟨u2, fun hc => absurd h0 hc, fun _ => ?_⟩
      have hr := read_at hup.sorted (S := upD (writeD S m).1 ks) rfl ((u1 f e1).1 hf)
      rw [e1, e2] at hr
      unfold readMD
      rw [hr, if_neg (by simp)]
      show takeM (bodyM m ++ crc4 (bodyM m)).toArray.toList = _
      exact takeM_put m hmay h1 h2
    · obtain ⟨q1, q2⟩ := same (l1 h0)
      exact ⟨q1, fun _ => q2, fun hc => absurd hc h0⟩
  · have e : writeD S m = (S, 1) := by unfold writeD; rw [if_neg hmay]
    obtain ⟨q1, q2⟩ := same (by rw [e]; exact Same.rfl' _)
    refine ⟨q1, fun _ => q2, fun hc => ?_⟩
    rw [e] at hc
    exact absurd hc (by simp only; decide)
end Go.Proofs.YtabccphcoojbjaaDoor
