/- Layer 33: a disk's segments, plain: what a removal, and a cut, of the last of them do · Layer 33: any disk whose files are all sure has segments; what a scan needs of it · Layer 33: what a repair does to a disk's segments, plain · Layer 33: behind a repair a scan tells the same frames (plain). -/
import Derived.Test.YtcpmicinibfepaaGreatDoorWBm
import Derived.Test.YtcpmicinibfepaaGreatDoorWBn
namespace Go.Proofs.YtcpmicinibfepaaGreatDoor
open Go.ChangeShapes Go.WideShapes Go.ChangeAt Go.RowKit Go.Deep DiskP NameP FrameP


/-- a segment as a file, all of it sure -/
def segF (x : Int × FrameP.Bs) : Fl := ⟨tB x.1, ⟨x.2.toArray⟩, x.2.length⟩
/-- a disk's segments, and that all its files are sure -/
structure RepS (S : DS) (l : Sgs) : Prop where
  ex : ∃ X O, Sim S X ∧ X.fs = l.map segF ++ O ∧ (∀ o ∈ O, (kB o.nm).1 ≠ 1) ∧ (∀ o ∈ O, o.su = o.all.size)
  range : ∀ x ∈ l, 1 ≤ x.1 ∧ x.1 ≤ 999999999999999999
  rise : (l.map (·.1)).Pairwise (· < ·)
theorem rem_op {S X : DS} (hs : Sorted S.fs) (h : Sim S X) (hon : S.on = true) {nm : ByteArray} {f : Fl} (hat : X.fs[fnd X.fs nm]? = some f) :
    ((removeD S nm).2 = 0 ∧ (removeD S nm).1.on = true ∧ (S.fuse = -1 → (removeD S nm).1.fuse = -1) ∧ ∃ X', Sim (removeD S nm).1 X' ∧ X'.fs = outX X.fs nm) ∨
    ((removeD S nm).2 = 9 ∧ (removeD S nm).1.on = false ∧ S.fuse ≠ -1 ∧ ∃ X', Sim (removeD S nm).1 X' ∧ X'.fs = X.fs) := by
  have h1 := do_sim hs h 4 nm ⟨#[]⟩ 0 (by omega)
  simp only [show ¬ (4 : Int) = 2 by decide, show ¬ (4 : Int) = 3 by decide, if_false, if_true] at h1
  obtain ⟨h2, h3⟩ := h1
  have hXon : X.on = true := h.on.trans hon
  have hdo : doX X 4 nm ⟨#[]⟩ 0 = opD X fun L => doT L 4 nm ⟨#[]⟩ 0 := by
    unfold doX
    rw [if_neg (by simp [hXon]), hat]
    simp
  have hT : doT X.fs 4 nm ⟨#[]⟩ 0 = outX X.fs nm := by
    unfold doT
    rw [hat]
    simp only [show ¬ (4 : Int) = 2 by decide, show ¬ (4 : Int) = 3 by decide, if_false, if_true]
  rw [hdo] at h2 h3
  rcases blow_cases X hXon with ⟨e1, e2, e3⟩ | ⟨e1, e2, e3⟩
  · have ho : opD X (fun L => doT L 4 nm ⟨#[]⟩ 0) = ({ (blow X).1 with fs := outX X.fs nm }, 0) := by unfold opD; rw [if_neg (by rw [e1]; decide)]; simp only [hT]
    rw [ho] at h2 h3
    exact .inl ⟨h3.symm, h2.on.symm.trans e2, fun hf => h2.fuse.symm.trans (e3 (h.fuse.trans hf)), _, h2, rfl⟩
  · have ho : opD X (fun L => doT L 4 nm ⟨#[]⟩ 0) = ((blow X).1, 9) := by unfold opD; rw [if_pos e1]
    rw [ho] at h2 h3
    exact .inr ⟨h3.symm, h2.on.symm.trans e2, fun hf => e3 (h.fuse.trans hf), _, h2, (blow_fs X).1⟩
theorem cut_op {S X : DS} (hs : Sorted S.fs) (h : Sim S X) (hon : S.on = true) {nm : ByteArray} {f : Fl} (hat : X.fs[fnd X.fs nm]? = some f) (n : Nat) (hn : n ≤ f.all.size) :
    ((cutD S nm n).2 = 0 ∧ (cutD S nm n).1.on = true ∧ (S.fuse = -1 → (cutD S nm n).1.fuse = -1) ∧ ∃ X', Sim (cutD S nm n).1 X' ∧ X'.fs = X.fs.set (fnd X.fs nm) ⟨nm, f.all.extract 0 n, min f.su n⟩) ∨
    ((cutD S nm n).2 = 9 ∧ (cutD S nm n).1.on = false ∧ S.fuse ≠ -1 ∧ ∃ X', Sim (cutD S nm n).1 X' ∧ X'.fs = X.fs) := by
  have h1 := do_sim hs h 5 nm ⟨#[]⟩ n (by omega)
  simp only [show ¬ (5 : Int) = 2 by decide, show ¬ (5 : Int) = 3 by decide, show ¬ (5 : Int) = 4 by decide, if_false] at h1
  obtain ⟨h2, h3⟩ := h1
  have hXon : X.on = true := h.on.trans hon
  have hdo : doX X 5 nm ⟨#[]⟩ n = opD X fun L => doT L 5 nm ⟨#[]⟩ n := by
    unfold doX
    rw [if_neg (by simp [hXon]), hat]
    simp only
    rw [if_neg (by omega), if_neg (by omega)]
  have hT : doT X.fs 5 nm ⟨#[]⟩ n = X.fs.set (fnd X.fs nm) ⟨nm, f.all.extract 0 n, min f.su n⟩ := by
    unfold doT
    rw [hat]
    simp only [show ¬ (5 : Int) = 2 by decide, show ¬ (5 : Int) = 3 by decide, show ¬ (5 : Int) = 4 by decide, if_false, Int.toNat_natCast]
  rw [hdo] at h2 h3
  rcases blow_cases X hXon with ⟨e1, e2, e3⟩ | ⟨e1, e2, e3⟩
  · have ho : opD X (fun L => doT L 5 nm ⟨#[]⟩ n) = ({ (blow X).1 with fs := X.fs.set (fnd X.fs nm) ⟨nm, f.all.extract 0 n, min f.su n⟩ }, 0) := by unfold opD; rw [if_neg (by rw [e1]; decide)]; simp only [hT]
    rw [ho] at h2 h3
    exact .inl ⟨h3.symm, h2.on.symm.trans e2, fun hf => h2.fuse.symm.trans (e3 (h.fuse.trans hf)), _, h2, rfl⟩
  · have ho : opD X (fun L => doT L 5 nm ⟨#[]⟩ n) = ((blow X).1, 9) := by unfold opD; rw [if_pos e1]
    rw [ho] at h2 h3
    exact .inr ⟨h3.symm, h2.on.symm.trans e2, fun hf => e3 (h.fuse.trans hf), _, h2, (blow_fs X).1⟩
/-- where the last of some segments stands -/
theorem seg_last {l : Sgs} {x : Int × FrameP.Bs} {O : List Fl} (hr : ∀ y ∈ l ++ [x], 1 ≤ y.1 ∧ y.1 ≤ 999999999999999999) (hp : ((l ++ [x]).map (·.1)).Pairwise (· < ·)) :
    (∀ g ∈ l.map segF, g.nm ≠ tB x.1) ∧ fnd ((l ++ [x]).map segF ++ O) (tB x.1) = l.length ∧ ((l ++ [x]).map segF ++ O)[l.length]? = some (segF x) := by
  have hne : ∀ g ∈ l.map segF, g.nm ≠ tB x.1 := fun g hg e => by
    obtain ⟨y, hy, rfl⟩ := List.mem_map.1 hg
    have h1 := tB_inj (hr y (List.mem_append_left _ hy)) (hr x (by simp)) e
    rw [List.map_append, List.pairwise_append] at hp
    have := hp.2.2 y.1 (List.mem_map_of_mem hy) x.1 (by simp)
    omega
  have hk : ((l ++ [x]).map segF ++ O)[l.length]? = some (segF x) := by
    rw [List.map_append, List.append_assoc, List.getElem?_append_right (by simp), List.length_map, Nat.sub_self]
    rfl
  refine ⟨hne, fnd_yes hk rfl (fun g hg => ?_), hk⟩
  rw [List.map_append, List.append_assoc, List.take_left' (by simp)] at hg
  exact hne g hg
theorem kind_ne {O : List Fl} (ho : ∀ o ∈ O, (kB o.nm).1 ≠ 1) {n : Int} (hn : 1 ≤ n ∧ n ≤ 999999999999999999) : ∀ o ∈ O, o.nm ≠ tB n := fun o h e => by
  have := ho o h
  rw [e, kB_tB hn] at this
  exact this rfl
/-- the last segment is taken away -/
theorem RepS.remove {S : DS} {l : Sgs} {x : Int × FrameP.Bs} (hs : Sorted S.fs) (hon : S.on = true) (h : RepS S (l ++ [x])) :
    ((removeD S (tB x.1)).2 = 0 ∧ (removeD S (tB x.1)).1.on = true ∧ (S.fuse = -1 → (removeD S (tB x.1)).1.fuse = -1) ∧ RepS (removeD S (tB x.1)).1 l) ∨
    ((removeD S (tB x.1)).2 = 9 ∧ (removeD S (tB x.1)).1.on = false ∧ S.fuse ≠ -1 ∧ RepS (removeD S (tB x.1)).1 (l ++ [x])) := by
  obtain ⟨X, O, hX, hf, ho, hsu⟩ := h.ex
  obtain ⟨q1, q2, q3⟩ := seg_last (O := O) h.range h.rise
  rw [← hf] at q2 q3
  have hrx := h.range x (by simp)
  rcases rem_op hs hX hon (nm := tB x.1) (f := segF x) (by rw [q2]; exact q3) with ⟨a1, a2, a3, X', a4, a5⟩ | ⟨a1, a2, a3, X', a4, a5⟩
  · refine .inl ⟨a1, a2, a3, ⟨X', O, a4, ?_, ho, hsu⟩, fun y hy => h.range y (List.mem_append_left _ hy), ?_⟩
    · rw [a5, hf]
      unfold outX
      have eO : O.filter (fun f => decide (f.nm ≠ tB x.1)) = O := List.filter_eq_self.2 (fun g hg => by simpa using kind_ne ho hrx g hg)
      have eL : (l.map segF).filter (fun f => decide (f.nm ≠ tB x.1)) = l.map segF := List.filter_eq_self.2 (fun g hg => by simpa using q1 g hg)
      have eX : ([x].map segF).filter (fun f => decide (f.nm ≠ tB x.1)) = [] := by simp [segF]
      rw [List.map_append, List.filter_append, List.filter_append, eL, eO, eX, List.append_nil]
    · have := h.rise
      rw [List.map_append, List.pairwise_append] at this
      exact this.1
  · exact .inr ⟨a1, a2, a3, ⟨X', O, a4, by rw [a5, hf], ho, hsu⟩, h.range, h.rise⟩
/-- the last segment is cut off -/
theorem RepS.cut {S : DS} {l : Sgs} {x : Int × FrameP.Bs} (hs : Sorted S.fs) (hon : S.on = true) (h : RepS S (l ++ [x])) (n : Nat) (hn : n ≤ x.2.length) :
    ((cutD S (tB x.1) n).2 = 0 ∧ (cutD S (tB x.1) n).1.on = true ∧ (S.fuse = -1 → (cutD S (tB x.1) n).1.fuse = -1) ∧ RepS (cutD S (tB x.1) n).1 (l ++ [(x.1, x.2.take n)])) ∨
    ((cutD S (tB x.1) n).2 = 9 ∧ (cutD S (tB x.1) n).1.on = false ∧ S.fuse ≠ -1 ∧ RepS (cutD S (tB x.1) n).1 (l ++ [x])) := by
  obtain ⟨X, O, hX, hf, ho, hsu⟩ := h.ex
  obtain ⟨q1, q2, q3⟩ := seg_last (O := O) h.range h.rise
  rw [← hf] at q2 q3
  rcases cut_op hs hX hon (nm := tB x.1) (f := segF x) (by rw [q2]; exact q3) n hn with ⟨a1, a2, a3, X', a4, a5⟩ | ⟨a1, a2, a3, X', a4, a5⟩
  · refine .inl ⟨a1, a2, a3, ⟨X', O, a4, ?_, ho, hsu⟩, fun y hy => ?_, ?_⟩
    · rw [a5, q2, hf, List.map_append, List.append_assoc, List.set_append_right _ _ (by simp), List.map_append, List.append_assoc]
      congr 1
      rw [List.length_map, Nat.sub_self]
      have e : ((segF x).all.extract 0 n) = ⟨(x.2.take n).toArray⟩ := by
        refine ByteArray.ext ?_
        refine Array.ext' ?_
        have := ex_list (segF x).all 0 n
        rw [this]
        simp [segF]
      show (⟨tB x.1, (segF x).all.extract 0 n, min x.2.length n⟩ : Fl) :: O = segF (x.1, x.2.take n) :: O
      rw [e]
      simp [segF, Nat.min_comm]
    · rcases List.mem_append.1 hy with hy | hy
      · exact h.range y (List.mem_append_left _ hy)
      · rw [List.mem_singleton.1 hy]; exact h.range x (by simp)
    · have := h.rise
      simpa using this
  · exact .inr ⟨a1, a2, a3, ⟨X', O, a4, by rw [a5, hf], ho, hsu⟩, h.range, h.rise⟩
end Go.Proofs.YtcpmicinibfepaaGreatDoor

namespace Go.Proofs.YtcpmicinibfepaaGreatDoor
open Go.ChangeShapes Go.WideShapes Go.ChangeAt Go.RowKit Go.Deep DiskP NameP FrameP


theorem used_mem_sum (F : List Fl) : used F = (F.map (·.all.size)).sum := by
  unfold used
  rfl
theorem numsA_app (k : Int) (a b : List ByteArray) : numsA k (a ++ b) = numsA k a ++ numsA k b := by
  rw [numsA_eq, numsA_eq, numsA_eq, List.filter_append, List.map_append]
theorem numsA_segs (l : Sgs) (hr : ∀ x ∈ l, 1 ≤ x.1 ∧ x.1 ≤ 999999999999999999) : numsA 1 (names (l.map segF)) = l.map (·.1) := by
  rw [numsA_eq]
  have e1 : ∀ s ∈ names (l.map segF), decide ((kB s).1 = 1) = true := fun s hs => by
    unfold names at hs
    rw [List.map_map] at hs
    obtain ⟨x, hx, rfl⟩ := List.mem_map.1 hs
    show decide ((kB (tB x.1)).1 = 1) = true
    rw [kB_tB (hr x hx)]
    rfl
  rw [List.filter_eq_self.2 e1]
  unfold names
  rw [List.map_map, List.map_map]
  refine List.map_congr_left fun x hx => ?_
  show (kB (tB x.1)).2 = x.1
  rw [kB_tB (hr x hx)]
theorem numsA_none (O : List Fl) (ho : ∀ o ∈ O, (kB o.nm).1 ≠ 1) : numsA 1 (names O) = [] := by
  rw [numsA_eq, List.filter_eq_nil_iff.2]
  · rfl
  · intro s hs
    unfold names at hs
    obtain ⟨o, h, rfl⟩ := List.mem_map.1 hs
    simpa using ho o h
theorem frS_bytes (l : Sgs) : 16 * (frS l).length ≤ (l.map (·.2.length)).sum := by
  induction l with
  | nil => simp [frS]
  | cons x r ih =>
    have h := whole_facts x.2.length x.2 x.1 (Nat.le_refl _)
    have e : frS (x :: r) = whole x.2 x.1 ++ frS r := by simp [frS]
    rw [e, List.length_append, List.map_cons, List.sum_cons]
    omega
theorem RepS.segsD {S : DS} {l : Sgs} {R : Int} {i j : Nat} (hI : DInv R i j S) (hj : j ≤ 160) (hon : S.on = true) (hsm : ∀ s ∈ names S.fs, s.size ≤ 100) (h : RepS S l) : SegsD S l := by
  obtain ⟨X, O, hX, hf, ho, hsu⟩ := h.ex
  have hp : (names X.fs).Perm (names S.fs) := hX.perm.map _
  have hA : numsA 1 (names X.fs) = l.map (·.1) := by
    rw [hf, names_app, numsA_app, numsA_segs l h.range, numsA_none O ho, List.append_nil]
  have hU : used S.fs = (l.map (·.2.length)).sum + used O := by
    rw [used_mem_sum, ← (hX.perm.map (·.all.size)).sum_nat, hf, List.map_append, List.sum_append, List.map_map, used_mem_sum]
    rfl
  have hsz := hI.size
  refine ⟨hon, hI.sorted, hI.many, hsm, ?_, fun k x hx => ?_, ?_⟩
  · rw [numsX_of hp (by rw [hA]; exact h.rise.imp (fun h => Int.le_of_lt h)), hA]
  · have hm : segF x ∈ S.fs := hX.perm.mem_iff.1 (by rw [hf]; exact List.mem_append_left _ (List.mem_map_of_mem (List.mem_of_getElem? hx)))
    have h1 := read_mem hI.sorted hon hm
    have h2 := size_le_used hm
    simp only [segF] at h1 h2
    refine ⟨h1, ?_⟩
    have e : (⟨x.2.toArray⟩ : ByteArray).size = x.2.length := by simp [ByteArray.size]
    omega
  · have := frS_bytes l
    omega
theorem kB_of {s : ByteArray} (h : (kB s).1 = 1) : tB (kB s).2 = s ∧ 1 ≤ (kB s).2 ∧ (kB s).2 ≤ 999999999999999999 := by
  have h2 := kind1_range _ h
  refine ⟨?_, h2⟩
  have h1 := of_kind s.data.toList (by unfold kB at h; omega)
  have h3 : (kindS s.data.toList).1 = 1 := h
  rw [h3] at h1
  unfold tB
  show S8 (ofS 1 (kindS s.data.toList).2) = s
  rw [h1]
  cases s with
  | mk d => simp [S8]
/-- any disk whose files are all sure has segments -/
theorem repS_of {S : DS} (hs : Sorted S.fs) (hsu : ∀ f ∈ S.fs, f.su = f.all.size) : ∃ l, RepS S l := by
  obtain ⟨K, hK⟩ : ∃ K, K = S.fs.filter (fun f => decide ((kB f.nm).1 = 1)) := ⟨_, rfl⟩
  have hKm : ∀ f ∈ K, f ∈ S.fs ∧ (kB f.nm).1 = 1 := fun f hf => by
    rw [hK] at hf
    have := List.mem_filter.1 hf
    exact ⟨this.1, by simpa using this.2⟩
  obtain ⟨g, hg⟩ : ∃ g : Int → Fl, g = fun n => (S.fs.find? fun f => decide (f.nm = tB n)).getD ⟨⟨#[]⟩, ⟨#[]⟩, 0⟩ := ⟨_, rfl⟩
  have hgK : ∀ f ∈ K, g (kB f.nm).2 = f := fun f hf => by
    obtain ⟨h1, h2⟩ := hKm f hf
    have h3 := (kB_of h2).1
    rw [hg]
    show (S.fs.find? fun f' => decide (f'.nm = tB (kB f.nm).2)).getD _ = f
    rw [h3]
    rcases hfd : S.fs.find? (fun f' => decide (f'.nm = f.nm)) with _ | f'
    · have := List.find?_eq_none.1 hfd f h1
      simp at this
    · have h4 := List.find?_some hfd
      have h5 := List.mem_of_find?_eq_some hfd
      rw [hfd]
      exact uniq hs h5 h1 (by simpa using h4)
  have hA : numsA 1 (names S.fs) = K.map fun f => (kB f.nm).2 := by
    rw [numsA_eq, hK]
    unfold names
    rw [List.filter_map, List.map_map]
    rfl
  have hns := (nums_both 1 (names S.fs)).2
  have hns' : (numsX 1 (names S.fs)).Perm (K.map fun f => (kB f.nm).2) := by rw [← hA]; exact hns
  have hnm : ∀ n ∈ numsX 1 (names S.fs), ∃ f ∈ K, (kB f.nm).2 = n := fun n hn => by
    obtain ⟨f, hf, e⟩ := List.mem_map.1 (hns'.mem_iff.1 hn)
    exact ⟨f, hf, e⟩
  refine ⟨(numsX 1 (names S.fs)).map fun n => (n, (g n).all.data.toList), ⟨{ S with fs := ((numsX 1 (names S.fs)).map fun n => (n, (g n).all.data.toList)).map segF ++ S.fs.filter (fun f => !decide ((kB f.nm).1 = 1)) }, S.fs.filter (fun f => !decide ((kB f.nm).1 = 1)), ⟨rfl, rfl, rfl, rfl, rfl, ?_⟩, rfl, fun o ho => ?_, fun o ho => hsu o (List.mem_filter.1 ho).1⟩, fun x hx => ?_, ?_⟩
  · have e1 : ((numsX 1 (names S.fs)).map fun n => (n, (g n).all.data.toList)).map segF = (numsX 1 (names S.fs)).map g := by
      rw [List.map_map]
      refine List.map_congr_left fun n hn => ?_
      obtain ⟨f, hf, rfl⟩ := hnm n hn
      obtain ⟨h1, h2⟩ := hKm f hf
      show segF ((kB f.nm).2, (g (kB f.nm).2).all.data.toList) = g (kB f.nm).2
      rw [hgK f hf]
      unfold segF
      obtain ⟨nm, al, su⟩ := f
      have h3 := hsu _ h1
      simp only at h3 h2 ⊢
      rw [(kB_of h2).1, h3]
      cases al with
      | mk d => simp [ByteArray.size]
    have e2 : (K.map fun f => (kB f.nm).2).map g = K := by
      rw [List.map_map]
      conv => rhs; rw [← List.map_id K]
      exact List.map_congr_left fun f hf => hgK f hf
    show List.Perm (List.map segF _ ++ List.filter _ S.fs) S.fs
    rw [e1]
    have p1 : ((numsX 1 (names S.fs)).map g).Perm K := by
      have := hns'.map g
      rwa [e2] at this
    have p2 := List.filter_append_perm (fun f : Fl => decide ((kB f.nm).1 = 1)) S.fs
    rw [← hK] at p2
    exact (p1.append_right _).trans p2
  · have := (List.mem_filter.1 ho).2
    simpa using this
  · obtain ⟨n, hn, rfl⟩ := List.mem_map.1 hx
    exact nums1_range _ n hn
  · rw [List.map_map]
    have e3 : (numsX 1 (names S.fs)).map ((·.1) ∘ fun n => (n, (g n).all.data.toList)) = numsX 1 (names S.fs) := by
      conv => rhs; rw [← List.map_id (numsX 1 (names S.fs))]
      rfl
    rw [e3]
    have hle := (nums_both 1 (names S.fs)).1
    have hnd : (numsX 1 (names S.fs)).Nodup := by
      rw [hns'.nodup_iff]
      have hkn : (names K).Nodup := by
        rw [hK]
        exact (sorted_nodup hs).sublist ((List.filter_sublist).map _)
      have hkp : K.Pairwise (fun a b => a.nm ≠ b.nm) := by
        unfold names at hkn
        exact List.pairwise_map.1 hkn
      refine List.pairwise_map.2 (hkp.imp_of_mem fun {a b} ha hb hab e => hab ?_)
      rw [← (kB_of (hKm a ha).2).1, ← (kB_of (hKm b hb).2).1, e]
    exact (hle.and hnd).imp fun h => by
      obtain ⟨h1, h2⟩ := h
      omega
end Go.Proofs.YtcpmicinibfepaaGreatDoor

namespace Go.Proofs.YtcpmicinibfepaaGreatDoor
open Go.ChangeShapes Go.WideShapes Go.ChangeAt Go.RowKit Go.Deep DiskP NameP FrameP


theorem whole_le (s : FrameP.Bs) (n : Int) : FrameP.bytes (whole s n) ≤ s.length := (whole_facts s.length s n (Nat.le_refl _)).1
theorem whole_zero {s : FrameP.Bs} {n : Int} (h : FrameP.bytes (whole s n) = 0) : whole s n = [] := by
  have := (whole_facts s.length s n (Nat.le_refl _)).2.1
  exact List.eq_nil_of_length_eq_zero (by omega)
/-- those ahead of one that is read are whole; its number is the wanted one -/
theorem cntS_mid : ∀ (l0 : Sgs) (x x' : Int × FrameP.Bs) (r : Sgs) (n : Int), l0.length < cntS (l0 ++ x :: r) n → x'.1 = x.1 →
    cntS (l0 ++ [x']) n = l0.length + 1 ∧ cntS l0 n = l0.length ∧ (∀ y ∈ l0, FrameP.bytes (whole y.2 y.1) = y.2.length) ∧ x.1 = n + (frS l0).length := by
  intro l0
  induction l0 with
  | nil =>
    intro x x' r n h hx
    simp only [List.nil_append, cntS] at h ⊢
    by_cases h1 : x.1 ≠ n
    · rw [if_pos h1] at h; simp at h
    · have h2 : x.1 = n := by simpa using h1
      rw [if_neg (by rw [hx]; exact h1)]
      refine ⟨?_, rfl, by simp, by simp [frS, h2]⟩
      split <;> rfl
  | cons y l0 ih =>
    intro x x' r n h hx
    simp only [List.cons_append, cntS, List.length_cons] at h ⊢
    by_cases h1 : y.1 ≠ n
    · rw [if_pos h1] at h; omega
    · rw [if_neg h1] at h ⊢
      rw [if_neg h1]
      by_cases h2 : FrameP.bytes (whole y.2 y.1) < y.2.length
      · rw [if_pos h2] at h; omega
      · rw [if_neg h2] at h ⊢
        rw [if_neg h2]
        obtain ⟨e1, e2, e3, e4⟩ := ih x x' r (n + (whole y.2 y.1).length) (by omega) hx
        refine ⟨by rw [e1], by rw [e2], fun z hz => ?_, ?_⟩
        · rcases List.mem_cons.1 hz with rfl | hz
          · have := whole_le z.2 z.1; omega
          · exact e3 z hz
        · have hy : frS (y :: l0) = whole y.2 y.1 ++ frS l0 := by simp [frS]
          rw [e4, hy, List.length_append]
          push_cast
          omega
/-- files of no use are taken away, from the last -/
theorem rem_all {R : Int} {j : Nat} : ∀ (ex : Sgs) (i : Nat) (S : DS) (l : Sgs), DInv R i j S → S.on = true → RepS S (l ++ ex) →
    ((remAll S ((ex.map fun x => tB x.1).reverse)).2 = 0 ∧ (remAll S ((ex.map fun x => tB x.1).reverse)).1.on = true ∧ (S.fuse = -1 → (remAll S ((ex.map fun x => tB x.1).reverse)).1.fuse = -1) ∧ RepS (remAll S ((ex.map fun x => tB x.1).reverse)).1 l) ∨
    ((remAll S ((ex.map fun x => tB x.1).reverse)).2 = 9 ∧ (remAll S ((ex.map fun x => tB x.1).reverse)).1.on = false ∧ S.fuse ≠ -1 ∧ ∃ m, RepS (remAll S ((ex.map fun x => tB x.1).reverse)).1 (l ++ ex.take m)) := by
  intro ex
  induction ex using RankP.snoc_ind with
  | h0 => intro i S l _ hon h; exact .inl ⟨rfl, hon, id, by rwa [List.append_nil] at h⟩
  | h1 ex x ih =>
    intro i S l hI hon h
    rw [List.map_append, List.reverse_append]
    simp only [List.map_cons, List.map_nil, List.reverse_cons, List.reverse_nil, List.nil_append, List.cons_append, remAll]
    rw [← List.append_assoc] at h
    rcases h.remove hI.sorted hon with ⟨a1, a2, a3, a4⟩ | ⟨a1, a2, a3, a4⟩
    · rw [if_neg (by rw [a1]; decide)]
      rcases ih (i + 1) _ l (removeD_inv hI (tB x.1)).1 a2 a4 with ⟨b1, b2, b3, b4⟩ | ⟨b1, b2, b3, m, b4⟩
      · exact .inl ⟨b1, b2, fun hf => b3 (a3 hf), b4⟩
      · refine .inr ⟨b1, b2, fun hf => b3 (a3 hf), min m ex.length, ?_⟩
        have e : ex.take (min m ex.length) = ex.take m := by
          rcases Nat.le_total m ex.length with h | h
          · rw [Nat.min_eq_left h]
          · rw [Nat.min_eq_right h, List.take_length, List.take_of_length_le h]
        rw [List.take_append_of_le_length (by omega), e]
        exact b4
    · rw [if_pos (by rw [a1]; decide)]
      refine .inr ⟨a1, a2, a3, ex.length + 1, ?_⟩
      rw [List.take_of_length_le (by simp), ← List.append_assoc]
      exact a4
end Go.Proofs.YtcpmicinibfepaaGreatDoor

namespace Go.Proofs.YtcpmicinibfepaaGreatDoor
open Go.ChangeShapes Go.WideShapes Go.ChangeAt Go.RowKit Go.Deep DiskP NameP FrameP


/-- a scan tells of a tail -/
def HasF (l : Sgs) (a : Int) : Prop := ¬ (frS (l.take (rdS l a)) = [] ∨ fst0 l + (frS (l.take (rdS l a))).length - 1 < a)
theorem scan_none {l : Sgs} {a : Int} (h : ¬ HasF l a) : scanF l a = ([], (none, 0), l.map (·.1)) := by
  unfold scanF
  rw [if_pos (Classical.not_not.1 h)]
theorem scan_some {l : Sgs} {a : Int} (h : HasF l a) : scanF l a = ((frS (l.take (rdS l a))).drop (a - fst0 l + 1).toNat, (l[rdS l a - 1]?.map (·.1), (l[rdS l a - 1]?.map fun x => FrameP.bytes (whole x.2 x.1)).getD 0), (l.drop (rdS l a)).map (·.1)) := by
  unfold scanF
  rw [if_neg h]
theorem scan_same {l l' : Sgs} {a : Int} (h : HasF l a) (h1 : frS (l'.take (rdS l' a)) = frS (l.take (rdS l a))) (h2 : fst0 l' = fst0 l) : HasF l' a ∧ (scanF l' a).1 = (scanF l a).1 := by
  have h' : HasF l' a := by unfold HasF; rw [h1, h2]; exact h
  exact ⟨h', by rw [scan_some h', scan_some h, h1, h2]⟩
theorem fst0_take {l : Sgs} {m : Nat} (hm : 0 < m) : fst0 (l.take m) = fst0 l := by
  cases l with
  | nil => simp
  | cons x r =>
    cases m with
    | zero => omega
    | succ m => rfl
theorem scan_take_none {l : Sgs} {a : Int} (h : ¬ HasF l a) (m : Nat) : (scanF (l.take m) a).1 = [] := by
  have e : ¬ HasF (l.take m) a := by
    intro hc
    apply hc
    have hq : (l.take m).take (rdS (l.take m) a) = (l.take (rdS l a)).take m := by
      rw [rdS_take, List.take_take, List.take_take]
      congr 1
      omega
    rw [hq]
    have hle := frS_take_le (l.take (rdS l a)) m
    rcases Nat.eq_zero_or_pos m with h0 | h0
    · left; rw [h0]; rfl
    · have h2 : frS (l.take (rdS l a)) = [] ∨ fst0 l + (frS (l.take (rdS l a))).length - 1 < a := Classical.not_not.1 h
      rcases h2 with h2 | h2
      · left
        rw [h2] at hle
        exact List.eq_nil_of_length_eq_zero (by simpa using hle)
      · right
        rw [fst0_take h0]
        omega
  rw [scan_none e]
theorem hasF_pos {l : Sgs} {a : Int} (h : HasF l a) : 0 < rdS l a := by
  rcases Nat.eq_zero_or_pos (rdS l a) with h0 | h0
  · exact absurd (.inl (by rw [h0]; rfl)) h
  · exact h0
theorem scan_take_some {l : Sgs} {a : Int} (h : HasF l a) {m : Nat} (hm : rdS l a ≤ m) : HasF (l.take m) a ∧ (scanF (l.take m) a).1 = (scanF l a).1 := by
  have hp := hasF_pos h
  refine scan_same h ?_ (fst0_take (by omega))
  rw [rdS_take, Nat.min_eq_right hm, List.take_take, Nat.min_eq_left hm]
/-- behind a repair -/
def FinS (l : Sgs) (a : Int) : Prop := l = [] ∨ (HasF l a ∧ rdS l a = l.length ∧ ∃ l0 x, l = l0 ++ [x] ∧ FrameP.bytes (whole x.2 x.1) = x.2.length ∧ 0 < x.2.length)
theorem rdS_mid {l0 r : Sgs} {x : Int × FrameP.Bs} {a : Int} (h : l0.length < rdS (l0 ++ x :: r) a) (x' : Int × FrameP.Bs) (hx : x'.1 = x.1) :
    rdS (l0 ++ [x']) a = l0.length + 1 ∧ rdS l0 a = l0.length ∧ (∀ y ∈ l0, FrameP.bytes (whole y.2 y.1) = y.2.length) ∧ x.1 = fst0 (l0 ++ x :: r) + (frS l0).length := by
  cases l0 with
  | nil =>
    simp only [List.nil_append, rdS, List.length_nil] at h ⊢
    by_cases h1 : a < x.1 - 1
    · rw [if_pos h1] at h; omega
    · rw [if_neg (by rw [hx]; exact h1)]
      have := cntS_mid [] x x' r x.1 (by rw [if_neg h1] at h; exact h) hx
      rw [hx]
      exact ⟨this.1, trivial, by simp, by simp [frS, fst0]⟩
  | cons y l0 =>
    simp only [List.cons_append, rdS] at h ⊢
    by_cases h1 : a < y.1 - 1
    · rw [if_pos h1] at h; omega
    · rw [if_neg h1] at h ⊢
      rw [if_neg h1]
      have := cntS_mid (y :: l0) x x' r y.1 h hx
      exact this
end Go.Proofs.YtcpmicinibfepaaGreatDoor
