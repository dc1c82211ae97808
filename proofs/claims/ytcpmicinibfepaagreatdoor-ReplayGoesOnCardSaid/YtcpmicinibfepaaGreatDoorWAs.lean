/- Walks of layer 7 (disk): Rename · Layer 7 (disk), plain: what holds of a disk holds behind each call · Layer 7 (disk), plain: any act. -/
import Derived.Test.YtcpmicinibfepaaGreatDoorWAq
import Derived.Test.YtcpmicinibfepaaGreatDoorWAr
namespace Go.Proofs.YtcpmicinibfepaaGreatDoor
open Go.ChangeShapes Go.WideShapes Go.ChangeAt Go.RowKit Go.Deep DiskP


/-- three boxes are laid: a disk's address, two names -/
def three (w : World) (d : Nat) (fr to_ : ByteArray) : World := (two w d fr).alloc (.cells #[.string to_] 9)
theorem three_facts (w : World) (d : Nat) (fr to_ : ByteArray) : (three w d fr to_).heap[w.heap.size]? = some (.cells #[.pointer (some ⟨d, 0, none⟩)] 25 (0, 0)) ∧ (three w d fr to_).heap[w.heap.size + 1]? = some (.cells #[.string fr] 9 (0, 0)) ∧ (three w d fr to_).heap[w.heap.size + 1 + 1]? = some (.cells #[.string to_] 9 (0, 0)) ∧ Below w.heap.size w (three w d fr to_) := by
  obtain ⟨h1, h2, h3, h4⟩ := two_facts w d fr
  refine ⟨kept_new h2 _, kept_new h3 _, ?_, ?_⟩
  · have := heap_alloc_new (two w d fr) (.cells #[.string to_] 9)
    rw [h1] at this
    exact this
  · unfold three
    exact below_alloc' _ h4
end Go.Proofs.YtcpmicinibfepaaGreatDoor

namespace Go.Proofs.YtcpmicinibfepaaGreatDoor
open Go.ChangeShapes Go.WideShapes Go.ChangeAt Go.RowKit Go.Deep DiskP


theorem used_app (a b : List Fl) : used (a ++ b) = used a + used b := by unfold used; simp
theorem used_cons (f : Fl) (b : List Fl) : used (f :: b) = f.all.size + used b := by unfold used; simp
theorem used_sub {a b : List Fl} (h : List.Sublist a b) : used a ≤ used b := by
  induction h with
  | slnil => exact Nat.le_refl _
  | cons f _ ih => rw [used_cons]; omega
  | cons_cons f _ ih => rw [used_cons, used_cons]; omega
theorem used_split {fs : List Fl} {p : Nat} {f : Fl} (h : fs[p]? = some f) : used fs = used (fs.take p) + f.all.size + used (fs.drop (p + 1)) := by
  obtain ⟨h1, h2⟩ := List.getElem?_eq_some_iff.1 h
  have e : fs = fs.take p ++ f :: fs.drop (p + 1) := by rw [← h2, ← List.drop_eq_getElem_cons h1, List.take_append_drop]
  conv => lhs; rw [e]
  rw [used_app, used_cons]; omega
theorem set_split {fs : List Fl} {p : Nat} {f g : Fl} (h : fs[p]? = some f) : fs.set p g = fs.take p ++ g :: fs.drop (p + 1) := by
  obtain ⟨h1, h2⟩ := List.getElem?_eq_some_iff.1 h
  rw [List.set_eq_take_append_cons_drop, if_pos h1]
/-- the names alone -/
def names (fs : List Fl) : List ByteArray := fs.map (·.nm)
theorem sorted_names (fs : List Fl) : Sorted fs ↔ List.Pairwise (fun a b => cmpN a b < 0) (names fs) := by
  unfold Sorted names
  rw [List.pairwise_map]
theorem sorted_of_names {a b : List Fl} (h : Sorted a) (e : names b = names a) : Sorted b := by
  rw [sorted_names] at h ⊢
  rw [e]; exact h
theorem names_set {fs : List Fl} {p : Nat} {f g : Fl} (h : fs[p]? = some f) (hn : g.nm = f.nm) : names (fs.set p g) = names fs := by
  obtain ⟨h1, h2⟩ := List.getElem?_eq_some_iff.1 h
  unfold names
  rw [List.map_set, hn, ← h2]
  have : (fs.map (·.nm))[p]'(by simpa using h1) = fs[p].nm := by simp
  rw [← this, List.set_getElem_self]
/-- a sorted list has a name just where it is found -/
theorem has_iff {fs : List Fl} (hs : Sorted fs) (nm : ByteArray) : has fs nm = true ↔ ∃ f ∈ fs, f.nm = nm := by
  constructor
  · intro h
    obtain ⟨f, hf, e⟩ := has_some h
    exact ⟨f, List.mem_of_getElem? hf, e⟩
  · rintro ⟨f, hf, rfl⟩
    obtain ⟨k, hk, e⟩ := List.getElem_of_mem hf
    have hk' : fs[k]? = some f := by rw [List.getElem?_eq_getElem hk, e]
    have hp : pos fs f.nm = k := pos_uniq (by omega) (fun j g hj hg => sorted_lt hs hj hg hk') (fun g hg => by rw [hk'] at hg; obtain rfl := Option.some.inj hg; rw [cmpN_self]; omega)
    unfold has
    rw [hp, hk']
    simp [cmpN_self]
/-- a name that is not there is put where it belongs -/
theorem sorted_ins {fs : List Fl} (hs : Sorted fs) (f : Fl) (hn : has fs f.nm = false) : Sorted (fs.take (pos fs f.nm) ++ f :: fs.drop (pos fs f.nm)) := by
  have hlt : ∀ g ∈ fs.take (pos fs f.nm), cmpN g.nm f.nm < 0 := fun g hg => by
    obtain ⟨k, hk, e⟩ := List.getElem_of_mem hg
    have hk2 : k < pos fs f.nm := by rw [List.length_take] at hk; omega
    have : fs[k]? = some g := by
      rw [← e, List.getElem_take]
      exact List.getElem?_eq_getElem _
    exact pos_lt hk2 this
  have hgt : ∀ g ∈ fs.drop (pos fs f.nm), cmpN f.nm g.nm < 0 := fun g hg => by
    obtain ⟨k, hk, e⟩ := List.getElem_of_mem hg
    have hk3 : fs[pos fs f.nm + k]? = some g := by
      rw [← e, List.getElem_drop]
      exact List.getElem?_eq_getElem _
    have h0 : 0 ≤ cmpN g.nm f.nm := by
      obtain ⟨f0, hf0⟩ : ∃ f0, fs[pos fs f.nm]? = some f0 := ⟨fs[pos fs f.nm]'(by have := (List.getElem?_eq_some_iff.1 hk3).1; omega), List.getElem?_eq_getElem _⟩
      exact search_ge hs hf0 (by have := pos_ge hf0; omega) _ g (by omega) hk3
    have h1 : cmpN g.nm f.nm ≠ 0 := fun h => by
      have := (has_iff hs f.nm).2 ⟨g, List.mem_of_getElem? hk3, cmpN_zero h⟩
      rw [hn] at this; cases this
    have := cmpN_anti f.nm g.nm
    omega
  unfold Sorted at hs ⊢
  rw [List.pairwise_append, List.pairwise_cons]
  refine ⟨hs.sublist (List.take_sublist _ _), ⟨hgt, hs.sublist (List.drop_sublist _ _)⟩, fun a ha b hb => ?_⟩
  rcases List.mem_cons.1 hb with rfl | hb
  · exact hlt a ha
  · exact cmpN_trans (hlt a ha) (hgt b hb)
/-- what is taken out is not there -/
theorem has_del {fs : List Fl} (hs : Sorted fs) (nm : ByteArray) : has (delF fs nm) nm = false := by
  cases h : has fs nm with
  | false => unfold delF; rw [if_neg (by simp [h])]; exact h
  | true =>
    cases hd : has (delF fs nm) nm with
    | false => rfl
    | true =>
      obtain ⟨g, hg, rfl⟩ := (has_iff (sorted_del hs nm) nm).1 hd
      obtain ⟨f, hf, hfn⟩ := has_some h
      unfold delF at hg
      rw [if_pos h] at hg
      rcases List.mem_append.1 hg with hg | hg
      · obtain ⟨k, hk, e⟩ := List.getElem_of_mem hg
        have hk2 : k < pos fs g.nm := by rw [List.length_take] at hk; omega
        have h0 : (fs.take (pos fs g.nm))[k]? = some g := by rw [List.getElem?_eq_getElem hk, e]
        rw [List.getElem?_take, if_pos hk2] at h0
        have := h0
        have := pos_lt hk2 this
        rw [cmpN_self] at this
        omega
      · obtain ⟨k, hk, e⟩ := List.getElem_of_mem hg
        have hk3 : (fs.drop (pos fs g.nm + 1))[k]? = some g := by rw [List.getElem?_eq_getElem hk, e]
        rw [List.getElem?_drop] at hk3
        have := sorted_lt hs (i := pos fs g.nm) (by omega) hf hk3
        rw [hfn, cmpN_self] at this
        omega

/-- what holds of a disk behind i calls: no more bytes than room, nor than j hundreds -/
structure DInv (R : Int) (i j : Nat) (S : DS) : Prop where
  sorted : Sorted S.fs
  many : S.fs.length ≤ 64
  sure : ∀ f ∈ S.fs, f.su ≤ f.all.size
  full : (used S.fs : Int) ≤ S.room
  room : S.room = R ∧ 0 ≤ R ∧ R ≤ 9223372036854775807
  made : S.made = true
  size : used S.fs ≤ 100 * j
  fuse : -1 ≤ S.fuse ∧ S.fuse ≤ 9223372036854775807
  ops : 0 ≤ S.ops ∧ S.ops ≤ i
theorem DInv.ok {R : Int} {i j : Nat} {S : DS} (h : DInv R i j S) (hi : i ≤ 1000) (hj : j ≤ 1000) : OkD S :=
  ⟨h.sorted, h.many, h.sure, h.full, by rw [h.room.1]; exact h.room.2, by have := h.size; omega, h.fuse, by have := h.ops; omega⟩
theorem DInv.more {R : Int} {i j i' j' : Nat} {S : DS} (h : DInv R i j S) (hi : i ≤ i') (hj : j ≤ j') : DInv R i' j' S :=
  { h with size := by have := h.size; omega, ops := by have := h.ops; omega }
theorem DInv.fs {R : Int} {i j k : Nat} {S : DS} (h : DInv R i j S) {fs : List Fl} (h1 : Sorted fs) (h2 : fs.length ≤ 64) (h3 : ∀ f ∈ fs, f.su ≤ f.all.size) (h4 : (used fs : Int) ≤ S.room) (h5 : used fs ≤ 100 * k) : DInv R i k { S with fs := fs } :=
  ⟨h1, h2, h3, h4, h.room, h.made, h5, h.fuse, h.ops⟩
theorem blow_inv {R : Int} {i j : Nat} {S : DS} (h : DInv R i j S) : DInv R (i + 1) j (blow S).1 ∧ (blow S).1.ops = S.ops + 1 := by
  have ho := h.ops
  have hf := h.fuse
  have hm := h.more (Nat.le_succ i) (Nat.le_refl j)
  unfold blow
  split
  · exact ⟨{ hm with ops := by simp only; omega }, rfl⟩
  · split
    · exact ⟨{ hm with ops := by simp only; omega, fuse := by simp only; omega }, rfl⟩
    · exact ⟨{ hm with ops := by simp only; omega, fuse := by simp only; omega }, rfl⟩
theorem begun_inv {R : Int} {i j : Nat} {S : DS} (h : DInv R i j S) : DInv R (i + 1) j (begun S).1 ∧ (begun S).1.ops = S.ops + 1 := blow_inv h
/-- an operation, where what it makes of the files is as it must be -/
theorem opD_inv {R : Int} {i j : Nat} {S : DS} (h : DInv R i j S) (t : List Fl → List Fl) (h1 : Sorted (t S.fs)) (h2 : (t S.fs).length ≤ 64) (h3 : ∀ f ∈ t S.fs, f.su ≤ f.all.size) (h4 : used (t S.fs) ≤ used S.fs) : DInv R (i + 1) j (opD S t).1 ∧ (opD S t).1.ops = S.ops + 1 := by
  obtain ⟨b1, b2⟩ := blow_inv h
  have hs := h.size
  have hfu := h.full
  unfold opD
  split
  · exact ⟨b1, b2⟩
  · refine ⟨b1.fs h1 h2 h3 ?_ (by omega), b2⟩
    rw [(blow_fs S).2.1]
    omega
theorem mem_set {fs : List Fl} {p : Nat} {g f : Fl} (h : f ∈ fs.set p g) : f = g ∨ f ∈ fs := by
  rcases List.mem_or_eq_of_mem_set h with h | h
  · exact .inr h
  · exact .inl h
/-- one file is turned, its name kept, and it is not longer -/
theorem modF_inv {R : Int} {i j : Nat} {S : DS} (h : DInv R i j S) (nm : ByteArray) (t : Fl → Fl) (h1 : ∀ f ∈ S.fs, (t f).nm = f.nm ∧ (t f).su ≤ (t f).all.size ∧ (t f).all.size ≤ f.all.size) : DInv R (i + 1) j (opD S fun fs => modF fs nm t).1 ∧ (opD S fun fs => modF fs nm t).1.ops = S.ops + 1 := by
  have hkey : Sorted (modF S.fs nm t) ∧ (modF S.fs nm t).length ≤ 64 ∧ (∀ f ∈ modF S.fs nm t, f.su ≤ f.all.size) ∧ used (modF S.fs nm t) ≤ used S.fs := by
    unfold modF
    split
    · rename_i f hf
      obtain ⟨a1, a2, a3⟩ := h1 f (List.mem_of_getElem? hf)
      refine ⟨sorted_of_names h.sorted (names_set hf a1), by rw [List.length_set]; exact h.many, fun x hx => ?_, ?_⟩
      · rcases mem_set hx with rfl | hx
        · exact a2
        · exact h.sure x hx
      · rw [set_split hf, used_split hf, used_app, used_cons]
        omega
    · exact ⟨h.sorted, h.many, h.sure, Nat.le_refl _⟩
  exact opD_inv h _ hkey.1 hkey.2.1 hkey.2.2.1 hkey.2.2.2
theorem syncD_inv {R : Int} {i j : Nat} {S : DS} (h : DInv R i j S) (nm : ByteArray) : DInv R (i + 1) j (syncD S nm).1 ∧ S.ops ≤ (syncD S nm).1.ops ∧ (syncD S nm).1.ops ≤ S.ops + 1 := by
  unfold syncD
  split
  · exact ⟨h.more (by omega) (Nat.le_refl _), by simp only; omega, by simp only; omega⟩
  · split
    · exact ⟨h.more (by omega) (Nat.le_refl _), by simp only; omega, by simp only; omega⟩
    · obtain ⟨a, b⟩ := modF_inv h nm (fun f => { f with su := f.all.size }) (fun f _ => ⟨rfl, Nat.le_refl _, Nat.le_refl _⟩)
      exact ⟨a, by omega, by omega⟩
theorem cutD_inv {R : Int} {i j : Nat} {S : DS} (h : DInv R i j S) (nm : ByteArray) (n : Int) : DInv R (i + 1) j (cutD S nm n).1 ∧ S.ops ≤ (cutD S nm n).1.ops ∧ (cutD S nm n).1.ops ≤ S.ops + 1 := by
  unfold cutD
  split
  · exact ⟨h.more (by omega) (Nat.le_refl _), by simp only; omega, by simp only; omega⟩
  · split
    · exact ⟨h.more (by omega) (Nat.le_refl _), by simp only; omega, by simp only; omega⟩
    · split
      · exact ⟨h.more (by omega) (Nat.le_refl _), by simp only; omega, by simp only; omega⟩
      · obtain ⟨a, b⟩ := modF_inv h nm (cutFl n.toNat) (fun f hf => ⟨rfl, by have := h.sure f hf; unfold cutFl; simp only [ByteArray.size_extract]; omega, by unfold cutFl; simp only [ByteArray.size_extract]; omega⟩)
        exact ⟨a, by omega, by omega⟩
theorem removeD_inv {R : Int} {i j : Nat} {S : DS} (h : DInv R i j S) (nm : ByteArray) : DInv R (i + 1) j (removeD S nm).1 ∧ S.ops ≤ (removeD S nm).1.ops ∧ (removeD S nm).1.ops ≤ S.ops + 1 := by
  unfold removeD
  split
  · exact ⟨h.more (by omega) (Nat.le_refl _), by simp only; omega, by simp only; omega⟩
  · split
    · exact ⟨h.more (by omega) (Nat.le_refl _), by simp only; omega, by simp only; omega⟩
    · have hs := delF_sub S.fs nm
      obtain ⟨a, b⟩ := opD_inv h (fun fs => delF fs nm) (sorted_del h.sorted nm) (Nat.le_trans hs.length_le h.many) (fun f hf => h.sure f (hs.subset hf)) (used_sub hs)
      exact ⟨a, by omega, by omega⟩
theorem ren_used {fs : List Fl} (hs : Sorted fs) (fr to_ : ByteArray) (hh : has fs fr = true) : Sorted (renF fs fr to_) ∧ (renF fs fr to_).length ≤ fs.length ∧ used (renF fs fr to_) ≤ used fs ∧ (∀ f ∈ renF fs fr to_, ∃ g ∈ fs, f.su = g.su ∧ f.all = g.all) := by
  obtain ⟨f, hf, _⟩ := has_some hh
  have hfile : fileF fs fr = f := by unfold fileF; rw [hf]; simp [hh]
  have hdel : delF fs fr = fs.take (pos fs fr) ++ fs.drop (pos fs fr + 1) := by unfold delF; rw [if_pos hh]
  have hs1 := sorted_del hs fr
  have hs2 := sorted_del hs1 to_
  have hsub := delF_sub (delF fs fr) to_
  have hpl := (List.getElem?_eq_some_iff.1 hf).1
  have l1 : (delF fs fr).length + 1 = fs.length := by rw [hdel, List.length_append, List.length_take, List.length_drop]; omega
  have u1 : used (delF fs fr) + f.all.size = used fs := by rw [hdel, used_split hf, used_app]; omega
  have hp := pos_le (delF (delF fs fr) to_) to_
  unfold renF
  simp only
  rw [hfile]
  refine ⟨sorted_ins hs2 { f with nm := to_ } (has_del hs1 to_), ?_, ?_, fun x hx => ?_⟩
  · rw [ins_len _ _ _ hp]
    have := hsub.length_le
    omega
  · rw [used_app, used_cons]
    have e := used_app ((delF (delF fs fr) to_).take (pos (delF (delF fs fr) to_) to_)) ((delF (delF fs fr) to_).drop (pos (delF (delF fs fr) to_) to_))
    rw [List.take_append_drop] at e
    have := used_sub hsub
    simp only
    omega
  · rcases List.mem_append.1 hx with hx | hx
    · exact ⟨x, (delF_sub fs fr).subset (hsub.subset (List.mem_of_mem_take hx)), rfl, rfl⟩
    · rcases List.mem_cons.1 hx with rfl | hx
      · exact ⟨f, List.mem_of_getElem? hf, rfl, rfl⟩
      · exact ⟨x, (delF_sub fs fr).subset (hsub.subset (List.mem_of_mem_drop hx)), rfl, rfl⟩
theorem renameD_inv {R : Int} {i j : Nat} {S : DS} (h : DInv R i j S) (fr to_ : ByteArray) : DInv R (i + 1) j (renameD S fr to_).1 ∧ S.ops ≤ (renameD S fr to_).1.ops ∧ (renameD S fr to_).1.ops ≤ S.ops + 1 := by
  unfold renameD
  split
  · exact ⟨h.more (by omega) (Nat.le_refl _), by simp only; omega, by simp only; omega⟩
  · split
    · exact ⟨h.more (by omega) (Nat.le_refl _), by simp only; omega, by simp only; omega⟩
    · rename_i hh
      split
      · exact ⟨h.more (by omega) (Nat.le_refl _), by simp only; omega, by simp only; omega⟩
      · obtain ⟨r1, r2, r3, r4⟩ := ren_used h.sorted fr to_ (by simpa using hh)
        obtain ⟨a, b⟩ := opD_inv h (fun fs => renF fs fr to_) r1 (Nat.le_trans r2 h.many) (fun f hf => by obtain ⟨g, hg, e1, e2⟩ := r4 f hf; rw [e1, e2]; exact h.sure g hg) r3
        exact ⟨a, by omega, by omega⟩
end Go.Proofs.YtcpmicinibfepaaGreatDoor

namespace Go.Proofs.YtcpmicinibfepaaGreatDoor
open Go.ChangeShapes Go.WideShapes Go.ChangeAt Go.RowKit Go.Deep DiskP


theorem appendD_inv {R : Int} {i j : Nat} {S : DS} (h : DInv R i j S) (nm s : ByteArray) (hs : s.size ≤ 100) : DInv R (i + 1) (j + 1) (appendD S nm s).1 ∧ S.ops ≤ (appendD S nm s).1.ops ∧ (appendD S nm s).1.ops ≤ S.ops + 1 := by
  have hsz := h.size
  unfold appendD
  split
  · exact ⟨h.more (by omega) (by omega), by simp only; omega, by simp only; omega⟩
  · split
    · exact ⟨h.more (by omega) (by omega), by simp only; omega, by simp only; omega⟩
    · split
      · exact ⟨h.more (by omega) (by omega), by simp only; omega, by simp only; omega⟩
      · rename_i hno
        have hfit : (used S.fs : Int) + (s.size : Int) ≤ S.room := by
          have := fun hh => hno (.inl hh)
          omega
        have hkey : Sorted (putF S.fs nm s) ∧ (putF S.fs nm s).length ≤ 64 ∧ (∀ f ∈ putF S.fs nm s, f.su ≤ f.all.size) ∧ used (putF S.fs nm s) = used S.fs + s.size := by
          cases hh : has S.fs nm with
          | true =>
            obtain ⟨f, hf, _⟩ := has_some hh
            have hput : putF S.fs nm s = S.fs.set (pos S.fs nm) { f with all := f.all ++ s } := by unfold putF; rw [hf]; simp [hh]
            rw [hput]
            refine ⟨sorted_of_names h.sorted (names_set hf rfl), by rw [List.length_set]; exact h.many, fun x hx => ?_, ?_⟩
            · rcases mem_set hx with rfl | hx
              · have := h.sure f (List.mem_of_getElem? hf)
                simp only [ByteArray.size_append]
                omega
              · exact h.sure x hx
            · rw [set_split hf, used_split hf, used_app, used_cons]
              simp only [ByteArray.size_append]
              omega
          | false =>
            have hput : putF S.fs nm s = S.fs.take (pos S.fs nm) ++ ⟨nm, ⟨#[]⟩ ++ s, 0⟩ :: S.fs.drop (pos S.fs nm) := by unfold putF; split <;> simp [hh]
            have h64 : ¬ 64 ≤ S.fs.length := fun hc => hno (.inr ⟨hh, hc⟩)
            have hp := pos_le S.fs nm
            have hu := used_app (S.fs.take (pos S.fs nm)) (S.fs.drop (pos S.fs nm))
            rw [List.take_append_drop] at hu
            rw [hput]
            refine ⟨sorted_ins h.sorted ⟨nm, ⟨#[]⟩ ++ s, 0⟩ hh, by rw [ins_len _ _ _ hp]; omega, fun x hx => ?_, ?_⟩
            · rcases List.mem_append.1 hx with hx | hx
              · exact h.sure x (List.mem_of_mem_take hx)
              · rcases List.mem_cons.1 hx with rfl | hx
                · exact Nat.zero_le _
                · exact h.sure x (List.mem_of_mem_drop hx)
            · rw [used_app, used_cons]
              have e0 : (⟨#[]⟩ ++ s : ByteArray).size = s.size := by rw [ByteArray.size_append]; exact Nat.zero_add _
              simp only [e0]
              omega
        obtain ⟨a, b⟩ := begun_inv (h.fs (k := j + 1) hkey.1 hkey.2.1 hkey.2.2.1 (by rw [hkey.2.2.2]; push_cast; exact hfit) (by rw [hkey.2.2.2]; omega))
        have b' : (begun { S with fs := putF S.fs nm s }).1.ops = S.ops + 1 := b
        exact ⟨a, by omega, by omega⟩
theorem upOne_facts (f : Fl) (ks : List Int) (hf : f.su ≤ f.all.size) : (upOne f ks).1.nm = f.nm ∧ (upOne f ks).1.su ≤ (upOne f ks).1.all.size ∧ (upOne f ks).1.all.size ≤ f.all.size := by
  unfold upOne
  split
  · exact ⟨rfl, hf, Nat.le_refl _⟩
  · split
    · simp only [ByteArray.size_extract]; exact ⟨trivial, by omega, by omega⟩
    · simp only [ByteArray.size_extract]; exact ⟨trivial, by omega, by omega⟩
theorem upL_facts (fs : List Fl) (ks : List Int) : (∀ f ∈ fs, f.su ≤ f.all.size) → names (upL fs ks).1 = names fs ∧ (∀ f ∈ (upL fs ks).1, f.su ≤ f.all.size) ∧ used (upL fs ks).1 ≤ used fs := by
  induction fs using RankP.snoc_ind with
  | h0 => intro _; exact ⟨rfl, fun f hf => by simp [upL] at hf, Nat.le_refl _⟩
  | h1 l x ih =>
    intro h
    obtain ⟨h1, h2, h3⟩ := ih (fun f hf => h f (List.mem_append_left _ hf))
    obtain ⟨u1, u2, u3⟩ := upOne_facts x (upL l ks).2 (h x (by simp))
    rw [upL_snoc]
    refine ⟨?_, fun f hf => ?_, ?_⟩
    · unfold names at h1 ⊢
      simp only [List.map_append, List.map_cons, List.map_nil, h1, u1]
    · rcases List.mem_append.1 hf with hf | hf
      · exact h2 f hf
      · rw [List.mem_singleton.1 hf]; exact u2
    · rw [used_app, used_app, used_cons, used_cons]
      simp only [used, List.map_nil, List.sum_nil] at h3 ⊢
      omega
theorem upD_inv {R : Int} {i j : Nat} {S : DS} (h : DInv R i j S) (ks : List Int) : DInv R i j (upD S ks) ∧ (upD S ks).ops = S.ops := by
  obtain ⟨h1, h2, h3⟩ := upL_facts S.fs ks h.sure
  have hfu := h.full
  have hsz := h.size
  refine ⟨⟨sorted_of_names h.sorted h1, by unfold upD; simp only [upL_length]; exact h.many, h2, ?_, h.room, h.made, ?_, by unfold upD; simp only; omega, h.ops⟩, rfl⟩
  · unfold upD; simp only; omega
  · unfold upD; simp only; omega
/-- an act -/
structure Ac where
  kind : Int
  nm : ByteArray
  to_ : ByteArray
  s : ByteArray
  n : Int
  Ak : Option Addr
  ck : Nat
  ks : List Int
def actD (S : DS) (a : Ac) : DS × Int :=
  if a.kind = 1 then appendD S a.nm a.s
  else if a.kind = 2 then syncD S a.nm
  else if a.kind = 3 then renameD S a.nm a.to_
  else if a.kind = 4 then removeD S a.nm
  else if a.kind = 5 then cutD S a.nm a.n
  else if a.kind = 6 then ({ S with fuse := max a.n (-1) }, 0)
  else if a.kind = 7 then ({ S with on := false, fuse := -1 }, 0)
  else if a.kind = 8 then (upD S a.ks, 0)
  else (S, 0)
theorem actD_inv {R : Int} {i : Nat} {S : DS} (h : DInv R i i S) (a : Ac) (hs : a.s.size ≤ 100) (hn : a.n ≤ 9223372036854775807) : DInv R (i + 1) (i + 1) (actD S a).1 ∧ S.ops ≤ (actD S a).1.ops ∧ (actD S a).1.ops ≤ S.ops + 1 := by
  have hm : DInv R (i + 1) (i + 1) S := h.more (by omega) (by omega)
  have up : ∀ T : DS, DInv R (i + 1) i T → DInv R (i + 1) (i + 1) T := fun T hT => hT.more (Nat.le_refl _) (by omega)
  unfold actD
  split
  · exact appendD_inv h a.nm a.s hs
  · split
    · obtain ⟨x, y⟩ := syncD_inv h a.nm; exact ⟨up _ x, y⟩
    · split
      · obtain ⟨x, y⟩ := renameD_inv h a.nm a.to_; exact ⟨up _ x, y⟩
      · split
        · obtain ⟨x, y⟩ := removeD_inv h a.nm; exact ⟨up _ x, y⟩
        · split
          · obtain ⟨x, y⟩ := cutD_inv h a.nm a.n; exact ⟨up _ x, y⟩
          · split
            · exact ⟨{ hm with fuse := by simp only; omega }, by simp only; omega, by simp only; omega⟩
            · split
              · exact ⟨{ hm with fuse := by simp only; omega }, by simp only; omega, by simp only; omega⟩
              · split
                · obtain ⟨x, y⟩ := upD_inv h a.ks
                  exact ⟨x.more (by omega) (by omega), by show S.ops ≤ (upD S a.ks).ops; omega, by show (upD S a.ks).ops ≤ _; omega⟩
                · exact ⟨hm, by simp only; omega, by simp only; omega⟩
/-- with the disk not up nothing changes, but by Up -/
theorem actD_off {S : DS} (a : Ac) (hoff : S.on = false) (hk : a.kind ≠ 8) : (actD S a).1.on = false ∧ (actD S a).1.fs = S.fs ∧ (actD S a).1.ops = S.ops ∧ (1 ≤ a.kind → a.kind ≤ 5 → (actD S a).2 = 9) := by
  unfold actD appendD syncD renameD removeD cutD
  simp only [hoff, if_true]
  split
  · exact ⟨hoff, rfl, rfl, fun _ _ => rfl⟩
  · split
    · exact ⟨hoff, rfl, rfl, fun _ _ => rfl⟩
    · split
      · exact ⟨hoff, rfl, rfl, fun _ _ => rfl⟩
      · split
        · exact ⟨hoff, rfl, rfl, fun _ _ => rfl⟩
        · split
          · exact ⟨hoff, rfl, rfl, fun _ _ => rfl⟩
          · split
            · exact ⟨by first | rfl | exact hoff, rfl, rfl, fun _ h2 => by omega⟩
            · split
              · exact ⟨rfl, rfl, rfl, fun _ h2 => by omega⟩
              · exact ⟨hoff, rfl, rfl, fun _ _ => by omega⟩
end Go.Proofs.YtcpmicinibfepaaGreatDoor
