/- Layer 7, plain: the disk and the document's disk go the same way. -/
import Derived.Test.YtmkaijjakcjflaaRefH
import Derived.Test.YtmkaijjakcjflaaSureP
namespace Go.Proofs.Ytmkaijjakcjflaa
open Go.ChangeShapes Go.WideShapes Go.ChangeAt Go.RowKit Go.Deep DiskP

structure Sim (S X : DS) : Prop where
  room : X.room = S.room
  made : X.made = S.made
  on : X.on = S.on
  fuse : X.fuse = S.fuse
  ops : X.ops = S.ops
  perm : X.fs.Perm S.fs
theorem uniq {fs : List Fl} (hs : Sorted fs) {f g : Fl} (hf : f ∈ fs) (hg : g ∈ fs) (h : f.nm = g.nm) : f = g := by
  have h1 := (file_at hs hf).1
  have h2 := (file_at hs hg).1
  rw [h] at h1
  rw [h1] at h2
  exact Option.some.inj h2
theorem fnd_get {L : List Fl} {nm : ByteArray} (h : ∃ f ∈ L, f.nm = nm) : ∃ f, L[fnd L nm]? = some f ∧ f.nm = nm := by
  have hl : fnd L nm < L.length := List.findIdx_lt_length_of_exists (by obtain ⟨f, hf, e⟩ := h; exact ⟨f, hf, by simpa using e⟩)
  refine ⟨L[fnd L nm], List.getElem?_eq_getElem hl, ?_⟩
  have : decide ((L[fnd L nm]'hl).nm = nm) = true := List.findIdx_getElem (w := hl)
  exact of_decide_eq_true this
theorem fnd_none {L : List Fl} {nm : ByteArray} (h : ∀ f ∈ L, f.nm ≠ nm) : ¬ fnd L nm < L.length := fun hc => by
  have : decide ((L[fnd L nm]'hc).nm = nm) = true := List.findIdx_getElem (w := hc)
  exact h _ (List.getElem_mem hc) (of_decide_eq_true this)
section
variable {F L : List Fl}
theorem sim_has (hs : Sorted F) (hp : L.Perm F) {nm : ByteArray} (h : has F nm = true) : ∃ f, F[pos F nm]? = some f ∧ f.nm = nm ∧ L[fnd L nm]? = some f ∧ fnd L nm < L.length := by
  obtain ⟨f, hf, e⟩ := has_some h
  have hm := List.mem_of_getElem? hf
  obtain ⟨g, hg, e2⟩ := fnd_get (L := L) (nm := nm) ⟨f, hp.mem_iff.2 hm, e⟩
  have : g = f := uniq hs (hp.mem_iff.1 (List.mem_of_getElem? hg)) hm (e2.trans e.symm)
  subst this
  exact ⟨g, hf, e, hg, (List.getElem?_eq_some_iff.1 hg).1⟩
theorem sim_not (hs : Sorted F) (hp : L.Perm F) {nm : ByteArray} (h : has F nm = false) : ¬ fnd L nm < L.length := fnd_none fun f hf e => by
  have := (has_iff hs nm).2 ⟨f, hp.mem_iff.1 hf, e⟩
  rw [h] at this; cases this
theorem set_perm {l l' : List Fl} (hp : l.Perm l') {i j : Nat} {f g : Fl} (hi : l[i]? = some f) (hj : l'[j]? = some f) : (l.set i g).Perm (l'.set j g) := by
  have e1 : ∀ {l : List Fl} {i : Nat} {f : Fl}, l[i]? = some f → l.Perm (f :: (l.take i ++ l.drop (i + 1))) := fun {l i f} h => by
    obtain ⟨h1, h2⟩ := List.getElem?_eq_some_iff.1 h
    have e : l = l.take i ++ f :: l.drop (i + 1) := by rw [← h2, ← List.drop_eq_getElem_cons h1, List.take_append_drop]
    exact (e ▸ List.Perm.refl l : l.Perm (l.take i ++ f :: l.drop (i + 1))).trans List.perm_middle
  have h1 := (e1 hi).symm.trans (hp.trans (e1 hj))
  rw [set_split hi, set_split hj]
  exact List.perm_middle.trans ((h1.cons_inv.cons g).trans List.perm_middle.symm)
theorem used_perm (hp : L.Perm F) : used L = used F := by
  unfold used
  exact List.Perm.sum_nat (hp.map _)
theorem put_perm (hs : Sorted F) (hp : L.Perm F) (nm s : ByteArray) : (putX L nm s).Perm (putF F nm s) := by
  cases h : has F nm with
  | true =>
    obtain ⟨f, h1, h2, h3, h4⟩ := sim_has hs hp h
    have e1 : putX L nm s = L.set (fnd L nm) { f with all := f.all ++ s } := by unfold putX; rw [h3]
    have e2 : putF F nm s = F.set (pos F nm) { f with all := f.all ++ s } := by unfold putF; rw [h1]; simp [h]
    rw [e1, e2]
    exact set_perm hp h3 h1
  | false =>
    have h4 := sim_not hs hp h
    have e1 : putX L nm s = L ++ [⟨nm, ⟨#[]⟩ ++ s, 0⟩] := by unfold putX; rw [List.getElem?_eq_none (by omega)]
    have e2 : putF F nm s = F.take (pos F nm) ++ ⟨nm, ⟨#[]⟩ ++ s, 0⟩ :: F.drop (pos F nm) := by unfold putF; split <;> simp [h]
    rw [e1, e2]
    refine (List.perm_append_singleton _ _).trans ((List.Perm.cons _ ?_).trans List.perm_middle.symm)
    rw [List.take_append_drop]
    exact hp
theorem out_sorted (hs : Sorted F) (nm : ByteArray) : outX F nm = delF F nm := by
  cases h : has F nm with
  | true =>
    obtain ⟨f, hf, e⟩ := has_some h
    obtain ⟨h1, h2⟩ := List.getElem?_eq_some_iff.1 hf
    have hd : delF F nm = F.take (pos F nm) ++ F.drop (pos F nm + 1) := by unfold delF; rw [if_pos h]
    have hno : ∀ g ∈ delF F nm, g.nm ≠ nm := fun g hg e => by
      have := (has_iff (sorted_del hs nm) nm).2 ⟨g, hg, e⟩
      rw [has_del hs] at this; cases this
    rw [hd] at hno ⊢
    have hF : F = F.take (pos F nm) ++ f :: F.drop (pos F nm + 1) := by rw [← h2, ← List.drop_eq_getElem_cons h1, List.take_append_drop]
    unfold outX
    conv => lhs; rw [hF]
    rw [List.filter_append, List.filter_cons_of_neg (by simpa using e), List.filter_eq_self.2 (fun g hg => by simpa using hno g (List.mem_append_left _ hg)), List.filter_eq_self.2 (fun g hg => by simpa using hno g (List.mem_append_right _ hg))]
  | false =>
    have hd : delF F nm = F := by unfold delF; rw [if_neg (by simp [h])]
    rw [hd]
    exact List.filter_eq_self.2 fun g hg => by
      have : g.nm ≠ nm := fun e => by
        have := (has_iff hs nm).2 ⟨g, hg, e⟩
        rw [h] at this; cases this
      simpa using this
theorem out_perm (hs : Sorted F) (hp : L.Perm F) (nm : ByteArray) : (outX L nm).Perm (delF F nm) := by
  rw [← out_sorted hs]
  exact hp.filter _
theorem ren_perm (hs : Sorted F) (hp : L.Perm F) (fr to_ : ByteArray) {f : Fl} (hf : F[pos F fr]? = some f) (hh : has F fr = true) : (outX (outX L fr) to_ ++ [(⟨to_, f.all, f.su⟩ : Fl)]).Perm (renF F fr to_) := by
  have hfile : fileF F fr = f := by unfold fileF; rw [hf]; simp [hh]
  unfold renF
  simp only
  rw [hfile]
  refine (List.perm_append_singleton _ _).trans ((List.Perm.cons _ ?_).trans List.perm_middle.symm)
  rw [List.take_append_drop]
  exact out_perm (sorted_del hs fr) (out_perm hs hp fr) to_
/-- names, in their order -/
theorem insN_sorted {out : List ByteArray} (hs : List.Pairwise (fun a b => cmpN a b < 0) out) (nm : ByteArray) (hn : nm ∉ out) : List.Pairwise (fun a b => cmpN a b < 0) (insN out nm) := by
  have h1 : Sorted (out.map fun a => (⟨a, a, 0⟩ : Fl)) := by unfold Sorted; rw [List.pairwise_map]; exact hs
  have hh : has (out.map fun a => (⟨a, a, 0⟩ : Fl)) nm = false := by
    cases h : has (out.map fun a => (⟨a, a, 0⟩ : Fl)) nm with
    | false => rfl
    | true =>
      obtain ⟨f, hf, e⟩ := (has_iff h1 nm).1 h
      obtain ⟨a, ha, rfl⟩ := List.mem_map.1 hf
      exact absurd (e ▸ ha) hn
  have hp : pos (out.map fun a => (⟨a, a, 0⟩ : Fl)) nm = posN out nm := by
    unfold pos posN
    rw [List.takeWhile_map, List.length_map]
    rfl
  have h2 := sorted_ins h1 ⟨nm, nm, 0⟩ hh
  rw [sorted_names] at h2
  unfold names at h2
  simp only [hp, List.map_append, List.map_cons, List.map_take, List.map_drop, List.map_map] at h2
  unfold insN
  simpa [Function.comp_def] using h2
theorem namesX_sorted (L : List Fl) (hn : (names L).Nodup) : List.Pairwise (fun a b => cmpN a b < 0) (namesX L) ∧ (namesX L).Perm (names L) := by
  induction L using RankP.snoc_ind with
  | h0 => exact ⟨List.Pairwise.nil, List.Perm.refl _⟩
  | h1 l x ih =>
    unfold names at hn
    rw [List.map_append, List.map_cons, List.map_nil, List.nodup_append] at hn
    obtain ⟨i1, i2⟩ := ih hn.1
    have hx : x.nm ∉ namesX l := fun hc => hn.2.2 x.nm (namesX_mem.1 hc) x.nm (by simp) rfl
    rw [namesX_snoc]
    refine ⟨insN_sorted i1 _ hx, ?_⟩
    unfold insN names
    rw [List.map_append]
    refine List.perm_middle.trans ?_
    rw [List.take_append_drop]
    exact (i2.cons _).trans (List.perm_append_singleton _ _).symm
theorem names_sim (hs : Sorted F) (hp : L.Perm F) : namesX L = names F := by
  have hF := (sorted_names F).1 hs
  have hnd : (names F).Nodup := hF.imp (fun {a b} h e => by subst e; rw [cmpN_self] at h; omega)
  have hpn : (names L).Perm (names F) := hp.map _
  obtain ⟨h1, h2⟩ := namesX_sorted L (hpn.nodup_iff.2 hnd)
  exact List.Perm.eq_of_pairwise (le := fun a b => cmpN a b < 0) (fun a b _ _ h1 h2 => by have := cmpN_anti a b; omega) h1 hF (h2.trans hpn)
end
end Go.Proofs.Ytmkaijjakcjflaa
