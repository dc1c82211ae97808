/- Layer 7, plain: the disk and the document's disk go the same way · Layer 7, plain: whatever is done, the disk and the document's disk go the same way. -/
import Derived.Test.YtcpmicinibfepaaGreatDoorWAx
import Derived.Test.YtcpmicinibfepaaGreatDoorWAu
namespace Go.Proofs.YtcpmicinibfepaaGreatDoor
open Go.ChangeShapes Go.WideShapes Go.ChangeAt Go.RowKit Go.Deep DiskP


structure Sim (S X : DS) : Prop where
  room : X.room = S.room
  made : X.made = S.made
  on : X.on = S.on
  fuse : X.fuse = S.fuse
  ops : X.ops = S.ops
  perm : X.fs.Perm S.fs
theorem uniq {fs : List Fl} (hs : Sorted fs) {f g : Fl} (hf : f ∈ fs) (hg : g ∈ fs) (h : f.nm = g.nm) : f = g := by
  have h1 := (file_at hs hf).1
  have h2 := (file_at hs hg).1
  rw [h] at h1
  rw [h1] at h2
  exact Option.some.inj h2
theorem fnd_get {L : List Fl} {nm : ByteArray} (h : ∃ f ∈ L, f.nm = nm) : ∃ f, L[fnd L nm]? = some f ∧ f.nm = nm := by
  have hl : fnd L nm < L.length := List.findIdx_lt_length_of_exists (by obtain ⟨f, hf, e⟩ := h; exact ⟨f, hf, by simpa using e⟩)
  refine ⟨L[fnd L nm], List.getElem?_eq_getElem hl, ?_⟩
  have : decide ((L[fnd L nm]'hl).nm = nm) = true := List.findIdx_getElem (w := hl)
  exact of_decide_eq_true this
theorem fnd_none {L : List Fl} {nm : ByteArray} (h : ∀ f ∈ L, f.nm ≠ nm) : ¬ fnd L nm < L.length := fun hc => by
  have : decide ((L[fnd L nm]'hc).nm = nm) = true := List.findIdx_getElem (w := hc)
  exact h _ (List.getElem_mem hc) (of_decide_eq_true this)
section
variable {F L : List Fl}
theorem sim_has (hs : Sorted F) (hp : L.Perm F) {nm : ByteArray} (h : has F nm = true) : ∃ f, F[pos F nm]? = some f ∧ f.nm = nm ∧ L[fnd L nm]? = some f ∧ fnd L nm < L.length := by
  obtain ⟨f, hf, e⟩ := has_some h
  have hm := List.mem_of_getElem? hf
  obtain ⟨g, hg, e2⟩ := fnd_get (L := L) (nm := nm) ⟨f, hp.mem_iff.2 hm, e⟩
  have : g = f := uniq hs (hp.mem_iff.1 (List.mem_of_getElem? hg)) hm (e2.trans e.symm)
  subst this
  exact ⟨g, hf, e, hg, (List.getElem?_eq_some_iff.1 hg).1⟩
theorem sim_not (hs : Sorted F) (hp : L.Perm F) {nm : ByteArray} (h : has F nm = false) : ¬ fnd L nm < L.length := fnd_none fun f hf e => by
  have := (has_iff hs nm).2 ⟨f, hp.mem_iff.1 hf, e⟩
  rw [h] at this; cases this
theorem set_perm {l l' : List Fl} (hp : l.Perm l') {i j : Nat} {f g : Fl} (hi : l[i]? = some f) (hj : l'[j]? = some f) : (l.set i g).Perm (l'.set j g) := by
  have e1 : ∀ {l : List Fl} {i : Nat} {f : Fl}, l[i]? = some f → l.Perm (f :: (l.take i ++ l.drop (i + 1))) := fun {l i f} h => by
    obtain ⟨h1, h2⟩ := List.getElem?_eq_some_iff.1 h
    have e : l = l.take i ++ f :: l.drop (i + 1) := by rw [← h2, ← List.drop_eq_getElem_cons h1, List.take_append_drop]
    exact (e ▸ List.Perm.refl l : l.Perm (l.take i ++ f :: l.drop (i + 1))).trans List.perm_middle
  have h1 := (e1 hi).symm.trans (hp.trans (e1 hj))
  rw [set_split hi, set_split hj]
  exact List.perm_middle.trans ((h1.cons_inv.cons g).trans List.perm_middle.symm)
theorem used_perm (hp : L.Perm F) : used L = used F := by
  unfold used
  exact List.Perm.sum_nat (hp.map _)
theorem put_perm (hs : Sorted F) (hp : L.Perm F) (nm s : ByteArray) : (putX L nm s).Perm (putF F nm s) := by
  cases h : has F nm with
  | true =>
    obtain ⟨f, h1, h2, h3, h4⟩ := sim_has hs hp h
    have e1 : putX L nm s = L.set (fnd L nm) { f with all := f.all ++ s } := by unfold putX; rw [h3]
    have e2 : putF F nm s = F.set (pos F nm) { f with all := f.all ++ s } := by unfold putF; rw [h1]; simp [h]
    rw [e1, e2]
    exact set_perm hp h3 h1
  | false =>
    have h4 := sim_not hs hp h
    have e1 : putX L nm s = L ++ [⟨nm, ⟨#[]⟩ ++ s, 0⟩] := by unfold putX; rw [List.getElem?_eq_none (by omega)]
    have e2 : putF F nm s = F.take (pos F nm) ++ ⟨nm, ⟨#[]⟩ ++ s, 0⟩ :: F.drop (pos F nm) := by unfold putF; split <;> simp [h]
    rw [e1, e2]
    refine (List.perm_append_singleton _ _).trans ((List.Perm.cons _ ?_).trans List.perm_middle.symm)
    rw [List.take_append_drop]
    exact hp
theorem out_sorted (hs : Sorted F) (nm : ByteArray) : outX F nm = delF F nm := by
  cases h : has F nm with
  | true =>
    obtain ⟨f, hf, e⟩ := has_some h
    obtain ⟨h1, h2⟩ := List.getElem?_eq_some_iff.1 hf
    have hd : delF F nm = F.take (pos F nm) ++ F.drop (pos F nm + 1) := by unfold delF; rw [if_pos h]
    have hno : ∀ g ∈ delF F nm, g.nm ≠ nm := fun g hg e => by
      have := (has_iff (sorted_del hs nm) nm).2 ⟨g, hg, e⟩
      rw [has_del hs] at this; cases this
    rw [hd] at hno ⊢
    have hF : F = F.take (pos F nm) ++ f :: F.drop (pos F nm + 1) := by rw [← h2, ← List.drop_eq_getElem_cons h1, List.take_append_drop]
    unfold outX
    conv => lhs; rw [hF]
    rw [List.filter_append, List.filter_cons_of_neg (by simpa using e), List.filter_eq_self.2 (fun g hg => by simpa using hno g (List.mem_append_left _ hg)), List.filter_eq_self.2 (fun g hg => by simpa using hno g (List.mem_append_right _ hg))]
  | false =>
    have hd : delF F nm = F := by unfold delF; rw [if_neg (by simp [h])]
    rw [hd]
    exact List.filter_eq_self.2 fun g hg => by
      have : g.nm ≠ nm := fun e => by
        have := (has_iff hs nm).2 ⟨g, hg, e⟩
        rw [h] at this; cases this
      simpa using this
theorem out_perm (hs : Sorted F) (hp : L.Perm F) (nm : ByteArray) : (outX L nm).Perm (delF F nm) := by
  rw [← out_sorted hs]
  exact hp.filter _
theorem ren_perm (hs : Sorted F) (hp : L.Perm F) (fr to_ : ByteArray) {f : Fl} (hf : F[pos F fr]? = some f) (hh : has F fr = true) : (outX (outX L fr) to_ ++ [(⟨to_, f.all, f.su⟩ : Fl)]).Perm (renF F fr to_) := by
  have hfile : fileF F fr = f := by unfold fileF; rw [hf]; simp [hh]
  unfold renF
  simp only
  rw [hfile]
  refine (List.perm_append_singleton _ _).trans ((List.Perm.cons _ ?_).trans List.perm_middle.symm)
  rw [List.take_append_drop]
  exact out_perm (sorted_del hs fr) (out_perm hs hp fr) to_
/-- names, in their order -/
theorem insN_sorted {out : List ByteArray} (hs : List.Pairwise (fun a b => cmpN a b < 0) out) (nm : ByteArray) (hn : nm ∉ out) : List.Pairwise (fun a b => cmpN a b < 0) (insN out nm) := by
  have h1 : Sorted (out.map fun a => (⟨a, a, 0⟩ : Fl)) := by unfold Sorted; rw [List.pairwise_map]; exact hs
  have hh : has (out.map fun a => (⟨a, a, 0⟩ : Fl)) nm = false := by
    cases h : has (out.map fun a => (⟨a, a, 0⟩ : Fl)) nm with
    | false => rfl
    | true =>
      obtain ⟨f, hf, e⟩ := (has_iff h1 nm).1 h
      obtain ⟨a, ha, rfl⟩ := List.mem_map.1 hf
      exact absurd (e ▸ ha) hn
  have hp : pos (out.map fun a => (⟨a, a, 0⟩ : Fl)) nm = posN out nm := by
    unfold pos posN
    rw [List.takeWhile_map, List.length_map]
    rfl
  have h2 := sorted_ins h1 ⟨nm, nm, 0⟩ hh
  rw [sorted_names] at h2
  unfold names at h2
  simp only [hp, List.map_append, List.map_cons, List.map_take, List.map_drop, List.map_map] at h2
  unfold insN
  simpa [Function.comp_def] using h2
theorem namesX_sorted (L : List Fl) (hn : (names L).Nodup) : List.Pairwise (fun a b => cmpN a b < 0) (namesX L) ∧ (namesX L).Perm (names L) := by
  induction L using RankP.snoc_ind with
  | h0 => exact ⟨List.Pairwise.nil, List.Perm.refl _⟩
  | h1 l x ih =>
    unfold names at hn
    rw [List.map_append, List.map_cons, List.map_nil, List.nodup_append] at hn
    obtain ⟨i1, i2⟩ := ih hn.1
    have hx : x.nm ∉ namesX l := fun hc => hn.2.2 x.nm (namesX_mem.1 hc) x.nm (by simp) rfl
    rw [namesX_snoc]
    refine ⟨insN_sorted i1 _ hx, ?_⟩
    unfold insN names
    rw [List.map_append]
    refine List.perm_middle.trans ?_
    rw [List.take_append_drop]
    exact (i2.cons _).trans (List.perm_append_singleton _ _).symm
theorem names_sim (hs : Sorted F) (hp : L.Perm F) : namesX L = names F := by
  have hF := (sorted_names F).1 hs
  have hnd : (names F).Nodup := hF.imp (fun {a b} h e => by subst e; rw [cmpN_self] at h; omega)
  have hpn : (names L).Perm (names F) := hp.map _
  obtain ⟨h1, h2⟩ := namesX_sorted L (hpn.nodup_iff.2 hnd)
  exact List.Perm.eq_of_pairwise (le := fun a b => cmpN a b < 0) (fun a b _ _ h1 h2 => by have := cmpN_anti a b; omega) h1 hF (h2.trans hpn)
end
end Go.Proofs.YtcpmicinibfepaaGreatDoor

namespace Go.Proofs.YtcpmicinibfepaaGreatDoor
open Go.ChangeShapes Go.WideShapes Go.ChangeAt Go.RowKit Go.Deep DiskP


theorem names_upAt {F : List Fl} (hsu : ∀ f ∈ F, f.su ≤ f.all.size) (ks : List Int) (i : Nat) : names (upAt F ks i) = names F := by
  have h := (upL_facts (F.take i) ks (fun f hf => hsu f (List.mem_of_mem_take hf))).1
  unfold upAt
  unfold names at h ⊢
  rw [List.map_append, h, ← List.map_append, List.take_append_drop]
theorem upOne_is (f : Fl) (hf : f.su ≤ f.all.size) (hne : ¬ f.all.size = f.su) (ks : List Int) (at_ : Nat) : upOne f (ks.drop at_) = (upF f (keepX ks at_ (f.all.size - f.su)), ks.drop (at_ + 1)) := by
  unfold upOne
  rw [if_neg (fun h => hne h.symm)]
  cases hk : ks.drop at_ with
  | nil =>
    have hl : ks.length ≤ at_ := List.drop_eq_nil_iff.1 hk
    have e : keepX ks at_ (f.all.size - f.su) = 0 := by unfold keepX; rw [List.getElem?_eq_none hl]
    rw [e, List.drop_eq_nil_iff.2 (by omega)]
    rfl
  | cons x r =>
    have hl : at_ < ks.length := by
      rcases Nat.lt_or_ge at_ ks.length with h | h
      · exact h
      · rw [List.drop_eq_nil_iff.2 h] at hk; cases hk
    rw [List.drop_eq_getElem_cons hl] at hk
    obtain ⟨h1, h2⟩ := List.cons.inj hk
    have e : keepX ks at_ (f.all.size - f.su) = (max 0 (min x ((f.all.size : Int) - (f.su : Int)))).toNat := by
      unfold keepX
      rw [List.getElem?_eq_getElem hl, h1]
      simp only
      rw [show ((f.all.size - f.su : Nat) : Int) = (f.all.size : Int) - (f.su : Int) by omega]
    rw [e, h2]
    rfl
theorem up_sim {F L : List Fl} (hs : Sorted F) (hsu : ∀ f ∈ F, f.su ≤ f.all.size) (hp : L.Perm F) (ks : List Int) (i : Nat) (hi : i ≤ F.length) :
    (upXL L ks ((names F).take i)).1.Perm (upAt F ks i) ∧ (upL (F.take i) ks).2 = ks.drop (upXL L ks ((names F).take i)).2 := by
  induction i with
  | zero =>
    refine ⟨?_, rfl⟩
    have : upAt F ks 0 = F := by unfold upAt; simp [upL]
    rw [this]
    exact hp
  | succ i ih =>
    obtain ⟨i1, i2⟩ := ih (by omega)
    obtain ⟨f, hf⟩ : ∃ f, F[i]? = some f := ⟨F[i], List.getElem?_eq_getElem (by omega)⟩
    have hn : (names F)[i]? = some f.nm := by unfold names; rw [List.getElem?_map, hf]; rfl
    rw [btaken _ _ _ hn, upXL_snoc]
    have hat := upAt_get hf ks
    have hnm := names_upAt hsu ks i
    have hso : Sorted (upAt F ks i) := sorted_of_names hs hnm
    have hmem := List.mem_of_getElem? hat
    obtain ⟨f', h1, h2, h3, _⟩ := sim_has hso i1 (nm := f.nm) ((has_iff hso _).2 ⟨f, hmem, rfl⟩)
    obtain rfl : f' = f := uniq hso (List.mem_of_getElem? h1) hmem h2
    have hset := upAt_set hf ks
    have ht := (up_take hf ks).2
    rw [i2] at hset ht
    generalize hst : upXL L ks ((names F).take i) = st at i1 i2 h3 hset ht ⊢
    obtain ⟨M, a⟩ := st
    simp only at i1 i2 h3 hset ht ⊢
    have hx : upX1 ks (M, a) f'.nm = if f'.all.size = f'.su then (M, a) else (M.set (fnd M f'.nm) (upF f' (keepX ks a (f'.all.size - f'.su))), a + 1) := by unfold upX1; simp only [h3]
    rw [hx]
    by_cases he : f'.all.size = f'.su
    · rw [if_pos he]
      have hone : upOne f' (ks.drop a) = (f', ks.drop a) := by unfold upOne; rw [if_pos he.symm]
      rw [hone] at hset ht
      have hsame : (upAt F ks i).set i f' = upAt F ks i := by
        obtain ⟨q1, q2⟩ := List.getElem?_eq_some_iff.1 hat
        rw [← q2, List.set_getElem_self]
      simp only at hset
      rw [hsame] at hset
      exact ⟨by rw [← hset]; exact i1, ht⟩
    · rw [if_neg he]
      have hone := upOne_is f' (hsu f' (List.mem_of_getElem? hf)) he ks a
      rw [hone] at hset ht
      exact ⟨by rw [← hset]; exact set_perm i1 h3 hat, ht⟩
theorem Sim.with_fs {S X : DS} (h : Sim S X) {F L : List Fl} (hp : L.Perm F) : Sim { S with fs := F } { X with fs := L } := ⟨h.room, h.made, h.on, h.fuse, h.ops, hp⟩
theorem blow_sim {S X : DS} (h : Sim S X) : Sim (blow S).1 (blow X).1 ∧ (blow X).2 = (blow S).2 := by
  unfold blow
  rw [h.fuse, h.ops]
  split
  · exact ⟨⟨h.room, h.made, h.on, by first | rfl | exact h.fuse, rfl, h.perm⟩, rfl⟩
  · split
    · exact ⟨⟨h.room, h.made, rfl, rfl, rfl, h.perm⟩, rfl⟩
    · exact ⟨⟨h.room, h.made, h.on, rfl, rfl, h.perm⟩, rfl⟩
theorem op_sim {S X : DS} (h : Sim S X) {t t' : List Fl → List Fl} (ht : (t' X.fs).Perm (t S.fs)) : Sim (opD S t).1 (opD X t').1 ∧ (opD X t').2 = (opD S t).2 := by
  obtain ⟨h1, h2⟩ := blow_sim h
  unfold opD
  rw [h2]
  split
  · exact ⟨h1, rfl⟩
  · exact ⟨h1.with_fs ht, rfl⟩
theorem append_sim {S X : DS} (hs : Sorted S.fs) (h : Sim S X) (nm s : ByteArray) : Sim (appendD S nm s).1 (appendX X nm s).1 ∧ (appendX X nm s).2 = (appendD S nm s).2 := by
  have hu := used_perm h.perm
  have hl := h.perm.length_eq
  unfold appendD appendX
  rw [h.on, h.room, hu, hl]
  split
  · exact ⟨h, rfl⟩
  · split
    · exact ⟨h, rfl⟩
    · have hiff : (¬ fnd X.fs nm < S.fs.length) ↔ has S.fs nm = false := by
        rw [← hl]
        cases hh : has S.fs nm with
        | true => obtain ⟨f, _, _, _, h4⟩ := sim_has hs h.perm hh; simp [h4]
        | false => have := sim_not hs h.perm hh; simp [this]
      by_cases hb : S.room - (used S.fs : Int) < (s.size : Int) ∨ (has S.fs nm = false ∧ 64 ≤ S.fs.length)
      · rw [if_pos hb, if_pos (by rw [hiff]; exact hb)]
        exact ⟨h, rfl⟩
      · rw [if_neg hb, if_neg (by rw [hiff]; exact hb)]
        unfold begun
        obtain ⟨h1, h2⟩ := blow_sim (h.with_fs (put_perm hs h.perm nm s))
        have hX : (⟨putX X.fs nm s, S.room, X.made, S.on, X.fuse, X.ops⟩ : DS) = { X with fs := putX X.fs nm s } := by rw [h.room, h.on]
        rw [hX, h2]
        exact ⟨h1, rfl⟩
theorem do_sim {S X : DS} (hs : Sorted S.fs) (h : Sim S X) (kind : Int) (nm to_ : ByteArray) (n : Int) (h25 : 2 ≤ kind ∧ kind ≤ 5) :
    let d := if kind = 2 then syncD S nm else if kind = 3 then renameD S nm to_ else if kind = 4 then removeD S nm else cutD S nm n
    Sim d.1 (doX X kind nm to_ n).1 ∧ (doX X kind nm to_ n).2 = d.2 := by
  intro d
  unfold doX
  rw [h.on]
  cases hon : S.on with
  | false =>
    rw [if_pos rfl]
    have : d = (S, 9) := by
      show (if kind = 2 then syncD S nm else if kind = 3 then renameD S nm to_ else if kind = 4 then removeD S nm else cutD S nm n) = _
      unfold syncD renameD removeD cutD
      simp [hon]
    rw [this]
    exact ⟨h, rfl⟩
  | true =>
    rw [if_neg (by simp)]
    cases hh : has S.fs nm with
    | false =>
      have h4 := sim_not hs h.perm hh
      rw [List.getElem?_eq_none (by omega)]
      have : d = (S, 7) := by
        show (if kind = 2 then syncD S nm else if kind = 3 then renameD S nm to_ else if kind = 4 then removeD S nm else cutD S nm n) = _
        unfold syncD renameD removeD cutD
        simp [hon, hh]
      rw [this]
      exact ⟨h, rfl⟩
    | true =>
      obtain ⟨f, h1, h2, h3, h4⟩ := sim_has hs h.perm hh
      rw [h3]
      simp only
      have hmod : ∀ t, modF S.fs nm t = S.fs.set (pos S.fs nm) (t f) := fun t => by unfold modF; rw [h1]
      by_cases e2 : kind = 2
      · subst e2
        have hd : d = opD S fun fs => modF fs nm fun f => { f with su := f.all.size } := by show syncD S nm = _; unfold syncD; simp [hon, hh]
        rw [hd, if_neg (by omega), if_neg (by omega)]
        refine op_sim h ?_
        unfold doT
        rw [h3]
        simp only [if_true, hmod]
        exact set_perm h.perm h3 h1
      · by_cases e3 : kind = 3
        · subst e3
          cases hn : namedD to_ with
          | false =>
            have hd : d = (S, 1) := by show renameD S nm to_ = _; unfold renameD; simp [hon, hh, hn]
            rw [hd, if_pos ⟨rfl, rfl⟩]
            exact ⟨h, rfl⟩
          | true =>
            have hd : d = opD S fun fs => renF fs nm to_ := by show renameD S nm to_ = _; unfold renameD; simp [hon, hh, hn]
            rw [hd, if_neg (by simp), if_neg (by omega)]
            refine op_sim h ?_
            unfold doT
            rw [h3]
            simp only [show ¬ (3 : Int) = 2 by decide, if_false, if_true]
            exact ren_perm hs h.perm nm to_ h1 hh
        · by_cases e4 : kind = 4
          · subst e4
            have hd : d = opD S fun fs => delF fs nm := by show removeD S nm = _; unfold removeD; simp [hon, hh]
            rw [hd, if_neg (by omega), if_neg (by omega)]
            refine op_sim h ?_
            unfold doT
            rw [h3]
            simp only [show ¬ (4 : Int) = 2 by decide, show ¬ (4 : Int) = 3 by decide, if_false, if_true]
            exact out_perm hs h.perm nm
          · obtain rfl : kind = 5 := by omega
            have hsz : (((S.fs.map fun f => f.all.size).getD (pos S.fs nm) 0 : Nat) : Int) = (f.all.size : Int) := by rw [List.getD_eq_getElem?_getD, List.getElem?_map, h1]; rfl
            by_cases hr : n < 0 ∨ (f.all.size : Int) < n
            · have hd : d = (S, 11) := by show cutD S nm n = _; unfold cutD; rw [hsz]; simp [hon, hh, hr]
              rw [hd, if_neg (by omega), if_pos ⟨rfl, hr⟩]
              exact ⟨h, rfl⟩
            · have hd : d = opD S fun fs => modF fs nm (cutFl n.toNat) := by show cutD S nm n = _; unfold cutD; rw [hsz, if_neg (by simp [hon]), if_neg (by simp [hh]), if_neg hr]
              rw [hd, if_neg (by omega), if_neg (fun hc => hr hc.2)]
              refine op_sim h ?_
              unfold doT
              rw [h3]
              simp only [show ¬ (5 : Int) = 2 by decide, show ¬ (5 : Int) = 3 by decide, show ¬ (5 : Int) = 4 by decide, if_false, hmod]
              have : cutFl n.toNat f = ⟨nm, f.all.extract 0 n.toNat, min f.su n.toNat⟩ := by unfold cutFl; rw [← h2]
              rw [this]
              exact set_perm h.perm h3 h1
theorem act_sim {S X : DS} (hs : Sorted S.fs) (hsu : ∀ f ∈ S.fs, f.su ≤ f.all.size) (h : Sim S X) (a : Ac) : Sim (actD S a).1 (actX X a).1 ∧ (actX X a).2 = (actD S a).2 := by
  unfold actD actX
  by_cases e1 : a.kind = 1
  · rw [if_pos e1, if_pos e1]; exact append_sim hs h a.nm a.s
  rw [if_neg e1, if_neg e1]
  by_cases e25 : 2 ≤ a.kind ∧ a.kind ≤ 5
  · rw [if_pos e25]
    have := do_sim hs h a.kind a.nm a.to_ a.n e25
    simp only at this
    by_cases e2 : a.kind = 2
    · rw [if_pos e2] at this ⊢; exact this
    rw [if_neg e2] at this ⊢
    by_cases e3 : a.kind = 3
    · rw [if_pos e3] at this ⊢; exact this
    rw [if_neg e3] at this ⊢
    by_cases e4 : a.kind = 4
    · rw [if_pos e4] at this ⊢; exact this
    rw [if_neg e4] at this ⊢
    rw [if_pos (show a.kind = 5 by omega)]; exact this
  rw [if_neg e25, if_neg (show ¬ a.kind = 2 by omega), if_neg (show ¬ a.kind = 3 by omega), if_neg (show ¬ a.kind = 4 by omega), if_neg (show ¬ a.kind = 5 by omega)]
  by_cases e6 : a.kind = 6
  · rw [if_pos e6, if_pos e6]; exact ⟨⟨h.room, h.made, h.on, rfl, h.ops, h.perm⟩, rfl⟩
  rw [if_neg e6, if_neg e6]
  by_cases e7 : a.kind = 7
  · rw [if_pos e7, if_pos e7]; exact ⟨⟨h.room, h.made, rfl, rfl, h.ops, h.perm⟩, rfl⟩
  rw [if_neg e7, if_neg e7]
  by_cases e8 : a.kind = 8
  · rw [if_pos e8, if_pos e8]
    refine ⟨⟨h.room, h.made, rfl, rfl, h.ops, ?_⟩, rfl⟩
    have hu := (up_sim hs hsu h.perm a.ks S.fs.length (Nat.le_refl _)).1
    have hn : (names S.fs).take S.fs.length = namesX X.fs := by rw [names_sim hs h.perm]; exact List.take_of_length_le (by unfold names; simp)
    rw [hn] at hu
    have hf : upAt S.fs a.ks S.fs.length = (upL S.fs a.ks).1 := by unfold upAt; rw [List.take_length, List.drop_length, List.append_nil]
    rw [hf] at hu
    exact hu
  rw [if_neg e8, if_neg e8]
  exact ⟨h, rfl⟩
theorem okX_of {S X : DS} (h : Sim S X) (hS : OkD S) : OkX X :=
  ⟨by rw [h.perm.length_eq]; exact hS.many, fun f hf => hS.sure f (h.perm.mem_iff.1 hf), by rw [used_perm h.perm, h.room]; exact hS.full, by rw [h.room]; exact hS.room, by rw [used_perm h.perm]; exact hS.size, by rw [h.fuse]; exact hS.fuse, by rw [h.ops]; exact hS.ops⟩
theorem read_sim {S X : DS} (hs : Sorted S.fs) (h : Sim S X) (nm : ByteArray) : readX X nm = readD S nm := by
  unfold readX readD
  rw [h.on]
  split
  · rfl
  · cases hh : has S.fs nm with
    | true =>
      obtain ⟨f, h1, _, h3, _⟩ := sim_has hs h.perm hh
      rw [h1, h3]
      simp
    | false =>
      have h4 := sim_not hs h.perm hh
      rw [List.getElem?_eq_none (by omega)]
      cases hq : S.fs[pos S.fs nm]? <;> simp
theorem sure_sim {S X : DS} (hs : Sorted S.fs) (h : Sim S X) {f : Fl} (hf : f ∈ X.fs) : sureD S f.nm = f.su := by
  obtain ⟨h1, h2⟩ := file_at hs (h.perm.mem_iff.1 hf)
  unfold sureD
  rw [h1]
  simp [h2]
end Go.Proofs.YtcpmicinibfepaaGreatDoor
