/- Layer 7, plain: whatever is done, the disk and the document's disk go the same way. -/
import Derived.Test.YtmkaijjakcjflaaSimP
namespace Go.Proofs.Ytmkaijjakcjflaa
open Go.ChangeShapes Go.WideShapes Go.ChangeAt Go.RowKit Go.Deep DiskP

theorem names_upAt {F : List Fl} (hsu : ∀ f ∈ F, f.su ≤ f.all.size) (ks : List Int) (i : Nat) : names (upAt F ks i) = names F := by
  have h := (upL_facts (F.take i) ks (fun f hf => hsu f (List.mem_of_mem_take hf))).1
  unfold upAt
  unfold names at h ⊢
  rw [List.map_append, h, ← List.map_append, List.take_append_drop]
theorem upOne_is (f : Fl) (hf : f.su ≤ f.all.size) (hne : ¬ f.all.size = f.su) (ks : List Int) (at_ : Nat) : upOne f (ks.drop at_) = (upF f (keepX ks at_ (f.all.size - f.su)), ks.drop (at_ + 1)) := by
  unfold upOne
  rw [if_neg (fun h => hne h.symm)]
  cases hk : ks.drop at_ with
  | nil =>
    have hl : ks.length ≤ at_ := List.drop_eq_nil_iff.1 hk
    have e : keepX ks at_ (f.all.size - f.su) = 0 := by unfold keepX; rw [List.getElem?_eq_none hl]
    rw [e, List.drop_eq_nil_iff.2 (by omega)]
    rfl
  | cons x r =>
    have hl : at_ < ks.length := by
      rcases Nat.lt_or_ge at_ ks.length with h | h
      · exact h
      · rw [List.drop_eq_nil_iff.2 h] at hk; cases hk
    rw [List.drop_eq_getElem_cons hl] at hk
    obtain ⟨h1, h2⟩ := List.cons.inj hk
    have e : keepX ks at_ (f.all.size - f.su) = (max 0 (min x ((f.all.size : Int) - (f.su : Int)))).toNat := by
      unfold keepX
      rw [List.getElem?_eq_getElem hl, h1]
      simp only
      rw [show ((f.all.size - f.su : Nat) : Int) = (f.all.size : Int) - (f.su : Int) by omega]
    rw [e, h2]
    rfl
theorem up_sim {F L : List Fl} (hs : Sorted F) (hsu : ∀ f ∈ F, f.su ≤ f.all.size) (hp : L.Perm F) (ks : List Int) (i : Nat) (hi : i ≤ F.length) :
    (upXL L ks ((names F).take i)).1.Perm (upAt F ks i) ∧ (upL (F.take i) ks).2 = ks.drop (upXL L ks ((names F).take i)).2 := by
  induction i with
  | zero =>
    refine ⟨?_, rfl⟩
    have : upAt F ks 0 = F := by unfold upAt; simp [upL]
    rw [this]
    exact hp
  | succ i ih =>
    obtain ⟨i1, i2⟩ := ih (by omega)
    obtain ⟨f, hf⟩ : ∃ f, F[i]? = some f := ⟨F[i], List.getElem?_eq_getElem (by omega)⟩
    have hn : (names F)[i]? = some f.nm := by unfold names; rw [List.getElem?_map, hf]; rfl
    rw [btaken _ _ _ hn, upXL_snoc]
    have hat := upAt_get hf ks
    have hnm := names_upAt hsu ks i
    have hso : Sorted (upAt F ks i) := sorted_of_names hs hnm
    have hmem := List.mem_of_getElem? hat
    obtain ⟨f', h1, h2, h3, _⟩ := sim_has hso i1 (nm := f.nm) ((has_iff hso _).2 ⟨f, hmem, rfl⟩)
    obtain rfl : f' = f := uniq hso (List.mem_of_getElem? h1) hmem h2
    have hset := upAt_set hf ks
    have ht := (up_take hf ks).2
    rw [i2] at hset ht
    generalize hst : upXL L ks ((names F).take i) = st at i1 i2 h3 hset ht ⊢
    obtain ⟨M, a⟩ := st
    simp only at i1 i2 h3 hset ht ⊢
    have hx : upX1 ks (M, a) f'.nm = if f'.all.size = f'.su then (M, a) else (M.set (fnd M f'.nm) (upF f' (keepX ks a (f'.all.size - f'.su))), a + 1) := by unfold upX1; simp only [h3]
    rw [hx]
    by_cases he : f'.all.size = f'.su
    · rw [if_pos he]
      have hone : upOne f' (ks.drop a) = (f', ks.drop a) := by unfold upOne; rw [if_pos he.symm]
      rw [hone] at hset ht
      have hsame : (upAt F ks i).set i f' = upAt F ks i := by
        obtain ⟨q1, q2⟩ := List.getElem?_eq_some_iff.1 hat
        rw [← q2, List.set_getElem_self]
      simp only at hset
      rw [hsame] at hset
      exact ⟨by rw [← hset]; exact i1, ht⟩
    · rw [if_neg he]
      have hone := upOne_is f' (hsu f' (List.mem_of_getElem? hf)) he ks a
      rw [hone] at hset ht
      exact ⟨by rw [← hset]; exact set_perm i1 h3 hat, ht⟩
theorem Sim.with_fs {S X : DS} (h : Sim S X) {F L : List Fl} (hp : L.Perm F) : Sim { S with fs := F } { X with fs := L } := ⟨h.room, h.made, h.on, h.fuse, h.ops, hp⟩
theorem blow_sim {S X : DS} (h : Sim S X) : Sim (blow S).1 (blow X).1 ∧ (blow X).2 = (blow S).2 := by
  unfold blow
  rw [h.fuse, h.ops]
  split
  · exact ⟨⟨h.room, h.made, h.on, by first | rfl | exact h.fuse, rfl, h.perm⟩, rfl⟩
  · split
    · exact ⟨⟨h.room, h.made, rfl, rfl, rfl, h.perm⟩, rfl⟩
    · exact ⟨⟨h.room, h.made, h.on, rfl, rfl, h.perm⟩, rfl⟩
theorem op_sim {S X : DS} (h : Sim S X) {t t' : List Fl → List Fl} (ht : (t' X.fs).Perm (t S.fs)) : Sim (opD S t).1 (opD X t').1 ∧ (opD X t').2 = (opD S t).2 := by
  obtain ⟨h1, h2⟩ := blow_sim h
  unfold opD
  rw [h2]
  split
  · exact ⟨h1, rfl⟩
  · exact ⟨h1.with_fs ht, rfl⟩
theorem append_sim {S X : DS} (hs : Sorted S.fs) (h : Sim S X) (nm s : ByteArray) : Sim (appendD S nm s).1 (appendX X nm s).1 ∧ (appendX X nm s).2 = (appendD S nm s).2 := by
  have hu := used_perm h.perm
  have hl := h.perm.length_eq
  unfold appendD appendX
  rw [h.on, h.room, hu, hl]
  split
  · exact ⟨h, rfl⟩
  · split
    · exact ⟨h, rfl⟩
    · have hiff : (¬ fnd X.fs nm < S.fs.length) ↔ has S.fs nm = false := by
        rw [← hl]
        cases hh : has S.fs nm with
        | true => obtain ⟨f, _, _, _, h4⟩ := sim_has hs h.perm hh; simp [h4]
        | false => have := sim_not hs h.perm hh; simp [this]
      by_cases hb : S.room - (used S.fs : Int) < (s.size : Int) ∨ (has S.fs nm = false ∧ 64 ≤ S.fs.length)
      · rw [if_pos hb, if_pos (by rw [hiff]; exact hb)]
        exact ⟨h, rfl⟩
      · rw [if_neg hb, if_neg (by rw [hiff]; exact hb)]
        unfold begun
        obtain ⟨h1, h2⟩ := blow_sim (h.with_fs (put_perm hs h.perm nm s))
        have hX : (⟨putX X.fs nm s, S.room, X.made, S.on, X.fuse, X.ops⟩ : DS) = { X with fs := putX X.fs nm s } := by rw [h.room, h.on]
        rw [hX, h2]
        exact ⟨h1, rfl⟩
theorem do_sim {S X : DS} (hs : Sorted S.fs) (h : Sim S X) (kind : Int) (nm to_ : ByteArray) (n : Int) (h25 : 2 ≤ kind ∧ kind ≤ 5) :
    let d := if kind = 2 then syncD S nm else if kind = 3 then renameD S nm to_ else if kind = 4 then removeD S nm else cutD S nm n
    Sim d.1 (doX X kind nm to_ n).1 ∧ (doX X kind nm to_ n).2 = d.2 := by
  intro d
  unfold doX
  rw [h.on]
  cases hon : S.on with
  | false =>
    rw [if_pos rfl]
    have : d = (S, 9) := by
      show (if kind = 2 then syncD S nm else if kind = 3 then renameD S nm to_ else if kind = 4 then removeD S nm else cutD S nm n) = _
      unfold syncD renameD removeD cutD
      simp [hon]
    rw [this]
    exact ⟨h, rfl⟩
  | true =>
    rw [if_neg (by simp)]
    cases hh : has S.fs nm with
    | false =>
      have h4 := sim_not hs h.perm hh
      rw [List.getElem?_eq_none (by omega)]
      have : d = (S, 7) := by
        show (if kind = 2 then syncD S nm else if kind = 3 then renameD S nm to_ else if kind = 4 then removeD S nm else cutD S nm n) = _
        unfold syncD renameD removeD cutD
        simp [hon, hh]
      rw [this]
      exact ⟨h, rfl⟩
    | true =>
      obtain ⟨f, h1, h2, h3, h4⟩ := sim_has hs h.perm hh
      rw [h3]
      simp only
      have hmod : ∀ t, modF S.fs nm t = S.fs.set (pos S.fs nm) (t f) := fun t => by unfold modF; rw [h1]
      by_cases e2 : kind = 2
      · subst e2
        have hd : d = opD S fun fs => modF fs nm fun f => { f with su := f.all.size } := by show syncD S nm = _; unfold syncD; simp [hon, hh]
        rw [hd, if_neg (by omega), if_neg (by omega)]
        refine op_sim h ?_
        unfold doT
        rw [h3]
        simp only [if_true, hmod]
        exact set_perm h.perm h3 h1
      · by_cases e3 : kind = 3
        · subst e3
          cases hn : namedD to_ with
          | false =>
            have hd : d = (S, 1) := by show renameD S nm to_ = _; unfold renameD; simp [hon, hh, hn]
            rw [hd, if_pos ⟨rfl, rfl⟩]
            exact ⟨h, rfl⟩
          | true =>
            have hd : d = opD S fun fs => renF fs nm to_ := by show renameD S nm to_ = _; unfold renameD; simp [hon, hh, hn]
            rw [hd, if_neg (by simp), if_neg (by omega)]
            refine op_sim h ?_
            unfold doT
            rw [h3]
            simp only [show ¬ (3 : Int) = 2 by decide, if_false, if_true]
            exact ren_perm hs h.perm nm to_ h1 hh
        · by_cases e4 : kind = 4
          · subst e4
            have hd : d = opD S fun fs => delF fs nm := by show removeD S nm = _; unfold removeD; simp [hon, hh]
            rw [hd, if_neg (by omega), if_neg (by omega)]
            refine op_sim h ?_
            unfold doT
            rw [h3]
            simp only [show ¬ (4 : Int) = 2 by decide, show ¬ (4 : Int) = 3 by decide, if_false, if_true]
            exact out_perm hs h.perm nm
          · obtain rfl : kind = 5 := by omega
            have hsz : (((S.fs.map fun f => f.all.size).getD (pos S.fs nm) 0 : Nat) : Int) = (f.all.size : Int) := by rw [List.getD_eq_getElem?_getD, List.getElem?_map, h1]; rfl
            by_cases hr : n < 0 ∨ (f.all.size : Int) < n
            · have hd : d = (S, 11) := by show cutD S nm n = _; unfold cutD; rw [hsz]; simp [hon, hh, hr]
              rw [hd, if_neg (by omega), if_pos ⟨rfl, hr⟩]
              exact ⟨h, rfl⟩
            · have hd : d = opD S fun fs => modF fs nm (cutFl n.toNat) := by show cutD S nm n = _; unfold cutD; rw [hsz, if_neg (by simp [hon]), if_neg (by simp [hh]), if_neg hr]
              rw [hd, if_neg (by omega), if_neg (fun hc => hr hc.2)]
              refine op_sim h ?_
              unfold doT
              rw [h3]
              simp only [show ¬ (5 : Int) = 2 by decide, show ¬ (5 : Int) = 3 by decide, show ¬ (5 : Int) = 4 by decide, if_false, hmod]
              have : cutFl n.toNat f = ⟨nm, f.all.extract 0 n.toNat, min f.su n.toNat⟩ := by unfold cutFl; rw [← h2]
              rw [this]
              exact set_perm h.perm h3 h1
theorem act_sim {S X : DS} (hs : Sorted S.fs) (hsu : ∀ f ∈ S.fs, f.su ≤ f.all.size) (h : Sim S X) (a : Ac) : Sim (actD S a).1 (actX X a).1 ∧ (actX X a).2 = (actD S a).2 := by
  unfold actD actX
  by_cases e1 : a.kind = 1
  · rw [if_pos e1, if_pos e1]; exact append_sim hs h a.nm a.s
  rw [if_neg e1, if_neg e1]
  by_cases e25 : 2 ≤ a.kind ∧ a.kind ≤ 5
  · rw [if_pos e25]
    have := do_sim hs h a.kind a.nm a.to_ a.n e25
    simp only at this
    by_cases e2 : a.kind = 2
    · rw [if_pos e2] at this ⊢; exact this
    rw [if_neg e2] at this ⊢
    by_cases e3 : a.kind = 3
    · rw [if_pos e3] at this ⊢; exact this
    rw [if_neg e3] at this ⊢
    by_cases e4 : a.kind = 4
    · rw [if_pos e4] at this ⊢; exact this
    rw [if_neg e4] at this ⊢
    rw [if_pos (show a.kind = 5 by omega)]; exact this
  rw [if_neg e25, if_neg (show ¬ a.kind = 2 by omega), if_neg (show ¬ a.kind = 3 by omega), if_neg (show ¬ a.kind = 4 by omega), if_neg (show ¬ a.kind = 5 by omega)]
  by_cases e6 : a.kind = 6
  · rw [if_pos e6, if_pos e6]; exact ⟨⟨h.room, h.made, h.on, rfl, h.ops, h.perm⟩, rfl⟩
  rw [if_neg e6, if_neg e6]
  by_cases e7 : a.kind = 7
  · rw [if_pos e7, if_pos e7]; exact ⟨⟨h.room, h.made, rfl, rfl, h.ops, h.perm⟩, rfl⟩
  rw [if_neg e7, if_neg e7]
  by_cases e8 : a.kind = 8
  · rw [if_pos e8, if_pos e8]
    refine ⟨⟨h.room, h.made, rfl, rfl, h.ops, ?_⟩, rfl⟩
    have hu := (up_sim hs hsu h.perm a.ks S.fs.length (Nat.le_refl _)).1
    have hn : (names S.fs).take S.fs.length = namesX X.fs := by rw [names_sim hs h.perm]; exact List.take_of_length_le (by unfold names; simp)
    rw [hn] at hu
    have hf : upAt S.fs a.ks S.fs.length = (upL S.fs a.ks).1 := by unfold upAt; rw [List.take_length, List.drop_length, List.append_nil]
    rw [hf] at hu
    exact hu
  rw [if_neg e8, if_neg e8]
  exact ⟨h, rfl⟩
theorem okX_of {S X : DS} (h : Sim S X) (hS : OkD S) : OkX X :=
  ⟨by rw [h.perm.length_eq]; exact hS.many, fun f hf => hS.sure f (h.perm.mem_iff.1 hf), by rw [used_perm h.perm, h.room]; exact hS.full, by rw [h.room]; exact hS.room, by rw [used_perm h.perm]; exact hS.size, by rw [h.fuse]; exact hS.fuse, by rw [h.ops]; exact hS.ops⟩
theorem read_sim {S X : DS} (hs : Sorted S.fs) (h : Sim S X) (nm : ByteArray) : readX X nm = readD S nm := by
  unfold readX readD
  rw [h.on]
  split
  · rfl
  · cases hh : has S.fs nm with
    | true =>
      obtain ⟨f, h1, _, h3, _⟩ := sim_has hs h.perm hh
      rw [h1, h3]
      simp
    | false =>
      have h4 := sim_not hs h.perm hh
      rw [List.getElem?_eq_none (by omega)]
      cases hq : S.fs[pos S.fs nm]? <;> simp
theorem sure_sim {S X : DS} (hs : Sorted S.fs) (h : Sim S X) {f : Fl} (hf : f ∈ X.fs) : sureD S f.nm = f.su := by
  obtain ⟨h1, h2⟩ := file_at hs (h.perm.mem_iff.1 hf)
  unfold sureD
  rw [h1]
  simp [h2]
end Go.Proofs.Ytmkaijjakcjflaa
