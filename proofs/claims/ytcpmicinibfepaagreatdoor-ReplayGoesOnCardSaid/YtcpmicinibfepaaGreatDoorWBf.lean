/- Layer 32, plain: what stands behind a crash; which segments are sure; what is trimmed. -/
import Derived.Test.YtcpmicinibfepaaGreatDoorWBe
import Derived.Test.YtcpmicinibfepaaGreatDoorWAh
namespace Go.Proofs.YtcpmicinibfepaaGreatDoor
open Go.ChangeShapes Go.WideShapes Go.ChangeAt Go.RowKit Go.Deep DiskP NameP


theorem upL_sure (F : List Fl) (ks : List Int) (h : ∀ f ∈ F, f.su = f.all.size) : upL F ks = (F, ks) := by
  induction F using RankP.snoc_ind with
  | h0 => rfl
  | h1 l x ih =>
    rw [upL_snoc, ih (fun f hf => h f (List.mem_append_left _ hf))]
    have : upOne x ks = (x, ks) := by unfold upOne; rw [if_pos (h x (by simp))]
    rw [this]
theorem size_le_used {fs : List Fl} {f : Fl} (h : f ∈ fs) : f.all.size ≤ used fs := by
  obtain ⟨k, hk, e⟩ := List.getElem_of_mem h
  exact used_mem (k := k) (by rw [List.getElem?_eq_getElem hk, e])
/-- where just one file may be unsure, it takes the first number -/
theorem upL_map (F : List Fl) (ks : List Int) (nm : ByteArray) (h : ∀ f ∈ F, f.nm ≠ nm → f.su = f.all.size) (hn : (names F).Nodup) : (upL F ks).1 = F.map fun f => (upOne f ks).1 := by
  induction F using RankP.snoc_ind with
  | h0 => rfl
  | h1 l x ih =>
    have hn' : (names l ++ [x.nm]).Nodup := by
      have e : names (l ++ [x]) = names l ++ [x.nm] := names_app _ _
      rwa [e] at hn
    obtain ⟨n1, _, n3⟩ := List.nodup_append.1 hn'
    have hl : ∀ f ∈ l, f.nm ≠ nm → f.su = f.all.size := fun f hf => h f (List.mem_append_left _ hf)
    rw [upL_snoc, ih hl n1, List.map_append]
    by_cases hx : x.su = x.all.size
    · have e : ∀ ks', upOne x ks' = (x, ks') := fun ks' => by unfold upOne; rw [if_pos hx]
      simp [e]
    · have hxn : x.nm = nm := by
        by_cases e : x.nm = nm
        · exact e
        · exact absurd (h x (by simp) e) hx
      have hs : ∀ f ∈ l, f.su = f.all.size := fun f hf => hl f hf fun e => n3 f.nm (List.mem_map_of_mem hf) x.nm (by simp) (e.trans hxn.symm)
      rw [upL_sure l ks hs]
      rfl
theorem sorted_nodup {F : List Fl} (hs : Sorted F) : (names F).Nodup := by
  rw [sorted_names] at hs
  exact hs.imp fun h e => by rw [e, cmpN_self] at h; omega
/-- what a file of which bytes are unsure is behind an Up -/
theorem upOne_cut (f : Fl) (ks : List Int) (h : f.su ≤ f.all.size) : ∃ q, f.su ≤ q ∧ q ≤ f.all.size ∧ (upOne f ks).1 = ⟨f.nm, f.all.extract 0 q, q⟩ := by
  unfold upOne
  split
  · rename_i e
    refine ⟨f.all.size, h, Nat.le_refl _, ?_⟩
    obtain ⟨nm, all, su⟩ := f
    simp only at e ⊢
    subst e
    rw [show all.extract 0 all.size = all by simp]
  · split
    · exact ⟨f.su, Nat.le_refl _, h, rfl⟩
    · exact ⟨f.su + _, Nat.le_add_right _ _, by omega, rfl⟩
theorem cnt_ge (l : List FrameP.Fr) (q j : Nat) (hj : j ≤ l.length) (h : FrameP.bytes (l.take j) ≤ q) : j ≤ FrameP.cnt l q := by
  rcases Nat.lt_or_ge (FrameP.cnt l q) j with hc | hc
  · have h1 := FrameP.cnt_out l q (by omega)
    have h2 := FrameP.bytes_take_le (l.take j) (FrameP.cnt l q + 1)
    rw [List.take_take, Nat.min_eq_left (by omega)] at h2
    omega
  · exact hc
/-- numbers of files -/
theorem nums_of {ns : List Int} (hr : ∀ n ∈ ns, 1 ≤ n ∧ n ≤ 999999999999999999) (hs : ns.Pairwise (· < ·)) {F F' : List Fl} (hF : names F = ns.map tB) (hp : F.Perm F') : numsX 1 (names F') = ns := by
  have hA : numsA 1 (names F) = ns := by
    rw [numsA_eq, hF, List.filter_map, List.map_map, List.filter_eq_self.2]
    · conv => rhs; rw [← List.map_id ns]
      refine List.map_congr_left fun g hg => ?_
      show (kB (tB g)).2 = _
      rw [kB_tB (hr g hg)]
      rfl
    · intro g hg
      show decide ((kB (tB g)).1 = 1) = true
      rw [kB_tB (hr g hg)]
      rfl
  have hp' : (names F).Perm (names F') := hp.map _
  rw [numsX_of hp' (by rw [hA]; exact hs.imp (fun h => by omega)), hA]
/-- what stands behind a crash: the segments G; of the last one some bytes, at least those of what was sure -/
structure EndW (S : DS) (T : List ByteArray) (p : Nat) (G : List Sg) : Prop where
  cont : cont 1 G
  flat : flat G = T
  len : G.length ≤ T.length
  fs : S.fs.length = G.length
  nums : numsX 1 (names S.fs) = G.map fun g => (g.1 : Int)
  read : ∀ k g, G[k]? = some g → ∃ c m sz er, readD S (tB g.1) = (c, 0) ∧ FrameP.all c.data.toList = (frs g.1 (g.2.take m), sz, er) ∧ m ≤ g.2.length ∧ sz ≤ c.size ∧ c.size ≤ 100000000 ∧ (m = 0 → sz = 0) ∧
    (k + 1 < G.length → m = g.2.length ∧ sz = c.size) ∧ (k + 1 = G.length → p ≤ (Go.Proofs.YtcpmicinibfepaaGreatDoor.flat (G.take k)).length + m)
  none : G = [] → p = 0
  names : ∀ s ∈ names S.fs, s.size ≤ 100
theorem all_full {g : Sg} (hn : 1 ≤ g.1) (hl : g.1 + g.2.length ≤ 1000000) (hd : ∀ d ∈ g.2, d.size ≤ 65536) (q : Nat) (hq : q ≤ (sgB g).size) :
    ∃ m er, FrameP.all ((sgB g).extract 0 q).data.toList = (frs g.1 (g.2.take m), bytesT (g.2.take m), er) ∧ m = FrameP.cnt (frs g.1 g.2) q ∧ m ≤ g.2.length ∧ bytesT (g.2.take m) ≤ q ∧ (q = (sgB g).size → m = g.2.length ∧ bytesT (g.2.take m) = q) := by
  have hz := sgB_size g
  have hall := FrameP.all_cut (frs g.1 g.2) (frs_good g.2 g.1 hn hl hd) q (by omega)
  have he : ((sgB g).extract 0 q).data.toList = (FrameP.encs (frs g.1 g.2)).take q := by
    rw [ex_list]
    unfold sgB
    rw [S8_toList]
    rfl
  have hm := FrameP.cnt_le (frs g.1 g.2) q
  rw [frs_len] at hm
  have hb : FrameP.bytes ((frs g.1 g.2).take (FrameP.cnt (frs g.1 g.2) q)) = bytesT (g.2.take (FrameP.cnt (frs g.1 g.2) q)) := by rw [frs_take, frs_bytes]
  obtain ⟨er, her⟩ : ∃ er, FrameP.all ((FrameP.encs (frs g.1 g.2)).take q) = ((frs g.1 g.2).take (FrameP.cnt (frs g.1 g.2) q), FrameP.bytes ((frs g.1 g.2).take (FrameP.cnt (frs g.1 g.2) q)), er) := ⟨_, hall⟩
  refine ⟨FrameP.cnt (frs g.1 g.2) q, er, ?_, rfl, hm, ?_, ?_⟩
  · rw [he, her, hb, frs_take]
  · rw [← hb]; exact FrameP.cnt_in _ _ _ (Nat.le_refl _)
  · intro e
    have h1 := cnt_ge (frs g.1 g.2) q (frs g.1 g.2).length (Nat.le_refl _) (by rw [List.take_length]; omega)
    rw [frs_len] at h1
    have h2 : FrameP.cnt (frs g.1 g.2) q = g.2.length := by omega
    refine ⟨h2, ?_⟩
    rw [h2, List.take_length, e, hz, frs_bytes]
theorem fl_mem {G0 : List Sg} {g : Sg} (hc : cont 1 (G0 ++ [g])) (hl : (flat (G0 ++ [g])).length ≤ 1000) (f : Fl) (hf : f.nm = tB g.1) {k : Nat} {x : Sg} (hk : G0[k]? = some x) : (G0.map full ++ [f])[fnd (G0.map full ++ [f]) (tB x.1)]? = some (full x) := by
  have hr := cont_range hc hl
  obtain ⟨y, hy, e⟩ := fnd_get (L := G0.map full ++ [f]) (nm := tB x.1) ⟨full x, List.mem_append_left _ (List.mem_map_of_mem (List.mem_of_getElem? hk)), rfl⟩
  rw [hy]
  have hx := hr x (List.mem_append_left _ (List.mem_of_getElem? hk))
  rcases List.mem_append.1 (List.mem_of_getElem? hy) with h1 | h1
  · obtain ⟨z, hz, rfl⟩ := List.mem_map.1 h1
    have e2 := tB_inj (hr z (List.mem_append_left _ hz)) hx e
    have hrise := cont_rise hc
    obtain ⟨i, hi, ei⟩ := List.getElem_of_mem hz
    obtain ⟨hk1, hk2⟩ := List.getElem?_eq_some_iff.1 hk
    have : i = k := by
      rw [List.map_append, List.pairwise_append] at hrise
      have hp := List.pairwise_iff_getElem.1 hrise.1
      rcases Nat.lt_trichotomy i k with h | h | h
      · have := hp i k (by simpa using hi) (by simpa using hk1) h
        simp only [List.getElem_map, ei, hk2] at this
        omega
      · exact h
      · have := hp k i (by simpa using hk1) (by simpa using hi) h
        simp only [List.getElem_map, ei, hk2] at this
        omega
    subst this
    rw [← ei, hk2]
  · rw [List.mem_singleton.1 h1, hf] at e
    have e2 := tB_inj (hr g (by simp)) hx e
    have hrise := cont_rise hc
    rw [List.map_append, List.pairwise_append] at hrise
    have := hrise.2.2 (x.1 : Int) (List.mem_map_of_mem (List.mem_of_getElem? hk)) (g.1 : Int) (by simp)
    omega
theorem crash_law {R : Int} {i j : Nat} {S : DS} {T : List ByteArray} {p : Nat} (hI : DInv R i j S) (hj : j ≤ 1000) (h : CoreW S T p) (hT : T.length ≤ 1000) (hd : ∀ d ∈ T, d.size ≤ 65536) (ks : List Int) :
    ∃ G, EndW (upD { S with on := false, fuse := -1 } ks) T p G := by
  obtain ⟨X, hX, hseg⟩ := h
  have hI2 : DInv R i j { S with on := false, fuse := -1 } := { hI with fuse := by simp }
  have hI3 := (upD_inv hI2 ks).1
  have hused := hI3.size
  rcases hseg with ⟨hF, rfl, rfl⟩ | ⟨G0, g, su, hF, hc, hfl, h4, h5, h6⟩
  · have hS : S.fs = [] := by have := hX.perm; rw [hF] at this; exact this.symm.eq_nil
    have hS2 : (upD { S with on := false, fuse := -1 } ks).fs = [] := by show (upL S.fs ks).1 = []; rw [hS]; rfl
    refine ⟨[], trivial, rfl, Nat.le_refl _, by rw [hS2]; rfl, by rw [hS2]; rfl, fun k g hk => by simp at hk, fun _ => rfl, by rw [hS2]; intro s hs; cases hs⟩
  · subst hfl
    have hr := cont_range hc (by omega)
    obtain ⟨q, q1, q2, q3⟩ := upOne_cut (fl g su) ks h4
    have q2 : q ≤ (sgB g).size := q2
    have hXn : names X.fs = (G0 ++ [g]).map fun g => tB g.1 := by rw [hF]; exact names_segs G0 g su
    have hone : ∀ f ∈ S.fs, f.nm ≠ tB g.1 → f.su = f.all.size := fun f hf hne => by
      have := hX.perm.mem_iff.2 hf
      rw [hF] at this
      rcases List.mem_append.1 this with h | h
      · obtain ⟨y, _, rfl⟩ := List.mem_map.1 h; rfl
      · rw [List.mem_singleton.1 h] at hne; exact absurd rfl hne
    have hup := upL_map S.fs ks (tB g.1) hone (sorted_nodup hI.sorted)
    have hperm : (X.fs.map fun f => (upOne f ks).1).Perm (upL S.fs ks).1 := by rw [hup]; exact hX.perm.map _
    have hX2 : (X.fs.map fun f => (upOne f ks).1) = G0.map full ++ [(⟨tB g.1, (sgB g).extract 0 q, q⟩ : Fl)] := by
      rw [hF, List.map_append, List.map_map]
      congr 1
      · refine List.map_congr_left fun y _ => ?_
        show (upOne (full y) ks).1 = full y
        unfold upOne
        rw [if_pos (show (full y).su = (full y).all.size from rfl)]
      · rw [List.map_cons, q3]
        rfl
    rw [hX2] at hperm
    have hsim : Sim (upD { S with on := false, fuse := -1 } ks) ⟨G0.map full ++ [(⟨tB g.1, (sgB g).extract 0 q, q⟩ : Fl)], S.room, S.made, true, -1, S.ops⟩ := ⟨rfl, rfl, rfl, rfl, rfl, hperm⟩
    have hnm : names (G0.map full ++ [(⟨tB g.1, (sgB g).extract 0 q, q⟩ : Fl)]) = (G0 ++ [g]).map fun g => tB g.1 := by rw [names_app, names_full, List.map_append]; rfl
    refine ⟨G0 ++ [g], hc, rfl, cont_len _ 1 hc, ?_, nums_files hc (by omega) hnm hperm, ?_, fun h => by simp at h, ?_⟩
    · show (upL S.fs ks).1.length = _
      rw [← hperm.length_eq]; simp
    · intro k x hk
      have hxat := cont_at _ 1 hc k x hk
      have hle := flat_take_le (G0 ++ [g]) (k + 1)
      rw [flat_take_snoc hk, List.length_append] at hle
      have hxd : ∀ d ∈ x.2, d.size ≤ 65536 := fun d hd' => hd d (by unfold flat; exact List.mem_flatMap.2 ⟨x, List.mem_of_getElem? hk, hd'⟩)
      have hkl := (List.getElem?_eq_some_iff.1 hk).1
      rw [List.length_append, List.length_singleton] at hkl
      rcases Nat.lt_or_ge k G0.length with h | h
      · rw [List.getElem?_append_left h] at hk
        obtain ⟨m, er, a1, a2, a3, a4, a5⟩ := all_full (g := x) (by omega) (by omega) hxd (sgB x).size (Nat.le_refl _)
        obtain ⟨a6, a7⟩ := a5 rfl
        rw [show (sgB x).extract 0 (sgB x).size = sgB x by simp] at a1
        refine ⟨sgB x, m, _, er, ?_, a1, a3, a4, ?_, fun e => by rw [e] at a6 ⊢; rfl, fun _ => ⟨a6, a7⟩, fun e => by simp at e; omega⟩
        · rw [← read_sim hI3.sorted hsim]
          unfold readX
          rw [if_neg (by simp)]
          simp only
          rw [fl_mem hc (by omega) _ rfl hk]
          rfl
        · have hm : full x ∈ (upL S.fs ks).1 := hperm.mem_iff.1 (List.mem_append_left _ (List.mem_map_of_mem (List.mem_of_getElem? hk)))
          have := size_le_used hm
          have : used (upL S.fs ks).1 ≤ 100 * j := hused
          show (full x).all.size ≤ _
          omega
      · obtain rfl : k = G0.length := by omega
        have hxg : x = g := by
          rw [List.getElem?_append_right (Nat.le_refl _), Nat.sub_self] at hk
          exact (Option.some.inj hk).symm
        subst hxg
        obtain ⟨m, er, a1, a2, a3, a4, a5⟩ := all_full (g := x) (by omega) (by omega) hxd q q2
        refine ⟨(sgB x).extract 0 q, m, _, er, ?_, a1, a3, ?_, ?_, fun e => by rw [e]; rfl, fun e => by simp at e, fun _ => ?_⟩
        · rw [← read_sim hI3.sorted hsim]
          unfold readX
          rw [if_neg (by simp)]
          simp only
          rw [fnd_app hc (by omega) (names_full G0) _ rfl, at_last]
        · rw [ByteArray.size_extract]; omega
        · have hm : (⟨tB x.1, (sgB x).extract 0 q, q⟩ : Fl) ∈ (upL S.fs ks).1 := hperm.mem_iff.1 (by simp)
          have := size_le_used hm
          have : used (upL S.fs ks).1 ≤ 100 * j := hused
          show (⟨tB x.1, (sgB x).extract 0 q, q⟩ : Fl).all.size ≤ _
          omega
        · rw [List.take_append_of_le_length (Nat.le_refl _), List.take_length]
          have h7 : (x.2.take (p - (flat G0).length)).length = p - (flat G0).length := by
            rw [List.length_take]
            rw [flat_snoc, List.length_append] at h5
            omega
          have := cnt_ge (frs x.1 x.2) q (p - (flat G0).length) (by rw [frs_len]; rw [List.length_take] at h7; omega) (by rw [frs_take]; exact Nat.le_trans h6 q1)
          omega
    · intro s hs
      have hp2 : (names (G0.map full ++ [(⟨tB g.1, (sgB g).extract 0 q, q⟩ : Fl)])).Perm (names (upL S.fs ks).1) := hperm.map _
      have := hp2.mem_iff.2 hs
      rw [hnm] at this
      obtain ⟨y, _, rfl⟩ := List.mem_map.1 this
      have := tB_size y.1
      omega
/-- the segments at any time: all but the last are sure -/
structure MidW (S : DS) (T : List ByteArray) (G : List Sg) : Prop where
  cont : cont 1 G
  flat : flat G = T
  len : G.length ≤ T.length
  fs : S.fs.length = G.length
  nums : numsX 1 (names S.fs) = G.map fun g => (g.1 : Int)
  sure : ∀ k g, G[k]? = some g → k + 1 < G.length → sureD S (tB g.1) = (sgB g).size
  read : S.on = true → ∀ (k : Nat) g, G[k]? = some g → readD S (tB g.1) = (sgB g, 0)
  names : ∀ s ∈ names S.fs, s.size ≤ 100
theorem mid_law {S : DS} {T : List ByteArray} {p : Nat} (hs : Sorted S.fs) (h : CoreW S T p) (hT : T.length ≤ 1000) : ∃ G, MidW S T G := by
  obtain ⟨X, hX, hseg⟩ := h
  rcases hseg with ⟨hF, rfl, rfl⟩ | ⟨G0, g, su, hF, hc, hfl, h4, h5, h6⟩
  · have hS : S.fs = [] := by have := hX.perm; rw [hF] at this; exact this.symm.eq_nil
    exact ⟨[], trivial, rfl, Nat.le_refl _, by rw [hS]; rfl, by rw [hS]; rfl, fun k g hk => by simp at hk, fun _ k g hk => by simp at hk, by rw [hS]; intro s hs; cases hs⟩
  · subst hfl
    have hp : (G0.map full ++ [fl g su]).Perm S.fs := hF ▸ hX.perm
    have hnm := names_segs G0 g su
    refine ⟨G0 ++ [g], hc, rfl, cont_len _ 1 hc, by rw [← hp.length_eq]; simp, nums_files hc hT hnm hp, ?_, ?_, ?_⟩
    · intro k x hk h1
      rw [List.length_append, List.length_singleton] at h1
      rw [List.getElem?_append_left (by omega)] at hk
      have hm : full x ∈ X.fs := by rw [hF]; exact List.mem_append_left _ (List.mem_map_of_mem (List.mem_of_getElem? hk))
      have h9 := sure_sim hs hX hm
      simp only [full, fl] at h9
      exact h9
    · intro hon k x hk
      rw [← read_sim hs hX]
      unfold readX
      rw [if_neg (by simp [hX.on, hon]), hF]
      have hkl := (List.getElem?_eq_some_iff.1 hk).1
      rw [List.length_append, List.length_singleton] at hkl
      rcases Nat.lt_or_ge k G0.length with h | h
      · rw [List.getElem?_append_left h] at hk
        rw [fl_mem hc hT _ rfl hk]
        rfl
      · obtain rfl : k = G0.length := by omega
        rw [List.getElem?_append_right (Nat.le_refl _), Nat.sub_self] at hk
        obtain rfl := Option.some.inj hk
        rw [fnd_last hc hT, at_last]
        rfl
    · intro s hs
      have hp2 : (names (G0.map full ++ [fl g su])).Perm (names S.fs) := hp.map _
      have := hp2.mem_iff.2 hs
      rw [hnm] at this
      obtain ⟨y, _, rfl⟩ := List.mem_map.1 this
      have := tB_size y.1
      omega
end Go.Proofs.YtcpmicinibfepaaGreatDoor
