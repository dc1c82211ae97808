/- Layer 7: the files of which something must be there: drop and set · Layer 7: what must be there behind an act that told no error · Layer 7, plain: what is sure is never lost, but by what takes it away. -/
import Derived.Test.YtcpmicinibfepaaGreatDoorWAt
import Derived.Deep.RegionWith
namespace Go.Proofs.YtcpmicinibfepaaGreatDoor
open Go.ChangeShapes Go.WideShapes Go.ChangeAt Go.RowKit Go.Deep DiskP


/-- two rows that grow together, apart -/
structure Two (B : Nat) (v1 v2 : Value) (M : List (ByteArray × ByteArray)) (w : World) : Prop where
  a : w.ownsRow B 9 1 v1 M.length (M.map fun p => Value.string p.1)
  b : w.ownsRow B 9 1 v2 M.length (M.map fun p => Value.string p.2)
  apart : ∀ g, v1.ownBlock = some g → v2.ownBlock ≠ some g
theorem Two.b_after {B g cap : Nat} {v1 v2 : Value} {M : List (ByteArray × ByteArray)} {w w1 : World} {cs : Array Value} (h : Two B v1 v2 M w) (hA : Appended2 B 9 1 w v1 M.length (M.map fun p => Value.string p.1) cs g cap w1) :
    w1.ownsRow B 9 1 v2 M.length (M.map fun p => Value.string p.2) ∧ v2.ownBlock ≠ some g := by
  refine ⟨h.b.kept hA.gb ?_, fun e => ?_⟩
  · cases he : v2.ownBlock with
    | none => exact .inl rfl
    | some x => exact .inr fun e => h.apart x e.symm he
  · rcases hA.fresh with hf | hf
    · exact h.apart g hf e
    · have := (h.b.lt g e).2; omega
theorem Two.next {B g1 g2 cap1 cap2 : Nat} {v1 v2 : Value} {M : List (ByteArray × ByteArray)} {w w1 w2 : World} {x1 x2 : ByteArray} (h : Two B v1 v2 M w)
    (hA : Appended2 B 9 1 w v1 M.length (M.map fun p => Value.string p.1) #[.string x1] g1 cap1 w1) (hB : Appended2 B 9 1 w1 v2 M.length (M.map fun p => Value.string p.2) #[.string x2] g2 cap2 w2) :
    Two B (.slice (some ⟨g1, 0, none⟩) (M.length + 1) cap1) (.slice (some ⟨g2, 0, none⟩) (M.length + 1) cap2) (M ++ [(x1, x2)]) w2 := by
  obtain ⟨_, hne⟩ := h.b_after hA
  refine ⟨?_, ?_, ?_⟩
  · have := hA.own.kept hB.gb (.inr (by show some g1 ≠ v2.ownBlock; exact fun e => hne e.symm))
    simpa using this
  · simpa using hB.own
  · intro g e1 e2
    have e1' : g1 = g := by simpa [Value.ownBlock] using e1
    have e2' : g2 = g := by simpa [Value.ownBlock] using e2
    subst e1'
    rcases hB.fresh with hf | hf
    · rw [hf] at hne; exact hne (by rw [e2'])
    · have := hA.lt; omega
theorem own_mono {w : World} {base base' n sz : Nat} {e : TypeId} {v : Value} {xs : List Value} (h : w.ownsRow base e sz v n xs) (hb : base' ≤ base) : w.ownsRow base' e sz v n xs := by
  refine ⟨h.1, ?_⟩
  rcases h.2 with hn | ⟨g, cap, cur, h1, h2, h3⟩
  · exact .inl hn
  · exact .inr ⟨g, cap, cur, h1, by omega, h3⟩
theorem app_below {B g cap n b0 : Nat} {v : Value} {xs : List Value} {e : TypeId} {w w1 W : World} {cs : Array Value} (hb : Below b0 W w) (h0 : w.ownsRow B e 1 v n xs) (hB : b0 ≤ B) (hs : b0 ≤ w.heap.size) (hA : Appended2 B e 1 w v n xs cs g cap w1) : Below b0 W w1 :=
  hb.grown hA.gb hs (fun k e => by have := (h0.lt k e).1; omega)

end Go.Proofs.YtcpmicinibfepaaGreatDoor

namespace Go.Proofs.YtcpmicinibfepaaGreatDoor
open Go.ChangeShapes Go.WideShapes Go.ChangeAt Go.RowKit Go.Deep DiskP


def cutN (G : ByteArray) (n : Int) : Nat := (max 0 (min (G.size : Int) n)).toNat
def noteL (S : DS) (L : List (ByteArray × ByteArray)) (x : Ac) : List (ByteArray × ByteArray) :=
  if x.kind = 2 then dropL L x.nm ++ [(x.nm, (readD S x.nm).1)]
  else if x.kind = 3 then dropL (dropL L x.nm) x.to_ ++ [(x.to_, getL L x.nm)]
  else if x.kind = 4 then dropL L x.nm
  else dropL L x.nm ++ [(x.nm, (getL L x.nm).extract 0 (cutN (getL L x.nm) x.n))]
theorem noteL_len (S : DS) (L : List (ByteArray × ByteArray)) (x : Ac) : (noteL S L x).length ≤ L.length + 1 := by
  have h1 := drop_len L x.nm
  have h2 := drop_len (dropL L x.nm) x.to_
  unfold noteL
  split
  · simp; omega
  · split
    · simp; omega
    · split
      · omega
      · simp; omega
theorem tkeep_box {T : TypeId} {s : Nat} {w w' : World} (h : TKeep T s w w') {b : Nat} {cs : Array Value} {U : TypeId} (hb : w.heap[b]? = some (.cells cs U (0, 0))) (hd : b ≠ s) (hT : U ≠ T) : w'.heap[b]? = some (.cells cs U (0, 0)) := by
  rcases Nat.lt_or_ge b s with h1 | h1
  · exact (h.below.block b h1).trans hb
  · exact (h.others b (by omega) (bx_lt hb) (fun cs' z e => by rw [hb] at e; simp at e; exact hT e.2.1)).trans hb

end Go.Proofs.YtcpmicinibfepaaGreatDoor

namespace Go.Proofs.YtcpmicinibfepaaGreatDoor
open Go.ChangeShapes Go.WideShapes Go.ChangeAt Go.RowKit Go.Deep DiskP


theorem ba_ext {a b : ByteArray} (h : a.data = b.data) : a = b := by
  cases a; cases b; simp only at h; rw [h]
theorem ex_app (a s : ByteArray) (n : Nat) (h : n ≤ a.size) : (a ++ s).extract 0 n = a.extract 0 n := by
  apply ba_ext
  rw [ByteArray.data_extract, ByteArray.data_extract, ByteArray.data_append, Array.extract_append]
  have e : n - a.size = 0 := by omega
  simp [e]
theorem ex_ex (a : ByteArray) (q n : Nat) (h : n ≤ q) : (a.extract 0 q).extract 0 n = a.extract 0 n := by
  rw [ByteArray.extract_extract]
  congr 1 <;> omega
/-- the file's first bytes, as far as they are sure, begin with b -/
def Keeps (f : Fl) (b : ByteArray) : Prop := b.size ≤ f.su ∧ f.all.extract 0 b.size = b
def SureF (fs : List Fl) (L : List (ByteArray × ByteArray)) : Prop := ∀ p ∈ L, ∃ f ∈ fs, f.nm = p.1 ∧ Keeps f p.2
theorem keeps_nil (f : Fl) : Keeps f ⟨#[]⟩ := ⟨Nat.zero_le _, by
  apply ba_ext
  rw [ByteArray.data_extract]
  show f.all.data.extract 0 0 = #[]
  simp⟩
theorem keeps_app {f : Fl} {b : ByteArray} (h : Keeps f b) (hs : f.su ≤ f.all.size) (s : ByteArray) : Keeps { f with all := f.all ++ s } b :=
  ⟨h.1, by
    have := h.1
    rw [ex_app _ _ _ (by omega)]; exact h.2⟩
theorem keeps_sync {f : Fl} {b : ByteArray} (h : Keeps f b) (hs : f.su ≤ f.all.size) : Keeps { f with su := f.all.size } b := ⟨Nat.le_trans h.1 hs, h.2⟩
theorem keeps_all (f : Fl) : Keeps { f with su := f.all.size } f.all := ⟨Nat.le_refl _, by simp⟩
theorem keeps_cut {f : Fl} {b : ByteArray} (h : Keeps f b) {m n : Nat} (h1 : m ≤ n) (h2 : m ≤ b.size) : Keeps (cutFl n f) (b.extract 0 m) := by
  have e : (b.extract 0 m).size = m := by rw [ByteArray.size_extract]; omega
  have := h.1
  refine ⟨by rw [e]; unfold cutFl; simp only; omega, ?_⟩
  rw [e]
  unfold cutFl
  simp only
  rw [ex_ex _ _ _ h1, ← h.2, ex_ex _ _ _ h2]
theorem keeps_up {f : Fl} {b : ByteArray} (h : Keeps f b) (ks : List Int) : Keeps (upOne f ks).1 b := by
  have := h.1
  unfold upOne
  split
  · exact h
  · split
    · exact ⟨h.1, by simp only; rw [ex_ex _ _ _ h.1]; exact h.2⟩
    · exact ⟨by simp only; omega, by simp only; rw [ex_ex _ _ _ (by omega)]; exact h.2⟩
theorem mem_at {fs : List Fl} {f : Fl} (h : f ∈ fs) : ∃ k : Nat, fs[k]? = some f := by
  obtain ⟨k, hk, e⟩ := List.getElem_of_mem h
  exact ⟨k, by rw [List.getElem?_eq_getElem hk, e]⟩
/-- a file is found where its name is sought -/
theorem file_at {fs : List Fl} (hs : Sorted fs) {f : Fl} (h : f ∈ fs) : fs[pos fs f.nm]? = some f ∧ has fs f.nm = true := by
  obtain ⟨k, hk⟩ := mem_at h
  have hp : pos fs f.nm = k := pos_uniq (by have := (List.getElem?_eq_some_iff.1 hk).1; omega) (fun j g hj hg => sorted_lt hs hj hg hk) (fun g hg => by rw [hk] at hg; obtain rfl := Option.some.inj hg; rw [cmpN_self]; omega)
  exact ⟨by rw [hp]; exact hk, (has_iff hs f.nm).2 ⟨f, h, rfl⟩⟩
theorem set_self {fs : List Fl} {p : Nat} {f : Fl} (h : fs[p]? = some f) (g : Fl) : g ∈ fs.set p g :=
  List.mem_of_getElem? (i := p) (by rw [List.getElem?_set_self (List.getElem?_eq_some_iff.1 h).1])
theorem set_other {fs : List Fl} {p : Nat} {f x : Fl} (h : fs[p]? = some f) (hx : x ∈ fs) (hne : x.nm ≠ f.nm) (g : Fl) : x ∈ fs.set p g := by
  obtain ⟨k, hk⟩ := mem_at hx
  have hkp : p ≠ k := fun e => by
    subst e
    rw [h] at hk
    obtain rfl := Option.some.inj hk
    exact hne rfl
  exact List.mem_of_getElem? (i := k) (by rw [List.getElem?_set_ne hkp]; exact hk)
theorem mem_modF {fs : List Fl} (hs : Sorted fs) {nm : ByteArray} (hh : has fs nm = true) (t : Fl → Fl) {f : Fl} (hf : f ∈ fs) : (f.nm = nm → t f ∈ modF fs nm t) ∧ (f.nm ≠ nm → f ∈ modF fs nm t) := by
  obtain ⟨g, hg, hn⟩ := has_some hh
  unfold modF
  rw [hg]
  simp only
  refine ⟨fun e => ?_, fun e => set_other hg hf (by rw [hn]; exact e) _⟩
  subst e
  have := (file_at hs hf).1
  rw [hg] at this
  obtain rfl := Option.some.inj this
  exact set_self hg _
theorem mem_delF {fs : List Fl} {nm : ByteArray} {f : Fl} (hf : f ∈ fs) (hne : f.nm ≠ nm) : f ∈ delF fs nm := by
  cases hh : has fs nm with
  | false => unfold delF; rw [if_neg (by simp [hh])]; exact hf
  | true =>
    obtain ⟨g, hg, hn⟩ := has_some hh
    obtain ⟨k, hk⟩ := mem_at hf
    have hkp : pos fs nm ≠ k := fun e => by
      rw [e, hk] at hg
      obtain rfl := Option.some.inj hg
      exact hne hn
    unfold delF
    rw [if_pos hh]
    rcases Nat.lt_or_ge k (pos fs nm) with h1 | h1
    · exact List.mem_append_left _ (List.mem_of_getElem? (i := k) (by rw [List.getElem?_take, if_pos h1]; exact hk))
    · exact List.mem_append_right _ (List.mem_of_getElem? (i := k - (pos fs nm + 1)) (by rw [List.getElem?_drop]; rw [← hk]; congr 1; omega))
theorem mem_ins {l : List Fl} {x f : Fl} {p : Nat} (h : x ∈ l) : x ∈ l.take p ++ f :: l.drop p := by
  rw [← List.take_append_drop p l] at h
  rcases List.mem_append.1 h with h | h
  · exact List.mem_append_left _ h
  · exact List.mem_append_right _ (List.mem_cons_of_mem _ h)
theorem mem_putF {fs : List Fl} {nm s : ByteArray} {f : Fl} (hf : f ∈ fs) : f ∈ putF fs nm s ∨ { f with all := f.all ++ s } ∈ putF fs nm s := by
  cases hh : has fs nm with
  | true =>
    obtain ⟨g, hg, hn⟩ := has_some hh
    have e : putF fs nm s = fs.set (pos fs nm) { g with all := g.all ++ s } := by unfold putF; rw [hg]; simp [hh]
    rw [e]
    obtain ⟨k, hk⟩ := mem_at hf
    by_cases hkp : pos fs nm = k
    · rw [hkp, hk] at hg
      obtain rfl := Option.some.inj hg
      exact .inr (by rw [hkp]; exact set_self hk _)
    · exact .inl (List.mem_of_getElem? (i := k) (by rw [List.getElem?_set_ne hkp]; exact hk))
  | false =>
    have e : putF fs nm s = fs.take (pos fs nm) ++ ⟨nm, ⟨#[]⟩ ++ s, 0⟩ :: fs.drop (pos fs nm) := by unfold putF; split <;> simp [hh]
    rw [e]
    exact .inl (mem_ins hf)
theorem mem_renF {fs : List Fl} {fr to_ : ByteArray} {f : Fl} (hf : f ∈ fs) (h1 : f.nm ≠ fr) (h2 : f.nm ≠ to_) : f ∈ renF fs fr to_ := by
  unfold renF
  exact mem_ins (mem_delF (mem_delF hf h1) h2)
theorem new_renF (fs : List Fl) (fr to_ : ByteArray) : { fileF fs fr with nm := to_ } ∈ renF fs fr to_ := by
  unfold renF
  simp
theorem mem_upL (fs : List Fl) (ks : List Int) : ∀ f ∈ fs, ∃ r, (upOne f r).1 ∈ (upL fs ks).1 := by
  induction fs using RankP.snoc_ind with
  | h0 => intro f hf; simp at hf
  | h1 l x ih =>
    intro f hf
    rw [upL_snoc]
    rcases List.mem_append.1 hf with hf | hf
    · obtain ⟨r, hr⟩ := ih f hf
      exact ⟨r, List.mem_append_left _ hr⟩
    · obtain rfl : f = x := by simpa using hf
      exact ⟨_, List.mem_append_right _ (List.mem_singleton.2 rfl)⟩
theorem upOne_nm (f : Fl) (r : List Int) : (upOne f r).1.nm = f.nm := by
  unfold upOne
  split
  · rfl
  · split <;> rfl
/-- what is read of a file that is there -/
theorem read_at {S : DS} (hs : Sorted S.fs) (hon : S.on = true) {f : Fl} (h : f ∈ S.fs) : readD S f.nm = (f.all, 0) := by
  obtain ⟨h1, h2⟩ := file_at hs h
  unfold readD
  rw [if_neg (by simp [hon]), h1]
  simp [h2]
theorem getL_sure {fs : List Fl} {L : List (ByteArray × ByteArray)} (h : SureF fs L) {nm : ByteArray} {f : Fl} (hs : Sorted fs) (hf : f ∈ fs) (hn : f.nm = nm) : Keeps f (getL L nm) := by
  unfold getL
  cases hp : L.find? (fun p => decide (p.1 = nm)) with
  | none => exact keeps_nil f
  | some p =>
    have h1 : p.1 = nm := by simpa using List.find?_some hp
    obtain ⟨g, hg, e, k⟩ := h p (List.mem_of_find?_eq_some hp)
    have q1 := (file_at hs hg).1
    have q2 := (file_at hs hf).1
    rw [e, h1, ← hn, q2] at q1
    obtain rfl := Option.some.inj q1
    exact k
theorem dropL_mem {L : List (ByteArray × ByteArray)} {nm : ByteArray} {p : ByteArray × ByteArray} (h : p ∈ dropL L nm) : p ∈ L ∧ p.1 ≠ nm := by
  unfold dropL at h
  simpa using h
theorem opD_cases (S : DS) (t : List Fl → List Fl) (hon : S.on = true) : ((opD S t).2 = 9 ∧ (opD S t).1.fs = S.fs) ∨ ((opD S t).2 = 0 ∧ (opD S t).1.fs = t S.fs ∧ (opD S t).1.on = true) := by
  unfold opD
  split
  · exact .inl ⟨rfl, (blow_fs S).1⟩
  · rename_i hb
    refine .inr ⟨rfl, rfl, ?_⟩
    show (blow S).1.on = true
    unfold blow at hb ⊢
    split
    · exact hon
    · split
      · rename_i h1 h2
        rw [if_neg h1, if_pos h2] at hb
        exact absurd rfl hb
      · exact hon
theorem actD_sure {S : DS} {L : List (ByteArray × ByteArray)} (hs : Sorted S.fs) (hsu : ∀ f ∈ S.fs, f.su ≤ f.all.size) (h : SureF S.fs L) (x : Ac) :
    ((actD S x).2 = 0 → 2 ≤ x.kind → x.kind ≤ 5 → SureF (actD S x).1.fs (noteL (actD S x).1 L x)) ∧ (¬ ((actD S x).2 = 0 ∧ 2 ≤ x.kind ∧ x.kind ≤ 5) → SureF (actD S x).1.fs L) := by
  have same : ∀ T : DS, T.fs = S.fs → SureF T.fs L := fun T e => by rw [e]; exact h
  obtain ⟨kind, nm, to_, s, n, Ak, ck, ks⟩ := x
  unfold actD
  simp only
  by_cases e1 : kind = 1
  · subst e1
    rw [if_pos rfl]
    refine ⟨fun _ h2 => by omega, fun _ => ?_⟩
    unfold appendD
    split
    · exact h
    · split
      · exact h
      · split
        · exact h
        · intro p hp
          obtain ⟨f, hf, e, k⟩ := h p hp
          have eb : (begun { S with fs := putF S.fs nm s }).1.fs = putF S.fs nm s := (blow_fs _).1
          rw [eb]
          rcases mem_putF (nm := nm) (s := s) hf with hm | hm
          · exact ⟨f, hm, e, k⟩
          · exact ⟨_, hm, e, keeps_app k (hsu f hf) s⟩
  rw [if_neg e1]
  by_cases e2 : kind = 2
  · subst e2
    rw [if_pos rfl]
    unfold syncD
    split
    · exact ⟨fun h0 => by simp at h0, fun _ => h⟩
    · rename_i hon
      split
      · exact ⟨fun h0 => by simp at h0, fun _ => h⟩
      · rename_i hh
        have hh' : has S.fs nm = true := by simpa using hh
        rcases opD_cases S (fun fs => modF fs nm fun f => { f with su := f.all.size }) (by simpa using hon) with ⟨c1, c2⟩ | ⟨c1, c2, c3⟩
        · rw [c1]; exact ⟨fun h0 => by simp at h0, fun _ => same _ c2⟩
        · refine ⟨fun _ _ _ => ?_, fun hc => absurd ⟨c1, by decide, by decide⟩ hc⟩
          have key := fun f hf => mem_modF hs hh' (fun f => { f with su := f.all.size }) (f := f) hf
          have hfs : SureF (opD S fun fs => modF fs nm fun f => { f with su := f.all.size }).1.fs L := by
            rw [c2]
            intro p hp
            obtain ⟨f, hf, e, k⟩ := h p hp
            by_cases hn : f.nm = nm
            · exact ⟨_, (key f hf).1 hn, e, keeps_sync k (hsu f hf)⟩
            · exact ⟨f, (key f hf).2 hn, e, k⟩
          obtain ⟨g, hg, hgn⟩ := (has_iff hs nm).1 hh'
          unfold noteL
          rw [if_pos rfl]
          intro p hp
          rcases List.mem_append.1 hp with hp | hp
          · exact hfs p (dropL_mem hp).1
          · obtain rfl := List.mem_singleton.1 hp
            have hm : { g with su := g.all.size } ∈ (opD S fun fs => modF fs nm fun f => { f with su := f.all.size }).1.fs := by rw [c2]; exact (key g hg).1 hgn
            refine ⟨_, hm, hgn, ?_⟩
            have hsort : Sorted (opD S fun fs => modF fs nm fun f => { f with su := f.all.size }).1.fs := by
              rw [c2]
              unfold modF
              split
              · rename_i f hf; exact sorted_of_names hs (names_set hf rfl)
              · exact hs
            have hr := read_at hsort c3 hm
            simp only at hr ⊢
            rw [hgn] at hr
            rw [hr]
            exact keeps_all g
  rw [if_neg e2]
  by_cases e3 : kind = 3
  · subst e3
    rw [if_pos rfl]
    unfold renameD
    split
    · exact ⟨fun h0 => by simp at h0, fun _ => h⟩
    · rename_i hon
      split
      · exact ⟨fun h0 => by simp at h0, fun _ => h⟩
      · rename_i hh
        have hh' : has S.fs nm = true := by simpa using hh
        split
        · exact ⟨fun h0 => by simp at h0, fun _ => h⟩
        · rcases opD_cases S (fun fs => renF fs nm to_) (by simpa using hon) with ⟨c1, c2⟩ | ⟨c1, c2, c3⟩
          · rw [c1]; exact ⟨fun h0 => by simp at h0, fun _ => same _ c2⟩
          · refine ⟨fun _ _ _ => ?_, fun hc => absurd ⟨c1, by decide, by decide⟩ hc⟩
            rw [c2]
            unfold noteL
            rw [if_neg (by simp), if_pos rfl]
            intro p hp
            rcases List.mem_append.1 hp with hp | hp
            · obtain ⟨hp1, hp2⟩ := dropL_mem hp
              obtain ⟨hp3, hp4⟩ := dropL_mem hp1
              obtain ⟨f, hf, e, k⟩ := h p hp3
              simp only at hp2 hp4
              exact ⟨f, mem_renF hf (by rw [e]; exact hp4) (by rw [e]; exact hp2), e, k⟩
            · obtain rfl := List.mem_singleton.1 hp
              obtain ⟨g, hg, hgn⟩ := (has_iff hs nm).1 hh'
              have hfile : fileF S.fs nm = g := by
                have := (file_at hs hg).1
                rw [hgn] at this
                unfold fileF; rw [this]; simp [hh']
              have hm := new_renF S.fs nm to_
              rw [hfile] at hm
              have hk := getL_sure h hs hg hgn
              exact ⟨_, hm, rfl, hk⟩
  rw [if_neg e3]
  by_cases e4 : kind = 4
  · subst e4
    rw [if_pos rfl]
    unfold removeD
    split
    · exact ⟨fun h0 => by simp at h0, fun _ => h⟩
    · rename_i hon
      split
      · exact ⟨fun h0 => by simp at h0, fun _ => h⟩
      · rcases opD_cases S (fun fs => delF fs nm) (by simpa using hon) with ⟨c1, c2⟩ | ⟨c1, c2, c3⟩
        · rw [c1]; exact ⟨fun h0 => by simp at h0, fun _ => same _ c2⟩
        · refine ⟨fun _ _ _ => ?_, fun hc => absurd ⟨c1, by decide, by decide⟩ hc⟩
          rw [c2]
          unfold noteL
          rw [if_neg (by simp), if_neg (by simp), if_pos rfl]
          intro p hp
          obtain ⟨hp1, hp2⟩ := dropL_mem hp
          obtain ⟨f, hf, e, k⟩ := h p hp1
          exact ⟨f, mem_delF hf (by rw [e]; exact hp2), e, k⟩
  rw [if_neg e4]
  by_cases e5 : kind = 5
  · subst e5
    rw [if_pos rfl]
    unfold cutD
    split
    · exact ⟨fun h0 => by simp at h0, fun _ => h⟩
    · rename_i hon
      split
      · exact ⟨fun h0 => by simp at h0, fun _ => h⟩
      · rename_i hh
        have hh' : has S.fs nm = true := by simpa using hh
        split
        · exact ⟨fun h0 => by simp at h0, fun _ => h⟩
        · rename_i hn0
          rcases opD_cases S (fun fs => modF fs nm (cutFl n.toNat)) (by simpa using hon) with ⟨c1, c2⟩ | ⟨c1, c2, c3⟩
          · rw [c1]; exact ⟨fun h0 => by simp at h0, fun _ => same _ c2⟩
          · refine ⟨fun _ _ _ => ?_, fun hc => absurd ⟨c1, by decide, by decide⟩ hc⟩
            rw [c2]
            have key := fun f hf => mem_modF hs hh' (cutFl n.toNat) (f := f) hf
            obtain ⟨g, hg, hgn⟩ := (has_iff hs nm).1 hh'
            unfold noteL
            rw [if_neg (by simp), if_neg (by simp), if_neg (by simp)]
            intro p hp
            rcases List.mem_append.1 hp with hp | hp
            · obtain ⟨hp1, hp2⟩ := dropL_mem hp
              obtain ⟨f, hf, e, k⟩ := h p hp1
              exact ⟨f, (key f hf).2 (by rw [e]; exact hp2), e, k⟩
            · obtain rfl := List.mem_singleton.1 hp
              refine ⟨_, (key g hg).1 hgn, hgn, ?_⟩
              have hk := getL_sure h hs hg hgn
              exact keeps_cut hk (by unfold cutN; simp only; omega) (by unfold cutN; simp only; omega)
  rw [if_neg e5]
  refine ⟨fun _ a b => by omega, fun _ => ?_⟩
  split
  · exact h
  · split
    · exact h
    · split
      · intro p hp
        obtain ⟨f, hf, e, k⟩ := h p hp
        obtain ⟨r, hr⟩ := mem_upL S.fs ks f hf
        exact ⟨_, hr, (upOne_nm f r).trans e, keeps_up k r⟩
      · exact h
end Go.Proofs.YtcpmicinibfepaaGreatDoor
