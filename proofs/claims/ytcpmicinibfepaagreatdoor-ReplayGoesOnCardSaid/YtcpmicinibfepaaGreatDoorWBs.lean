/- Layer 33: what holds of a disk that has some files, all sure; what Fuse and Up leave of its segments (plain) · Layer 33: all that ReplayRepairs asks of a disk, one behind the other (plain) · Layer 33, plain: what a scan tells of a log that crashed, and that the repaired log is one that goes on · Layer 33, plain: a log that crashed, was repaired, and goes on: its invariants, and what a scan tells at the end · Texts in a slice whose capacity may be cut: what is appended goes to a new row. -/
import Derived.Test.YtcpmicinibfepaaGreatDoorWBp
import Derived.Test.YtcpmicinibfepaaGreatDoorWBr
import Derived.Test.YtcpmicinibfepaaGreatDoorWBj
import Derived.Test.YtcpmicinibfepaaGreatDoorWBl
namespace Go.Proofs.YtcpmicinibfepaaGreatDoor
open Go.ChangeShapes Go.WideShapes Go.ChangeAt Go.RowKit Go.Deep DiskP NameP FrameP


theorem RepS.fuse {S : DS} {l : Sgs} (h : RepS S l) (n : Int) : RepS { S with fuse := n } l := by
  obtain ⟨X, O, hX, hf, ho, hsu⟩ := h.ex
  exact ⟨⟨{ X with fuse := n }, O, ⟨hX.room, hX.made, hX.on, rfl, hX.ops, hX.perm⟩, hf, ho, hsu⟩, h.range, h.rise⟩
theorem RepS.sure {S : DS} {l : Sgs} (h : RepS S l) : ∀ f ∈ S.fs, f.su = f.all.size := fun f hf => by
  obtain ⟨X, O, hX, hfs, ho, hsu⟩ := h.ex
  have hm := hX.perm.mem_iff.2 hf
  rw [hfs] at hm
  rcases List.mem_append.1 hm with hm | hm
  · obtain ⟨x, _, rfl⟩ := List.mem_map.1 hm
    simp [segF, ByteArray.size]
  · exact hsu f hm
theorem RepS.up {S : DS} {l : Sgs} (h : RepS S l) (ks : List Int) : RepS (upD S ks) l := by
  have hs := upL_sure S.fs ks h.sure
  obtain ⟨X, O, hX, hf, ho, hsu⟩ := h.ex
  have e : upD S ks = { S with on := true, fuse := -1 } := by
    unfold upD
    rw [hs]
  rw [e]
  exact ⟨⟨{ X with on := true, fuse := -1 }, O, ⟨hX.room, hX.made, rfl, rfl, hX.ops, hX.perm⟩, hf, ho, hsu⟩, h.range, h.rise⟩
/-- behind an Up all is sure -/
theorem up_sure (ks : List Int) (fs : List Fl) (h : ∀ f ∈ fs, f.su ≤ f.all.size) : ∀ f ∈ (upL fs ks).1, f.su = f.all.size := by
  induction fs using RankP.snoc_ind with
  | h0 => intro f hf; simp [upL] at hf
  | h1 fs x ih =>
    rw [upL_snoc]
    intro f hf
    rcases List.mem_append.1 hf with hf | hf
    · exact ih (fun g hg => h g (List.mem_append_left _ hg)) f hf
    · obtain rfl := List.mem_singleton.1 hf
      have hx := h x (by simp)
      unfold upOne
      split
      · rename_i e; exact e
      · split
        · simp only [ByteArray.size_extract]; omega
        · simp only [ByteArray.size_extract]; omega
theorem laidS_inv {l : List Rf} (hf : fewR l) : DInv 65536 12 48 (laidS l) ∧ (laidS l).on = true ∧ (laidS l).fuse = -1 ∧ (∀ f ∈ (laidS l).fs, f.su = f.all.size) := by
  have hinv := laidD_inv l (fun g hg => (hf.2 g hg).2) 0 0 d0 d0_inv
  have hinv1 : DInv 65536 (0 + l.length) (0 + 4 * l.length) { laidD d0 l with on := false, fuse := -1 } := { hinv with fuse := by simp only; omega }
  have h12 := hf.1
  refine ⟨((upD_inv hinv1 sureKs).1).more (by omega) (by omega), rfl, rfl, ?_⟩
  exact up_sure sureKs _ hinv.sure
/-- all files bear names that may be -/
def Nmd (F : List Fl) : Prop := ∀ f ∈ F, namedD f.nm = true
theorem Nmd.small {F : List Fl} (h : Nmd F) : (∀ s ∈ names F, s.size ≤ 100) ∧ ∀ s ∈ names F, s ≠ ⟨#[]⟩ := by
  have h1 : ∀ s ∈ names F, 1 ≤ s.size ∧ s.size ≤ 24 := fun s hs => by
    unfold names at hs
    obtain ⟨f, hf, rfl⟩ := List.mem_map.1 hs
    have := h f hf
    unfold namedD at this
    simp only [Bool.and_eq_true, decide_eq_true_eq] at this
    exact this.2
  refine ⟨fun s hs => by have := h1 s hs; omega, fun s hs e => ?_⟩
  have := h1 s hs
  rw [e] at this
  exact absurd this.1 (by decide)
theorem nmd_blow {S : DS} (h : Nmd S.fs) : Nmd (blow S).1.fs := by rw [(blow_fs S).1]; exact h
theorem nmd_append {S : DS} (h : Nmd S.fs) (nm s : ByteArray) : Nmd (appendD S nm s).1.fs := by
  unfold appendD
  split
  · exact h
  · split
    · exact h
    · rename_i hn
      have hn' : namedD nm = true := by simpa using hn
      split
      · exact h
      · unfold begun
        refine nmd_blow (S := { S with fs := putF S.fs nm s }) ?_
        show Nmd (putF S.fs nm s)
        have hnew : Nmd (S.fs.take (pos S.fs nm) ++ ⟨nm, ⟨#[]⟩ ++ s, 0⟩ :: S.fs.drop (pos S.fs nm)) := fun f hf => by
          rcases List.mem_append.1 hf with hf | hf
          · exact h f (List.mem_of_mem_take hf)
          · rcases List.mem_cons.1 hf with rfl | hf
            · exact hn'
            · exact h f (List.mem_of_mem_drop hf)
        unfold putF
        split
        · rename_i f hk
          split
          · intro g hg
            rcases List.mem_or_eq_of_mem_set hg with hg | rfl
            · exact h g hg
            · exact h f (List.mem_of_getElem? hk)
          · exact hnew
        · exact hnew
theorem nmd_op {S : DS} (h : Nmd S.fs) (t : List Fl → List Fl) (ht : Nmd (t S.fs)) : Nmd (opD S t).1.fs := by
  unfold opD
  split
  · exact nmd_blow h
  · exact ht
theorem nmd_remove {S : DS} (h : Nmd S.fs) (nm : ByteArray) : Nmd (removeD S nm).1.fs := by
  unfold removeD
  split
  · exact h
  · split
    · exact h
    · exact nmd_op h _ (fun f hf => h f ((delF_sub S.fs nm).subset hf))
theorem nmd_cut {S : DS} (h : Nmd S.fs) (nm : ByteArray) (n : Int) : Nmd (cutD S nm n).1.fs := by
  unfold cutD
  split
  · exact h
  · split
    · exact h
    · split
      · exact h
      · refine nmd_op h _ ?_
        unfold modF
        split
        · rename_i f hk
          intro g hg
          rcases List.mem_or_eq_of_mem_set hg with hg | rfl
          · exact h g hg
          · exact h f (List.mem_of_getElem? hk)
        · exact h
theorem nmd_remAll : ∀ (l : List ByteArray) {S : DS}, Nmd S.fs → Nmd (remAll S l).1.fs := by
  intro l
  induction l with
  | nil => intro S h; exact h
  | cons a l ih =>
    intro S h
    simp only [remAll]
    split
    · exact nmd_remove h a
    · exact ih (nmd_remove h a)
theorem nmd_repair {S : DS} (h : Nmd S.fs) (file : ByteArray) (keep : Int) (xs : List ByteArray) : Nmd (repairD S file keep xs).1.fs := by
  have h1 := nmd_remAll xs.reverse h
  unfold repairD
  split
  · exact h1
  · split
    · exact h1
    · split
      · exact h1
      · split
        · exact nmd_remove h1 file
        · split
          · exact h1
          · exact nmd_cut h1 file keep
theorem nmd_up {S : DS} (hs : ∀ f ∈ S.fs, f.su ≤ f.all.size) (h : Nmd S.fs) (ks : List Int) : Nmd (upD S ks).fs := fun f hf => by
  have h1 := (upL_facts S.fs ks hs).1
  have h2 : f.nm ∈ names S.fs := by
    rw [← h1]
    exact List.mem_map_of_mem hf
  obtain ⟨g, hg, e⟩ := List.mem_map.1 h2
  rw [← e]
  exact h g hg
theorem nmd_laid {l : List Rf} (hf : fewR l) : Nmd (laidS l).fs := by
  have hinv := laidD_inv l (fun g hg => (hf.2 g hg).2) 0 0 d0 d0_inv
  have h1 : ∀ (l : List Rf) (S : DS), Nmd S.fs → Nmd (laidD S l).fs := by
    intro l
    induction l with
    | nil => intro S h; exact h
    | cons f l ih => intro S h; exact ih _ (nmd_append h f.nm f.s)
  exact nmd_up (S := { laidD d0 l with on := false, fuse := -1 }) hinv.sure (h1 l d0 (fun f hf => by simp [d0] at hf)) sureKs
end Go.Proofs.YtcpmicinibfepaaGreatDoor

namespace Go.Proofs.YtcpmicinibfepaaGreatDoor
open Go.ChangeShapes Go.WideShapes Go.ChangeAt Go.RowKit Go.Deep DiskP NameP FrameP


theorem readD_none {S : DS} (hs : Sorted S.fs) (nm : ByteArray) (h : ∀ s ∈ names S.fs, s ≠ nm) : (readD S nm).1 = ⟨#[]⟩ := by
  unfold readD
  split
  · rfl
  · split
    · rename_i f hk
      split
      · rename_i hh
        obtain ⟨g, hg, e⟩ := (has_iff hs nm).1 hh
        exact absurd e (h g.nm (List.mem_map_of_mem hg))
      · rfl
    · rfl
theorem repair_inv {R : Int} {i j : Nat} {S : DS} (h : DInv R i j S) (file : ByteArray) (keep : Int) (xs : List ByteArray) : DInv R (i + xs.length + 1) j (repairD S file keep xs).1 := by
  have h1 := remAll_inv xs.reverse i S h
  rw [List.length_reverse] at h1
  have h2 := h1.more (i' := i + xs.length + 1) (j' := j) (by omega) (Nat.le_refl _)
  unfold repairD
  split
  · exact h2
  · split
    · exact h2
    · split
      · exact h2
      · split
        · exact (removeD_inv h1 file).1
        · split
          · exact h2
          · exact (cutD_inv h1 file keep).1
theorem scan_extra (l : Sgs) (a : Int) : (scanF l a).2.2.length ≤ l.length := by
  unfold scanF
  split
  · simp
  · simp
/-- what comes, one behind the other -/
structure Chain (S0 : DS) (a fu : Int) (l0 l1 l2 : Sgs) (D D4 : DS × Int) (s : ByteArray) (e5 : Int) : Prop where
  s0 : SegsD S0 l0
  i1 : DInv 65536 12 48 { S0 with fuse := max fu (-1) }
  d : repairD { S0 with fuse := max fu (-1) } (fileB (scanF l0 a).2.1.1) ((scanF l0 a).2.1.2 : Nat) ((scanF l0 a).2.2.map tB) = D
  dd : (D.2 = 0 ∧ D.1.on = true) ∨ (D.2 = 9 ∧ D.1.on = false)
  i2 : DInv 65536 100 48 D.1
  s3 : SegsD (upD D.1 []) l1
  i3 : DInv 65536 100 48 (upD D.1 [])
  f1 : (scanF l1 a).1 = (scanF l0 a).1
  d4 : repairD (upD D.1 []) (fileB (scanF l1 a).2.1.1) ((scanF l1 a).2.1.2 : Nat) ((scanF l1 a).2.2.map tB) = D4
  e4 : D4.2 = 0
  s4 : SegsD D4.1 l2
  i4 : DInv 65536 200 48 D4.1
  f2 : (scanF l2 a).1 = (scanF l0 a).1
  ex : (scanF l2 a).2.2 = []
  rd : readD D4.1 (fileB (scanF l2 a).2.1.1) = (s, e5)
  sz : s.size = (scanF l2 a).2.1.2
  fk : fileB (scanF l2 a).2.1.1 ≠ ⟨#[]⟩ ∨ (scanF l2 a).2.1.2 = 0
theorem rep_chain {l : List Rf} (hf : fewR l) (a fu : Int) (hfu : I64 fu) : ∃ l0 l1 l2 D D4 s e5, Chain (laidS l) a fu l0 l1 l2 D D4 s e5 := by
  obtain ⟨I0, on0, _, sure0⟩ := laidS_inv hf
  have N0 := nmd_laid hf
  obtain ⟨l0, h0⟩ := repS_of I0.sorted sure0
  have s0 := h0.segsD I0 (by omega) on0 N0.small.1
  have i1 : DInv 65536 12 48 { laidS l with fuse := max fu (-1) } := { I0 with fuse := by unfold I64 at hfu; simp only; omega }
  have h1 := h0.fuse (max fu (-1))
  have N1 : Nmd ({ laidS l with fuse := max fu (-1) } : DS).fs := N0
  have hr := repair_law (a := a) i1 on0 h1
  have iD := repair_inv i1 (fileB (scanF l0 a).2.1.1) ((scanF l0 a).2.1.2 : Nat) ((scanF l0 a).2.2.map tB)
  have nD := nmd_repair N1 (fileB (scanF l0 a).2.1.1) ((scanF l0 a).2.1.2 : Nat) ((scanF l0 a).2.2.map tB)
  have hx0 := scan_extra l0 a
  have hl0 := s0.len
  rw [List.length_map] at iD
  obtain ⟨D, hD⟩ : ∃ D, repairD { laidS l with fuse := max fu (-1) } (fileB (scanF l0 a).2.1.1) ((scanF l0 a).2.1.2 : Nat) ((scanF l0 a).2.2.map tB) = D := ⟨_, rfl⟩
  rw [hD] at hr iD nD
  have iD' := iD.more (i' := 100) (j' := 48) (by omega) (Nat.le_refl _)
  obtain ⟨dd, l1, h2, f1⟩ : ((D.2 = 0 ∧ D.1.on = true) ∨ (D.2 = 9 ∧ D.1.on = false)) ∧ ∃ l1, RepS D.1 l1 ∧ (scanF l1 a).1 = (scanF l0 a).1 := by
    rcases hr with ⟨q1, q2, l1, q3, _, q4⟩ | ⟨q1, q2, _, l1, q3, q4⟩
    · exact ⟨.inl ⟨q1, q2⟩, l1, q3, q4⟩
    · exact ⟨.inr ⟨q1, q2⟩, l1, q3, q4⟩
  have h3 := h2.up []
  have i3 := (upD_inv iD' []).1
  have N3 := nmd_up iD'.sure nD []
  have s3 := h3.segsD i3 (by omega) rfl N3.small.1
  have hr3 := repair_law (a := a) i3 rfl h3
  have i4 := repair_inv i3 (fileB (scanF l1 a).2.1.1) ((scanF l1 a).2.1.2 : Nat) ((scanF l1 a).2.2.map tB)
  have n4 := nmd_repair N3 (fileB (scanF l1 a).2.1.1) ((scanF l1 a).2.1.2 : Nat) ((scanF l1 a).2.2.map tB)
  have hx1 := scan_extra l1 a
  have hl1 := s3.len
  rw [List.length_map] at i4
  obtain ⟨D4, hD4⟩ : ∃ D4, repairD (upD D.1 []) (fileB (scanF l1 a).2.1.1) ((scanF l1 a).2.1.2 : Nat) ((scanF l1 a).2.2.map tB) = D4 := ⟨_, rfl⟩
  rw [hD4] at hr3 i4 n4
  have i4' := i4.more (i' := 200) (j' := 48) (by omega) (Nat.le_refl _)
  rcases hr3 with ⟨q1, q2, l2, q3, q4, q5⟩ | ⟨_, _, q3, _⟩
  · obtain ⟨ex, hfile⟩ := fin_scan q4
    have s4 := q3.segsD i4' (by omega) q2 n4.small.1
    rcases hfile with hfile | ⟨x, hx, hfile, hpos⟩
    · refine ⟨l0, l1, l2, D, D4, (readD D4.1 (fileB (scanF l2 a).2.1.1)).1, (readD D4.1 (fileB (scanF l2 a).2.1.1)).2, s0, i1, hD, dd, iD', s3, i3, f1, hD4, q1, s4, i4', q5.trans f1, ex, rfl, ?_, .inr (by rw [hfile])⟩
      rw [hfile, show fileB (none, 0).1 = ⟨#[]⟩ from rfl, readD_none i4'.sorted ⟨#[]⟩ n4.small.2]
      rfl
    · have hr := q3.readAt i4'.sorted q2 hx
      refine ⟨l0, l1, l2, D, D4, ⟨x.2.toArray⟩, 0, s0, i1, hD, dd, iD', s3, i3, f1, hD4, q1, s4, i4', q5.trans f1, ex, ?_, ?_, .inl ?_⟩
      · rw [hfile]; exact hr
      · rw [hfile]; simp [ByteArray.size]
      · rw [hfile]; exact tB_ne0 (q3.range x hx)
  · exact absurd rfl q3
end Go.Proofs.YtcpmicinibfepaaGreatDoor

namespace Go.Proofs.YtcpmicinibfepaaGreatDoor
open Go.ChangeShapes Go.WideShapes Go.ChangeAt Go.RowKit Go.Deep DiskP NameP FrameP


theorem frs_app (a b : List ByteArray) : ∀ n, frs n (a ++ b) = frs n a ++ frs (n + a.length) b := by
  induction a with
  | nil => intro n; rfl
  | cons x r ih => intro n; simp only [List.cons_append, frs, ih, List.length_cons]; rw [show n + 1 + r.length = n + (r.length + 1) by omega]
theorem frs_row (l : List ByteArray) (n : Nat) : Row (frs n l) n := fun i f hf => by
  rw [frs_get] at hf
  obtain ⟨d, _, rfl⟩ := Option.map_eq_some_iff.1 hf
  push_cast
  rfl
/-- the texts of frames -/
def txt (l : List FrameP.Fr) : List ByteArray := l.map fun f => S8 f.2
theorem txt_frs (l : List ByteArray) : ∀ n, txt (frs n l) = l := by
  induction l with
  | nil => intro n; rfl
  | cons x r ih =>
    intro n
    show S8 x.data.toList :: txt (frs (n + 1) r) = _
    rw [ih, S8_back]
theorem row_frs : ∀ (l : List FrameP.Fr) (n : Nat), Row l n → l = frs n (txt l) := by
  intro l
  induction l with
  | nil => intro n _; rfl
  | cons f r ih =>
    intro n h
    have h0 := h 0 f rfl
    have h1 : Row r ((n + 1 : Nat) : Int) := fun i g hg => by
      have := h (i + 1) g (by simpa using hg)
      rw [this]; push_cast; omega
    show f :: r = ((n : Int), (S8 f.2).data.toList) :: frs (n + 1) (txt r)
    rw [← ih _ h1, S8_toList]
    congr 1
    obtain ⟨a, b⟩ := f
    simp only at h0 ⊢
    rw [h0]
    simp
theorem whole_of_all {s : FrameP.Bs} {n sz : Nat} {t : List ByteArray} {er : Int} (h : FrameP.all s = (frs n t, sz, er)) : whole s n = frs n t ∧ FrameP.bytes (whole s n) = sz := by
  have h1 := (all_facts s.length s (Nat.le_refl _)).1
  have h2 : whole s n = frs n t := by
    unfold whole
    rw [h]
    exact (frs_row t n).runs
  refine ⟨h2, ?_⟩
  rw [h2]
  rw [h] at h1
  exact h1
/-- segments one behind the other, of which the last one alone may be torn, are all read -/
theorem end_reads : ∀ (G : List Sg) (l : Sgs) (n p : Nat), cont n G → l.length = G.length → (G = [] → p = 0) →
    (∀ (k : Nat) x g, l[k]? = some x → G[k]? = some g → x.1 = (g.1 : Int) ∧ ∃ m, m ≤ g.2.length ∧ whole x.2 x.1 = frs g.1 (g.2.take m) ∧ (k + 1 < G.length → m = g.2.length ∧ FrameP.bytes (whole x.2 x.1) = x.2.length) ∧ (k + 1 = G.length → p ≤ (flat (G.take k)).length + m)) →
    cntS l n = l.length ∧ ∃ q, q ≤ (flat G).length ∧ p ≤ q ∧ frS l = frs n ((flat G).take q) := by
  intro G
  induction G with
  | nil =>
    intro l n p _ hl hp _
    obtain rfl := List.eq_nil_of_length_eq_zero hl
    exact ⟨rfl, 0, Nat.le_refl _, by rw [hp rfl]; exact Nat.le_refl _, rfl⟩
  | cons g r ih =>
    rintro l n p ⟨hg1, hg2, hc⟩ hl _ h
    cases l with
    | nil => simp at hl
    | cons x l =>
      obtain ⟨hx, m, hm, hw, hin, hla⟩ := h 0 x g rfl rfl
      have hxn : x.1 = (n : Int) := by rw [hx, hg1]
      have hfl : flat (g :: r) = g.2 ++ flat r := by simp [flat]
      have hfs : frS (x :: l) = whole x.2 x.1 ++ frS l := by simp [frS]
      simp only [cntS]
      rw [if_neg (by rw [hxn]; simp)]
      cases r with
      | nil =>
        have hl0 : l = [] := List.eq_nil_of_length_eq_zero (by simpa using hl)
        subst hl0
        refine ⟨by split <;> rfl, m, by rw [hfl, List.length_append]; omega, ?_, ?_⟩
        · have := hla (by simp)
          simpa [flat] using this
        · rw [hfs, hw, hfl, hg1]
          simp [frS, flat]
      | cons g2 r2 =>
        obtain ⟨e1, e2⟩ := hin (by simp)
        rw [if_neg (by omega)]
        have hwl : (whole x.2 x.1).length = g.2.length := by rw [hw, e1, List.take_length, frs_len]
        obtain ⟨i1, q, i2, i3, i4⟩ := ih l (n + g.2.length) (p - g.2.length) hc (by simpa using hl) (fun e => by simp at e) (fun k y g' hy hg' => by
          obtain ⟨a1, m', a2, a3, a4, a5⟩ := h (k + 1) y g' (by simpa using hy) (by simpa using hg')
          refine ⟨a1, m', a2, a3, fun hk => a4 (by simpa using hk), fun hk => ?_⟩
          have := a5 (by simpa using hk)
          simp only [List.take_succ_cons, flat, List.flatMap_cons, List.length_append] at this ⊢
          omega)
        refine ⟨?_, g.2.length + q, by rw [hfl, List.length_append]; omega, by omega, ?_⟩
        · rw [hwl, show (n : Int) + (g.2.length : Int) = ((n + g.2.length : Nat) : Int) by push_cast; rfl, i1]
          simp
        · rw [hfs, hw, e1, List.take_length, i4, hfl, List.take_length_add_append, frs_app, hg1]
/-- a scan from the first number on, of what is read all -/
theorem scan_all {l : Sgs} (hc : cntS l 1 = l.length) (h1 : ∀ x, l[0]? = some x → x.1 = 1) : (scanF l 0).1 = frS l ∧ (frS l ≠ [] → (scanF l 0).2.2 = []) := by
  have hr : rdS l 0 = l.length := by
    cases l with
    | nil => rfl
    | cons x r =>
      have := h1 x rfl
      simp only [rdS]
      rw [if_neg (by omega), this]
      exact hc
  unfold scanF
  rw [hr, List.take_length]
  split
  · rename_i h
    rcases h with h | h
    · rw [h]; exact ⟨rfl, fun e => absurd rfl e⟩
    · cases l with
      | nil => simp [frS]
      | cons x r =>
        have := h1 x rfl
        have hf : fst0 (x :: r) = 1 := this
        rw [hf] at h
        omega
  · rename_i h
    have hne : l ≠ [] := fun e => h (.inl (by rw [e]; rfl))
    obtain ⟨x, r, rfl⟩ := List.exists_cons_of_ne_nil hne
    have hf : fst0 (x :: r) = 1 := h1 x rfl
    rw [hf]
    exact ⟨by simp, fun _ => by simp⟩
/-- what is all whole is a log's -/
theorem whole_segs : ∀ (l : Sgs) (n : Nat), 1 ≤ n → cntS l n = l.length → (l.map (·.1)).Pairwise (· < ·) → (∀ l0 x, l = l0 ++ [x] → FrameP.bytes (whole x.2 x.1) = x.2.length ∧ 0 < x.2.length) →
    ∃ G : List Sg, l.map segF = G.map full ∧ cont n G ∧ frS l = frs n (flat G) ∧ G.length = l.length := by
  intro l
  induction l with
  | nil => intro n _ _ _ _; exact ⟨[], rfl, trivial, rfl, rfl⟩
  | cons x r ih =>
    intro n hn hc hp hla
    simp only [cntS, List.length_cons] at hc
    have hx : x.1 = (n : Int) := by
      by_cases h : x.1 = (n : Int)
      · exact h
      · rw [if_pos h] at hc; omega
    rw [if_neg (by simp [hx])] at hc
    obtain ⟨w1, w2, w3, w4, _⟩ := whole_facts x.2.length x.2 x.1 (Nat.le_refl _)
    have hb : FrameP.bytes (whole x.2 x.1) = x.2.length ∧ whole x.2 x.1 ≠ [] := by
      cases r with
      | nil =>
        obtain ⟨a, b⟩ := hla [] x rfl
        refine ⟨a, fun e => ?_⟩
        rw [e] at a
        have : FrameP.bytes ([] : List FrameP.Fr) = 0 := rfl
        omega
      | cons y r =>
        have hb : FrameP.bytes (whole x.2 x.1) = x.2.length := by
          by_cases h : FrameP.bytes (whole x.2 x.1) < x.2.length
          · rw [if_pos h] at hc; simp at hc
          · omega
        refine ⟨hb, fun e => ?_⟩
        rw [if_neg (by omega), e] at hc
        simp only [cntS, List.length_nil, List.length_cons] at hc
        have hlt : x.1 < y.1 := (List.pairwise_cons.1 hp).1 y.1 (by simp)
        rw [if_pos (by omega)] at hc
        omega
    obtain ⟨b1, b2⟩ := hb
    rw [if_neg (by omega)] at hc
    have hwr := row_frs (whole x.2 x.1) n (by rw [hx] at w4 ⊢; exact w4)
    have htl : (txt (whole x.2 x.1)).length = (whole x.2 x.1).length := by unfold txt; simp
    have hr := ih (n + (txt (whole x.2 x.1)).length) (by omega) (by rw [hx] at hc htl ⊢; rw [htl]; push_cast; omega) (List.pairwise_cons.1 (by simpa using hp)).2 (fun l0 y e => hla (x :: l0) y (by rw [e]; rfl))
    obtain ⟨G, g1, g2, g3, g4⟩ := hr
    refine ⟨(n, txt (whole x.2 x.1)) :: G, ?_, ⟨rfl, ?_, g2⟩, ?_, by simp [g4]⟩
    · rw [List.map_cons, List.map_cons, g1]
      congr 1
      have e1 : sgB (n, txt (whole x.2 x.1)) = ⟨x.2.toArray⟩ := by
        show S8 (FrameP.encs (frs n (txt (whole x.2 x.1)))) = _
        rw [← hwr, ← w3, b1, List.take_length]
        rfl
      show (⟨tB x.1, ⟨x.2.toArray⟩, x.2.length⟩ : Fl) = ⟨tB (n : Int), sgB (n, txt (whole x.2 x.1)), (sgB (n, txt (whole x.2 x.1))).size⟩
      rw [e1, hx]
      simp [ByteArray.size]
    · intro e
      have e' : txt (whole x.2 x.1) = [] := e
      have : (txt (whole x.2 x.1)).length = 0 := by rw [e']; rfl
      rw [htl] at this
      exact b2 (List.eq_nil_of_length_eq_zero this)
    · have hfs : frS (x :: r) = whole x.2 x.1 ++ frS r := by simp [frS]
      have hfl : flat ((n, txt (whole x.2 x.1)) :: G) = txt (whole x.2 x.1) ++ flat G := by simp [flat]
      rw [hfs, hfl, frs_app, g3, ← hwr]
/-- a disk of logs alone that was repaired -/
theorem fin_core {S : DS} {l : Sgs} {T : List ByteArray} (h : RepS S l) (hf : FinS l 0) (hk : ∀ s ∈ names S.fs, (kB s).1 = 1) (hT : (scanF l 0).1 = frs 1 T) : CoreW S T T.length := by
  obtain ⟨X, O, hX, hfs, ho, _⟩ := h.ex
  have hO : O = [] := by
    rcases O with _ | ⟨o, O⟩
    · rfl
    · have hm : o ∈ S.fs := hX.perm.mem_iff.1 (by rw [hfs]; simp)
      exact absurd (hk _ (List.mem_map_of_mem hm)) (ho o (by simp))
  rw [hO, List.append_nil] at hfs
  refine ⟨X, hX, ?_⟩
  rw [hfs]
  rcases hf with rfl | ⟨h1, h2, l0, x, hl, h3, h4⟩
  · have hs : (scanF ([] : Sgs) 0).1 = [] := by simp [scanF, frS]
    rw [hs] at hT
    have := congrArg List.length hT
    rw [frs_len] at this
    obtain rfl := List.eq_nil_of_length_eq_zero this.symm
    exact .inl ⟨rfl, rfl, rfl⟩
  · have hne : l ≠ [] := by rw [hl]; simp
    obtain ⟨y, r, hyr⟩ := List.exists_cons_of_ne_nil hne
    have hy1 : y.1 = 1 := by
      have hy := h.range y (by rw [hyr]; simp)
      have hlen : 0 < l.length := by rw [hyr]; simp
      rw [hyr] at h2
      simp only [rdS] at h2
      by_cases h0 : 0 < y.1 - 1
      · rw [if_pos h0] at h2; simp at h2
      · omega
    have hc : cntS l 1 = l.length := by
      rw [hyr] at h2 ⊢
      simp only [rdS] at h2
      rw [if_neg (by omega), hy1] at h2
      exact h2
    obtain ⟨e1, _⟩ := scan_all hc (fun z hz => by rw [hyr] at hz; simp at hz; rw [← hz]; exact hy1)
    obtain ⟨G, g1, g2, g3, g4⟩ := whole_segs l 1 (Nat.le_refl _) hc h.rise (fun l1 z e => by
      rw [hl] at e
      obtain ⟨_, ez⟩ := List.append_inj' e rfl
      injection ez with ez
      rw [← ez]
      exact ⟨h3, h4⟩)
    rw [e1, g3] at hT
    have hTG : flat G = T := by rw [← txt_frs (flat G) 1, hT, txt_frs]
    have hG : G ≠ [] := fun e => by rw [e] at g4; rw [hyr] at g4; simp at g4
    rw [g1, ← hTG, ← List.dropLast_concat_getLast hG]
    rw [← List.dropLast_concat_getLast hG] at g2
    exact full_segs g2
end Go.Proofs.YtcpmicinibfepaaGreatDoor

namespace Go.Proofs.YtcpmicinibfepaaGreatDoor
open Go.ChangeShapes Go.WideShapes Go.ChangeAt Go.RowKit Go.Deep DiskP NameP FrameP


theorem CrI.skip {R : Int} {k : Nat} {L : WL} {T : List ByteArray} {p : Nat} {sent : List ByteArray} (h : CrI R k L T p sent) : CrI R (k + 1) L T p sent :=
  ⟨h.inv.more (by omega) (by omega), h.core, h.sy, by have := h.nx; omega, h.pre, by have := h.len; omega, h.txt, h.on⟩
/-- with room enough no append is refused -/
theorem CrI.pushOk {k : Nat} {L : WL} {T : List ByteArray} {p : Nat} {sent : List ByteArray} (h : CrI 65536 k L T p sent) (hk : k ≤ 30) (size : Int) (d : ByteArray) (hd : d.size ≤ 100) (hl : (sent.length : Int) = L.nx - 1) :
    ∃ T' p', CrI 65536 (k + 1) (appendW size L d).1 T' p' (sent ++ [d]) := by
  rcases h.push (by omega) size d hd hl with h1 | ⟨h5, _⟩
  · exact h1.2
  · exfalso
    by_cases hon : L.S.on = true
    · obtain ⟨hs, hn⟩ := h.on hon
      have htl := h.tlen
      have hb := bytesT_le T (fun x hx => h.txt x (by rw [hs]; exact hx))
      rcases append_law h.inv h.core h.sy hon hn (by omega) size d with ⟨a1, _⟩ | ⟨_, _, _, a4, _⟩ | ⟨a1, _⟩
      · rw [a1] at h5; simp at h5
      · omega
      · rw [a1] at h5; simp at h5
    · rw [append_dead (by simpa using hon)] at h5
      simp at h5
/-- a log that goes on: nothing crashes -/
structure GoI (k : Nat) (L : WL) (T : List ByteArray) : Prop where
  inv : DInv 65536 (160 + 2 * k) (60 + 2 * k) L.S
  core : ∃ p : Nat, CoreW L.S T p ∧ L.sy = p
  on : L.S.on = true
  fuse : L.S.fuse = -1
  nx : L.nx = T.length + 1
  len : T.length ≤ 30 + k
  txt : ∀ d ∈ T, d.size ≤ 100
theorem GoI.push {k : Nat} {L : WL} {T : List ByteArray} (h : GoI k L T) (hk : k ≤ 30) (size : Int) (d : ByteArray) (hd : d.size ≤ 100) :
    (appendW size L d).2 = ((T.length : Int) + 1, 0) ∧ GoI (k + 1) (appendW size L d).1 (T ++ [d]) := by
  obtain ⟨p, hc, hsy⟩ := h.core
  have hlen := h.len
  have hI := (appendW_inv h.inv size d hd).more (i' := 160 + 2 * (k + 1)) (j' := 60 + 2 * (k + 1)) (by omega) (by omega)
  have hb := bytesT_le T h.txt
  have hnx := h.nx
  rcases append_law h.inv hc hsy h.on h.nx (by omega) size d with ⟨a1, a2, a3, a4, p', a5, a6⟩ | ⟨_, _, _, a4, _⟩ | ⟨_, _, _, a4, _⟩
  · refine ⟨by rw [a1, hnx], hI, ⟨p', a5, a6⟩, a3, a4 h.fuse, by rw [a2, hnx, List.length_append]; simp, by rw [List.length_append, List.length_singleton]; omega, fun x hx => ?_⟩
    rcases List.mem_append.1 hx with hx | hx
    · exact h.txt x hx
    · rw [List.mem_singleton.1 hx]; exact hd
  · omega
  · exact absurd h.fuse a4
theorem GoI.skip {k : Nat} {L : WL} {T : List ByteArray} (h : GoI k L T) : GoI (k + 1) L T :=
  ⟨h.inv.more (by omega) (by omega), h.core, h.on, h.fuse, h.nx, by have := h.len; omega, h.txt⟩
theorem GoI.ok {k : Nat} {L : WL} {T : List ByteArray} (h : GoI k L T) (hk : k ≤ 30) : OkW L := by
  obtain ⟨p, hc, hsy⟩ := h.core
  have := h.len
  have := h.nx
  exact okW_of' h.inv (by omega) hc (by omega) hsy (by omega)
theorem bytesT_mem {G : List Sg} {g : Sg} (h : g ∈ G) : bytesT g.2 ≤ bytesT (flat G) := by
  induction G with
  | nil => simp at h
  | cons x r ih =>
    have e : flat (x :: r) = x.2 ++ flat r := by simp [flat]
    rw [e, bytesT_app]
    rcases List.mem_cons.1 h with rfl | h
    · omega
    · have := ih h; omega
theorem GoI.done {k : Nat} {L : WL} {T : List ByteArray} (h : GoI k L T) (hk : k ≤ 30) : ∃ l2, SegsD L.S l2 ∧ (scanF l2 0).1 = frs 1 T ∧ (scanF l2 0).2.2 = [] := by
  obtain ⟨p, hc, _⟩ := h.core
  have hlen := h.len
  obtain ⟨G, hG⟩ := mid_law h.inv.sorted hc (by omega)
  have hb := bytesT_le T h.txt
  have hGl := hG.len
  have hat : ∀ (k : Nat) x g, (G.map fun g => ((g.1 : Int), (sgB g).data.toList))[k]? = some x → G[k]? = some g → x = ((g.1 : Int), (sgB g).data.toList) := fun k x g hx hg => by
    rw [List.getElem?_map, hg] at hx
    exact (Option.some.inj hx).symm
  have hw : ∀ (k : Nat) (g : Sg), G[k]? = some g → whole (sgB g).data.toList (g.1 : Int) = frs g.1 g.2 ∧ FrameP.bytes (frs g.1 g.2) = (sgB g).data.toList.length := fun k g hg => by
    have h1 := cont_at G 1 hG.cont k g hg
    have h2 := flat_take_le G (k + 1)
    rw [flat_take_snoc hg, List.length_append, hG.flat] at h2
    have e : (sgB g).data.toList = FrameP.encs (frs g.1 g.2) := by unfold sgB; rw [S8_toList]
    rw [e, FrameP.encs_length]
    refine ⟨whole_encs (frs_row g.2 g.1) (frs_good g.2 g.1 (by omega) (by omega) (fun d hd => ?_)), rfl⟩
    have : d ∈ T := by rw [← hG.flat]; unfold flat; exact List.mem_flatMap.2 ⟨g, List.mem_of_getElem? hg, hd⟩
    have := h.txt d this
    omega
  obtain ⟨c1, q, c2, c3, c4⟩ := end_reads G (G.map fun g => ((g.1 : Int), (sgB g).data.toList)) 1 T.length hG.cont (by simp) (fun e => by rw [← hG.flat, e]; rfl) (fun k x g hx hg => by
    obtain rfl := hat k x g hx hg
    obtain ⟨w1, w2⟩ := hw k g hg
    refine ⟨rfl, g.2.length, Nat.le_refl _, by rw [List.take_length]; exact w1, fun _ => ⟨rfl, by simp only; rw [w1, w2]⟩, fun hk => ?_⟩
    rw [← List.length_append, ← flat_take_snoc hg, hk, List.take_length, hG.flat]
    exact Nat.le_refl _)
  have hq : (flat G).take q = T := by rw [hG.flat] at c2 ⊢; exact List.take_of_length_le c3
  rw [hq] at c4
  have hfst : ∀ x, (G.map fun g => ((g.1 : Int), (sgB g).data.toList))[0]? = some x → x.1 = 1 := fun x hx => by
    rcases G with _ | ⟨g, G'⟩
    · simp at hx
    · have := hat 0 x g hx rfl
      have h1 := cont_at (g :: G') 1 hG.cont 0 g rfl
      rw [this]
      simp [flat] at h1
      simp [h1.1]
  obtain ⟨s1, s2⟩ := scan_all (l := G.map fun g => ((g.1 : Int), (sgB g).data.toList)) c1 hfst
  refine ⟨G.map fun g => ((g.1 : Int), (sgB g).data.toList), ⟨h.on, h.inv.sorted, h.inv.many, hG.names, by rw [hG.nums, List.map_map]; rfl, fun k x hx => ?_, by rw [c4, frs_len]; omega⟩, by rw [s1, c4], ?_⟩
  · rw [List.getElem?_map] at hx
    obtain ⟨g, hg, rfl⟩ := Option.map_eq_some_iff.1 hx
    refine ⟨by rw [hG.read h.on k g hg], ?_⟩
    have := (hw k g hg).2
    simp only
    rw [← this, frs_bytes]
    have h3 := bytesT_mem (List.mem_of_getElem? hg)
    rw [hG.flat] at h3
    omega
  · by_cases hn : frS (G.map fun g => ((g.1 : Int), (sgB g).data.toList)) = []
    · rw [hn] at c4
      have hT := congrArg List.length c4
      rw [frs_len] at hT
      have hT0 : T.length = 0 := hT.symm
      have hG0 : G = [] := List.eq_nil_of_length_eq_zero (by omega)
      rw [hG0]
      simp [scanF, frS]
    · exact s2 hn
/-! ## What a repair leaves alone -/
theorem names_op {S : DS} {t : List Fl → List Fl} (ht : ∀ s ∈ names (t S.fs), s ∈ names S.fs) : ∀ s ∈ names (opD S t).1.fs, s ∈ names S.fs := by
  unfold opD
  split
  · intro s hs
    simp only at hs
    rw [(blow_fs S).1] at hs
    exact hs
  · exact ht
theorem fuse_blow {S : DS} (h : S.fuse = -1) : (blow S).1.fuse = -1 := by unfold blow; rw [if_pos h]; exact h
theorem fuse_op {S : DS} (t : List Fl → List Fl) (h : S.fuse = -1) : (opD S t).1.fuse = -1 := by
  unfold opD
  split
  · exact fuse_blow h
  · exact fuse_blow h
theorem remove_keeps (S : DS) (nm : ByteArray) : (∀ s ∈ names (removeD S nm).1.fs, s ∈ names S.fs) ∧ (S.fuse = -1 → (removeD S nm).1.fuse = -1) := by
  unfold removeD
  split
  · exact ⟨fun _ h => h, id⟩
  · split
    · exact ⟨fun _ h => h, id⟩
    · refine ⟨names_op fun s hs => ?_, fuse_op _⟩
      unfold names at hs ⊢
      exact ((delF_sub S.fs nm).map _).subset hs
theorem cut_keeps (S : DS) (nm : ByteArray) (n : Int) : (∀ s ∈ names (cutD S nm n).1.fs, s ∈ names S.fs) ∧ (S.fuse = -1 → (cutD S nm n).1.fuse = -1) := by
  unfold cutD
  split
  · exact ⟨fun _ h => h, id⟩
  · split
    · exact ⟨fun _ h => h, id⟩
    · split
      · exact ⟨fun _ h => h, id⟩
      · refine ⟨names_op fun s hs => ?_, fuse_op _⟩
        unfold modF at hs
        split at hs
        · rename_i f hk
          unfold names at hs ⊢
          obtain ⟨g, hg, rfl⟩ := List.mem_map.1 hs
          rcases List.mem_or_eq_of_mem_set hg with hg | rfl
          · exact List.mem_map_of_mem hg
          · have := List.mem_map_of_mem (f := fun f : Fl => f.nm) (List.mem_of_getElem? hk)
            exact this
        · exact hs
theorem remAll_keeps : ∀ (l : List ByteArray) (S : DS), (∀ s ∈ names (remAll S l).1.fs, s ∈ names S.fs) ∧ (S.fuse = -1 → (remAll S l).1.fuse = -1) := by
  intro l
  induction l with
  | nil => intro S; exact ⟨fun _ h => h, id⟩
  | cons a l ih =>
    intro S
    have h1 := remove_keeps S a
    simp only [remAll]
    split
    · exact h1
    · have h2 := ih (removeD S a).1
      exact ⟨fun s hs => h1.1 s (h2.1 s hs), fun hf => h2.2 (h1.2 hf)⟩
theorem repair_keeps (S : DS) (file : ByteArray) (keep : Int) (xs : List ByteArray) : (∀ s ∈ names (repairD S file keep xs).1.fs, s ∈ names S.fs) ∧ (S.fuse = -1 → (repairD S file keep xs).1.fuse = -1) := by
  have h1 := remAll_keeps xs.reverse S
  unfold repairD
  split
  · exact h1
  · split
    · exact h1
    · split
      · exact h1
      · split
        · have h2 := remove_keeps (remAll S xs.reverse).1 file
          exact ⟨fun s hs => h1.1 s (h2.1 s hs), fun hf => h2.2 (h1.2 hf)⟩
        · split
          · exact h1
          · have h2 := cut_keeps (remAll S xs.reverse).1 file keep
            exact ⟨fun s hs => h1.1 s (h2.1 s hs), fun hf => h2.2 (h1.2 hf)⟩
/-- the disk behind the crash, and behind the repair -/
structure BackC (S1 : DS) (l0 : Sgs) (D : DS × Int) (T1 : List ByteArray) : Prop where
  s : SegsD S1 l0
  inv : DInv 65536 60 60 S1
  fr : (scanF l0 0).1 = frs 1 T1
  d : repairD S1 (fileB (scanF l0 0).2.1.1) ((scanF l0 0).2.1.2 : Nat) ((scanF l0 0).2.2.map tB) = D
  e : D.2 = 0
  go : GoI 0 ⟨D.1, (T1.length : Int) + 1, T1.length⟩ T1
theorem CrI.back {k : Nat} {L : WL} {T : List ByteArray} {p : Nat} {sent : List ByteArray} (h : CrI 65536 k L T p sent) (hk : k ≤ 30) (ks : List Int) :
    ∃ l0 D T1, BackC (upD { L.S with on := false, fuse := -1 } ks) l0 D T1 ∧ p ≤ T1.length ∧ ∃ r, sent = T1 ++ r := by
  have htl := h.tlen
  obtain ⟨r, hr⟩ := h.pre
  have htx : ∀ x ∈ T, x.size ≤ 100 := fun x hx => h.txt x (by rw [hr]; exact List.mem_append_left _ hx)
  have hI1 : DInv 65536 (2 * k) (2 * k) { L.S with on := false, fuse := -1 } := { h.inv with fuse := by simp only; omega }
  have hI2 := (upD_inv hI1 ks).1
  have hI3 := hI2.more (i' := 60) (j' := 60) (by omega) (by omega)
  obtain ⟨G, hG⟩ := crash_law h.inv (by omega) h.core (by omega) (fun x hx => by have := htx x hx; omega) ks
  have hsure : ∀ f ∈ (upD { L.S with on := false, fuse := -1 } ks).fs, f.su = f.all.size := up_sure ks L.S.fs hI1.sure
  have hon : (upD { L.S with on := false, fuse := -1 } ks).on = true := rfl
  have hfu : (upD { L.S with on := false, fuse := -1 } ks).fuse = -1 := rfl
  generalize upD { L.S with on := false, fuse := -1 } ks = S1 at *
  obtain ⟨l0, h0⟩ := repS_of hI3.sorted hsure
  have s0 := h0.segsD hI3 (by omega) hon hG.names
  have hn : l0.map (·.1) = G.map fun g => (g.1 : Int) := s0.nums.symm.trans hG.nums
  have hll : l0.length = G.length := by have := congrArg List.length hn; rw [List.length_map, List.length_map] at this; exact this
  have hGl := hG.len
  obtain ⟨c1, q, c2, c3, c4⟩ := end_reads G l0 1 p hG.cont hll hG.none (fun k x g hx hg => by
    have hxg : x.1 = (g.1 : Int) := by
      have := congrArg (·[k]?) hn
      simp only [List.getElem?_map, hx, hg, Option.map_some] at this
      exact Option.some.inj this
    obtain ⟨c, m, sz, er, e1, e2, e3, e4, e5, e6, e7, e8⟩ := hG.read k g hg
    have hrd := (s0.read k x hx).1
    rw [hxg, e1] at hrd
    have hc : c.data.toList = x.2 := by
      have := congrArg Prod.fst hrd
      simp only at this
      rw [this]
    rw [hc] at e2
    obtain ⟨w1, w2⟩ := whole_of_all e2
    have hcs : c.size = x.2.length := by rw [← hc, Array.length_toList]; rfl
    exact ⟨hxg, m, e3, by rw [hxg]; exact w1, fun hk => ⟨(e7 hk).1, by rw [hxg, w2, (e7 hk).2, hcs]⟩, e8⟩)
  rw [hG.flat] at c2 c4
  have hfst : ∀ x, l0[0]? = some x → x.1 = 1 := fun x hx => by
    rcases hGe : G with _ | ⟨g, G'⟩
    · rw [hGe] at hll
      rw [List.eq_nil_of_length_eq_zero hll] at hx
      simp at hx
    · have h1 := cont_at G 1 hG.cont 0 g (by rw [hGe]; rfl)
      have h2 := congrArg (·[0]?) hn
      simp only [List.getElem?_map, hx, hGe] at h2
      simp at h2
      simp [flat] at h1
      rw [h2, h1.1]
      rfl
  obtain ⟨s1, _⟩ := scan_all c1 hfst
  have hkind : ∀ s ∈ names S1.fs, (kB s).1 = 1 := by
    have h1 : (numsA 1 (names S1.fs)).length = (names S1.fs).length := by
      rw [← (nums_both 1 (names S1.fs)).2.length_eq, hG.nums, List.length_map, ← hG.fs]
      unfold names
      simp
    rw [numsA_eq, List.length_map] at h1
    intro s hs
    have h2 := List.length_filter_eq_length_iff.1 h1 s hs
    simpa using h2
  obtain ⟨D, hD⟩ : ∃ D, repairD S1 (fileB (scanF l0 0).2.1.1) ((scanF l0 0).2.1.2 : Nat) ((scanF l0 0).2.2.map tB) = D := ⟨_, rfl⟩
  have hkp := repair_keeps S1 (fileB (scanF l0 0).2.1.1) ((scanF l0 0).2.1.2 : Nat) ((scanF l0 0).2.2.map tB)
  have hinv := repair_inv hI3 (fileB (scanF l0 0).2.1.1) ((scanF l0 0).2.1.2 : Nat) ((scanF l0 0).2.2.map tB)
  have hrep := repair_law (a := 0) hI3 hon h0
  have hx0 := scan_extra l0 0
  have hl0 := s0.len
  rw [List.length_map] at hinv
  rw [hD] at hkp hinv hrep
  rcases hrep with ⟨q1, q2, l1, q3, q4, q5⟩ | ⟨_, _, q3, _⟩
  · have hfr : (scanF l1 0).1 = frs 1 (T.take q) := q5.trans (s1.trans c4)
    have hcore := fin_core q3 q4 (fun s hs => hkind s (hkp.1 s hs)) hfr
    have hql : (T.take q).length = q := by rw [List.length_take]; omega
    refine ⟨l0, D, T.take q, ⟨s0, hI3, s1.trans c4, hD, q1, ⟨hinv.more (by omega) (by omega), ⟨(T.take q).length, hcore, rfl⟩, q2, hkp.2 hfu, rfl, by omega, fun d hd => htx d (List.mem_of_mem_take hd)⟩⟩, by omega, T.drop q ++ r, ?_⟩
    rw [← List.append_assoc, List.take_append_drop]
    exact hr
  · exact absurd hfu q3
end Go.Proofs.YtcpmicinibfepaaGreatDoor

namespace Go.Proofs.YtcpmicinibfepaaGreatDoor
open Go.ChangeShapes Go.WideShapes Go.ChangeAt Go.RowKit Go.Deep DiskP NameP


/-- texts in a slice that is owned, or is cut in its capacity -/
def TxtAt (B : Nat) (w : World) (v : Value) (T : List ByteArray) : Prop :=
  w.ownsRow B 9 1 v T.length (T.map Value.string) ∨
  ∃ g cur, v = .slice (some ⟨g, 0, none⟩) T.length T.length ∧ B ≤ g ∧ w.heap[g]? = some (.cells cur 9 (0, 0)) ∧ cur.toList.take T.length = T.map Value.string
theorem TxtAt.slice {B : Nat} {w : World} {v : Value} {T : List ByteArray} (h : TxtAt B w v T) : ∃ A c, v = .slice A T.length c ∧ T.length ≤ c := by
  rcases h with h | ⟨g, cur, rfl, _⟩
  · obtain ⟨A, c, rfl⟩ := own_slice h
    exact ⟨A, c, rfl, own_cap h⟩
  · exact ⟨_, _, rfl, Nat.le_refl _⟩
theorem TxtAt.at {B : Nat} {w w' : World} {v : Value} {T : List ByteArray} (h : TxtAt B w v T) (hk : ∀ g cur, B ≤ g → w.heap[g]? = some (.cells cur 9 (0, 0)) → w'.heap[g]? = w.heap[g]?) : TxtAt B w' v T := by
  rcases h with h | ⟨g, cur, rfl, hb, hg, ht⟩
  · refine .inl (own_at h fun g hg => ?_)
    obtain ⟨cur, hc⟩ := own_type h hg
    exact hk g cur (h.lt g hg).1 hc
  · exact .inr ⟨g, cur, rfl, hb, (hk g cur hb hg).trans hg, ht⟩
theorem TxtAt.below {B : Nat} {w w' : World} {v : Value} {T : List ByteArray} (h : TxtAt B w v T) (hb : Below w.heap.size w w') : TxtAt B w' v T :=
  h.at fun _ _ _ hc => hb.block _ (bx_lt hc)
theorem TxtAt.lkeep {B d a : Nat} {w w' : World} {v : Value} {T : List ByteArray} {cs : Array Value} (h : TxtAt B w v T) (hk : LKeep d a w w') (hd : d < B) (ha : w.heap[a]? = some (.cells cs 74 (0, 0))) : TxtAt B w' v T :=
  h.at fun g cur hg hc => hk.others g (by omega) (fun e => by
    subst e
    rw [ha] at hc
    injection hc with hc
    injection hc with _ hc
    exact absurd hc (by decide)) (bx_lt hc) (fun cs z hz => by
    rw [hc] at hz
    injection hz with hz
    injection hz with _ hz
    exact absurd hz (by decide))
theorem TxtAt.lt {B : Nat} {w : World} {v : Value} {T : List ByteArray} (h : TxtAt B w v T) {k : Nat} (e : v.ownBlock = some k) : B ≤ k := by
  rcases h with h | ⟨g, cur, rfl, hb, _⟩
  · exact (h.lt k e).1
  · obtain rfl : g = k := by simpa [Value.ownBlock] using e
    exact hb
theorem TxtAt.cell {B : Nat} {w : World} {A : Option Addr} {c : Nat} {T : List ByteArray} (h : TxtAt B w (.slice A T.length c) T) {k : Nat} {d : ByteArray} (hk : T[k]? = some d) : ∃ g, A = some ⟨g, 0, none⟩ ∧ g < w.heap.size ∧ w.cell? ⟨g, k, none⟩ = some (.string d) := by
  have hkl := (List.getElem?_eq_some_iff.1 hk).1
  rcases h with h | ⟨g, cur, e, hb, hg, ht⟩
  · rcases row_sliceN h with ⟨_, h0⟩ | ⟨g, cap, e1, _, _, hlt, _⟩
    · omega
    · injection e1 with e1 e2 e3
      subst e1
      subst e3
      exact ⟨g, rfl, hlt, own_cell h k _ (by rw [List.getElem?_map, hk]; rfl)⟩
  · injection e with e1 e2 e3
    subst e1
    refine ⟨g, rfl, bx_lt hg, ?_⟩
    rw [cell_of_row w g k cur 9 (0, 0) hg]
    have h1 : (cur.toList.take T.length)[k]? = some (.string d) := by rw [ht, List.getElem?_map, hk]; rfl
    rw [List.getElem?_take, if_pos hkl] at h1
    simpa using h1
/-- cut at a length, in the capacity too -/
theorem TxtAt.cut {B n c : Nat} {w : World} {A : Option Addr} {T r : List ByteArray} (h : w.ownsRow B 9 1 (.slice A n c) n ((T ++ r).map Value.string)) : (A = none ∧ T = []) ∨ ∃ g, A = some ⟨g, 0, none⟩ ∧ TxtAt B w (.slice (some ⟨g, 0, none⟩) T.length T.length) T := by
  have hlen := h.1
  rw [List.length_map, List.length_append, Nat.mul_one] at hlen
  rcases h.2 with ⟨e1, e2⟩ | ⟨g, cap, cur, e1, hb, hg, _, _, _, htk⟩
  · left
    injection e1 with e1 _ _
    exact ⟨e1, List.eq_nil_of_length_eq_zero (by omega)⟩
  · right
    injection e1 with e1 e2 e3
    subst e1
    refine ⟨g, rfl, .inr ⟨g, cur, rfl, hb, hg, ?_⟩⟩
    have h1 := congrArg (List.take T.length) htk
    rw [List.take_take, List.map_append, List.take_left' (by simp), Nat.mul_one, Nat.min_eq_left (by omega)] at h1
    exact h1
theorem TxtAt.cut' {B n c : Nat} {w : World} {A : Option Addr} {T r : List ByteArray} (h : w.ownsRow B 9 1 (.slice A n c) n ((T ++ r).map Value.string)) : TxtAt B w (.slice A T.length T.length) T := by
  rcases TxtAt.cut h with ⟨rfl, rfl⟩ | ⟨g, rfl, h2⟩
  · exact .inl (World.ownsRow_nil _ _ _ _)
  · exact h2
theorem wpList_append_txt {P : Program} {ops : Array Oper} {rest : List Oper} {o : Oper} {a : Act} {Q : Exit → Act → World → Prop} (hgd : o.guard = none) (s x : Operand) (t : TypeId)
    (ho : o.op = .call { callee := .builtin .append, args := #[s, x], argTypes := #[t, t] })
    (base : Nat) (i : TypeInfo) (z : Value) (ht : P.underlying t = some (.slice 9)) (hi : P.info? 9 = some i) (hz : i.zero = some z)
    (hsize : i.size = 1) (hby : i.bytes = 16) (hzs : z.cells.size = 1)
    (v : Value) (T : List ByteArray) (n : Nat) (hn : n = T.length) (hs : a.eval s = v) (W : World) (hown : TxtAt base W v T) (d : ByteArray) (H : Nat) (hH : W.heap.size = H) (hx : a.eval x = .slice (some ⟨H, 0, none⟩) 1 1)
    (hn1 : n < 100000000) (hbase : base ≤ W.heap.size)
    (h : ∀ g cap w', AppendedN base 9 1 W v n (T.map Value.string) #[.string d] g cap w' → wpList P ops Q rest (a.put o.dst (.slice (some ⟨g, 0, none⟩) (n + 1) cap)) w') :
    wpList P ops Q (o :: rest) a (W.alloc (.cells #[.string d] 9)) := by
  subst hn
  rcases hown with hown | ⟨g, cur, rfl, hb, hg, htk⟩
  · exact wpList_append_twoN hgd s x t ho base 9 i z 1 16 ht hi hz hsize hby hzs (by decide) (by decide) v T.length _ hs W hown #[.string d] H hH hx rfl (by simp [Value.oneCell']) hn1 hbase h
  · subst hH
    have hg1 : (W.alloc (.cells #[.string d] 9)).heap[g]? = some (.cells cur 9 (0, 0)) := (heap_alloc_old W _ (bx_lt hg)).trans hg
    have hmx : T.length + 1 ≤ maxLen := by simp only [maxLen]; omega
    have hr := run_append_grow (P := P) (W.alloc (.cells #[.string d] 9)) t o.type 9 i z ht hi hz ⟨g, 0, none⟩ T.length T.length (T.map Value.string) (by rw [hsize]; simp) (fun j u hj => by
        have e1 : (⟨g, 0, none⟩ : Addr).add j = ⟨g, j, none⟩ := by unfold Addr.add; split <;> simp_all
        have hjl := (List.getElem?_eq_some_iff.1 hj).1
        rw [List.length_map] at hjl
        rw [e1, cell_of_row _ g j cur 9 (0, 0) hg1]
        rw [← htk, List.getElem?_take, if_pos hjl] at hj
        simpa using hj)
      ⟨W.heap.size, 0, none⟩ 1 1 [.string d] (by rw [hsize]; rfl) (fun j u hj => by
        exact World.news_of_block (heap_alloc_new W (.cells #[.string d] 9)) j u (by simpa using hj))
      (by omega) (by omega) (growslice_fits (by omega) (by rw [hby]; omega))
    refine wpList_plain hgd fun _ hK => Lib.wp_append_run _ s x t t ho _ _ hs hx _ _ hr (hK _ _ (h _ _ _ ?_))
    have hge := grownCap_ge (W.alloc (.cells #[.string d] 9)) (T.length + 1) T.length 9
    have hcm : grownCap (W.alloc (.cells #[.string d] 9)) (T.length + 1) T.length 9 ≤ maxLen := grownCap_le_maxLen _ (T.length + 1) T.length 9 hmx
    refine ⟨⟨by simp, .inr ⟨_, _, _, rfl, by rw [World.size_alloc]; omega, heap_alloc_new (W.alloc (.cells #[.string d] 9)).drew _, hge, hcm, ?_, ?_⟩⟩, ⟨rfl, rfl, rfl, by simp [World.size_alloc]; omega, fun k hk _ => ?_⟩, .inr (by rw [World.size_alloc]; omega), ?_⟩
    · simp only [Array.size_append, List.size_toArray, size_zeroCells, hzs, List.length_map, List.length_singleton]
      omega
    · simp only [Array.toList_append, List.append_assoc]
      rw [← List.append_assoc]
      exact List.take_left' (by simp)
    · exact (heap_alloc_old (W.alloc (.cells #[.string d] 9)).drew _ (by show k < (W.alloc (.cells #[.string d] 9)).heap.size; rw [World.size_alloc]; omega)).trans (heap_alloc_old W _ hk)
    · show _ < ((W.alloc (.cells #[.string d] 9)).drew.alloc _).heap.size
      refine Nat.lt_of_lt_of_eq ?_ (World.size_alloc _ _).symm
      exact Nat.lt_succ_self _
/-- other blocks than the row's -/
theorem Lg.grownT {a d c B : Nat} {A : Option Addr} {size : Int} {L : WL} {w w' : World} {v : Value} {T : List ByteArray} (h : Lg a d A c size L w) (hB : d < B) (ho : TxtAt B w v T) (hg : w.grownBy w' v.ownBlock) : Lg a d A c size L w' := by
  have hf : ∀ b cs U, w.heap[b]? = some (.cells cs U (0, 0)) → (b ≤ d ∨ U ≠ 9) → w'.heap[b]? = w.heap[b]? := fun b cs U hb hor => by
    refine hg.block b (bx_lt hb) (fun e => ?_)
    obtain ⟨h1, cur, hc⟩ : B ≤ b ∧ ∃ cur, w.heap[b]? = some (.cells cur 9 (0, 0)) := by
      rcases ho with ho | ⟨g, cur, rfl, hb1, hg1, _⟩
      · exact ⟨(ho.lt b e.symm).1, own_type ho e.symm⟩
      · obtain rfl : b = g := by simpa [Value.ownBlock] using e
        exact ⟨hb1, cur, hg1⟩
    rcases hor with h2 | h2
    · omega
    · rw [hb] at hc
      simp at hc
      exact h2 hc.2
  exact ⟨⟨(hf d _ _ h.dk.box (.inl (by omega))).trans h.dk.box, own_at h.dk.row fun g hgg => by obtain ⟨cur, hc⟩ := own_type h.dk.row hgg; exact hf g _ _ hc (.inr (by decide))⟩, (hf a _ _ h.box (.inr (by decide))).trans h.box⟩
end Go.Proofs.YtcpmicinibfepaaGreatDoor
