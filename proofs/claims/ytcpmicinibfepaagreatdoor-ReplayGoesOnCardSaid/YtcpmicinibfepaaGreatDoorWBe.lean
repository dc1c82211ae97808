/- Layer 32, plain: a log over a disk: its segments, what is appended and made sure, and what stands behind a crash · Layer 32, plain: what a log's calls do to its segments, whatever crashes. -/
import Derived.Test.YtcpmicinibfepaaGreatDoorWAy
import Derived.Test.YtcpmicinibfepaaGreatDoorWBd
import Derived.Test.YtcpmicinibfepaaGreatDoorWAa
namespace Go.Proofs.YtcpmicinibfepaaGreatDoor
open Go.ChangeShapes Go.WideShapes Go.ChangeAt Go.RowKit Go.Deep DiskP NameP


/-- the name of a segment -/
def tB (n : Int) : ByteArray := S8 (ofS 1 n)
theorem ofS1 {n : Int} (h : 1 ≤ n ∧ n ≤ 999999999999999999) : ofS 1 n = logS ++ digS n := by
  unfold ofS withS
  rw [if_pos rfl, if_neg (digS_ne.2 h)]
theorem kB_tB {n : Int} (h : 1 ≤ n ∧ n ≤ 999999999999999999) : kB (tB n) = (1, n) := by
  unfold kB tB
  rw [S8_toList]
  have := kind_of 1 n (by rw [ofS1 h]; simp [logS])
  rw [if_pos (.inl rfl)] at this
  exact this
theorem tB_inj {m n : Int} (hm : 1 ≤ m ∧ m ≤ 999999999999999999) (hn : 1 ≤ n ∧ n ≤ 999999999999999999) (h : tB m = tB n) : m = n := by
  have h1 := kB_tB hm
  rw [h, kB_tB hn] at h1
  exact (congrArg Prod.snd h1).symm
theorem tB_size (n : Int) : (tB n).size ≤ 22 := by
  unfold tB ofS withS
  rw [if_pos rfl, S8_size]
  have := digS_len n
  split
  · simp
  · rw [List.length_append]; simp [logS]; omega
theorem tB_pos {n : Int} (h : 1 ≤ n ∧ n ≤ 999999999999999999) : 1 ≤ (tB n).size := by
  unfold tB
  rw [ofS1 h, S8_size, List.length_append]; simp [logS]; omega
theorem letter_dig {c : UInt8} (h : isDig c = true) : letterI (c.toNat : Int) = true := by
  unfold isDig at h
  unfold letterI
  simp only [decide_eq_true_eq] at h ⊢
  omega
theorem namedD_tB {n : Int} (h : 1 ≤ n ∧ n ≤ 999999999999999999) : namedD (tB n) = true := by
  have h1 := tB_size n
  have h2 := tB_pos h
  unfold namedD
  rw [Bool.and_eq_true, Bool.and_eq_true]
  refine ⟨?_, by simpa using h2, by simp; omega⟩
  unfold tB
  rw [ofS1 h, S8_toList, List.all_append, Bool.and_eq_true]
  refine ⟨by decide, ?_⟩
  rw [List.all_eq_true]
  intro c hc
  refine letter_dig ?_
  unfold digS at hc
  rw [if_pos h] at hc
  exact dec_dig _ c hc
theorem numsA_eq (k : Int) (l : List ByteArray) : numsA k l = (l.filter fun s => decide ((kB s).1 = k)).map fun s => (kB s).2 := by
  induction l using snoc_ind with
  | h0 => rfl
  | h1 l s ih =>
    rw [numsA_snoc, List.filter_append, List.map_append, ih]
    by_cases h : (kB s).1 = k
    · rw [if_pos h]; simp [h]
    · rw [if_neg h]; simp [h]
theorem sorted_eq {a b : List Int} (ha : a.Pairwise (· ≤ ·)) (hb : b.Pairwise (· ≤ ·)) (h : a.Perm b) : a = b :=
  List.Perm.eq_of_pairwise (le := fun a b => a ≤ b) (fun a b _ _ h h' => by omega) ha hb h
theorem numsX_of {k : Int} {l l' : List ByteArray} (hp : l.Perm l') (hs : (numsA k l).Pairwise (· ≤ ·)) : numsX k l' = numsA k l := by
  obtain ⟨h1, h2⟩ := nums_both k l'
  refine sorted_eq h1 hs (h2.trans ?_)
  rw [numsA_eq, numsA_eq]
  exact ((hp.filter _).map _).symm
/-- segments: their first numbers, their texts -/
abbrev Sg := Nat × List ByteArray
def frs (n : Nat) : List ByteArray → List FrameP.Fr
  | [] => []
  | d :: r => ((n : Int), d.data.toList) :: frs (n + 1) r
theorem frs_len (l : List ByteArray) : ∀ n, (frs n l).length = l.length := by
  induction l with
  | nil => intro n; rfl
  | cons d r ih => intro n; simp [frs, ih]
theorem frs_snoc (l : List ByteArray) (d : ByteArray) : ∀ n, frs n (l ++ [d]) = frs n l ++ [(((n + l.length : Nat) : Int), d.data.toList)] := by
  induction l with
  | nil => intro n; rfl
  | cons x r ih => intro n; simp only [List.cons_append, frs, ih, List.length_cons]; rw [show n + 1 + r.length = n + (r.length + 1) by omega]
theorem frs_take (l : List ByteArray) : ∀ n k, (frs n l).take k = frs n (l.take k) := by
  induction l with
  | nil => intro n k; simp [frs]
  | cons x r ih =>
    intro n k
    cases k with
    | zero => rfl
    | succ k => simp only [frs, List.take_succ_cons, ih]
theorem frs_get (l : List ByteArray) : ∀ n k, (frs n l)[k]? = (l[k]?).map fun d => (((n + k : Nat) : Int), d.data.toList) := by
  induction l with
  | nil => intro n k; simp [frs]
  | cons x r ih =>
    intro n k
    cases k with
    | zero => rfl
    | succ k => simp only [frs, List.getElem?_cons_succ, ih]; rw [show n + 1 + k = n + (k + 1) by omega]
theorem frs_good (l : List ByteArray) : ∀ n, 1 ≤ n → n + l.length ≤ 1000000 → (∀ d ∈ l, d.size ≤ 65536) → ∀ f ∈ frs n l, FrameP.Good f := by
  induction l with
  | nil => intro n _ _ _ f hf; simp [frs] at hf
  | cons x r ih =>
    intro n hn hl hd f hf
    simp only [frs, List.mem_cons] at hf
    rw [List.length_cons] at hl
    rcases hf with rfl | hf
    · refine ⟨by simp only; omega, by simp only; omega, ?_⟩
      have := hd x List.mem_cons_self
      simpa using this
    · exact ih (n + 1) (by omega) (by omega) (fun d h => hd d (List.mem_cons_of_mem _ h)) f hf
/-- a frame's bytes -/
def fB (n : Nat) (d : ByteArray) : ByteArray := S8 (FrameP.enc n d.data.toList)
theorem fB_size (n : Nat) (d : ByteArray) : (fB n d).size = 16 + d.size := by
  unfold fB; rw [S8_size, FrameP.enc_length]; rfl
def sgB (g : Sg) : ByteArray := S8 (FrameP.encs (frs g.1 g.2))
theorem sgB_size (g : Sg) : (sgB g).size = FrameP.bytes (frs g.1 g.2) := by unfold sgB; rw [S8_size, FrameP.encs_length]
theorem sgB_snoc (n : Nat) (l : List ByteArray) (d : ByteArray) : sgB (n, l ++ [d]) = sgB (n, l) ++ fB (n + l.length) d := by
  unfold sgB fB
  rw [S8_app, frs_snoc, FrameP.encs_snoc]
  rfl
theorem sgB_one (n : Nat) (d : ByteArray) : sgB (n, [d]) = ⟨#[]⟩ ++ fB n d := by
  have := sgB_snoc n [] d
  simpa [sgB, frs, FrameP.encs, S8] using this
theorem sgB_pos {g : Sg} (h : g.2 ≠ []) : 16 ≤ (sgB g).size := by
  rw [sgB_size]
  obtain ⟨n, l⟩ := g
  cases l with
  | nil => exact absurd rfl h
  | cons d r => simp only [frs, FrameP.bytes_cons]; omega
def fl (g : Sg) (su : Nat) : Fl := ⟨tB g.1, sgB g, su⟩
def full (g : Sg) : Fl := fl g (sgB g).size
def flat (G : List Sg) : List ByteArray := G.flatMap (·.2)
theorem flat_snoc (G : List Sg) (g : Sg) : flat (G ++ [g]) = flat G ++ g.2 := by simp [flat]
/-- they stand one behind the other -/
def cont : Nat → List Sg → Prop
  | _, [] => True
  | n, g :: r => g.1 = n ∧ g.2 ≠ [] ∧ cont (n + g.2.length) r
theorem cont_snoc (G : List Sg) (g : Sg) : ∀ n, cont n (G ++ [g]) ↔ cont n G ∧ g.1 = n + (flat G).length ∧ g.2 ≠ [] := by
  induction G with
  | nil => intro n; simp [cont, flat]
  | cons x r ih =>
    intro n
    simp only [List.cons_append, cont, ih, flat, List.flatMap_cons, List.length_append]
    constructor
    · rintro ⟨h1, h2, h3, h4, h5⟩; exact ⟨⟨h1, h2, h3⟩, by omega, h5⟩
    · rintro ⟨⟨h1, h2, h3⟩, h4, h5⟩; exact ⟨h1, h2, h3, by omega, h5⟩
theorem cont_at (G : List Sg) : ∀ n, cont n G → ∀ k g, G[k]? = some g → g.1 = n + (flat (G.take k)).length ∧ g.2 ≠ [] := by
  induction G with
  | nil => intro n _ k g h; simp at h
  | cons x r ih =>
    rintro n ⟨h1, h2, h3⟩ k g h
    cases k with
    | zero =>
      obtain rfl : x = g := by simpa using h
      exact ⟨by simpa [flat] using h1, h2⟩
    | succ k =>
      obtain ⟨a, b⟩ := ih _ h3 k g (by simpa using h)
      refine ⟨?_, b⟩
      rw [a]
      simp only [List.take_succ_cons, flat, List.flatMap_cons, List.length_append]
      omega
theorem flat_take_le (G : List Sg) (k : Nat) : (flat (G.take k)).length ≤ (flat G).length := by
  have : flat G = flat (G.take k) ++ flat (G.drop k) := by unfold flat; rw [← List.flatMap_append, List.take_append_drop]
  rw [this, List.length_append]; omega
theorem flat_take_snoc {G : List Sg} {k : Nat} {g : Sg} (h : G[k]? = some g) : flat (G.take (k + 1)) = flat (G.take k) ++ g.2 := by
  rw [takeN_snoc G k g h, flat_snoc]
theorem cont_len (G : List Sg) (n : Nat) (h : cont n G) : G.length ≤ (flat G).length := by
  induction G using RankP.snoc_ind with
  | h0 => simp
  | h1 G g ih =>
    obtain ⟨h1, _, h3⟩ := (cont_snoc G g n).1 h
    have := ih h1
    have h4 : 1 ≤ g.2.length := List.length_pos_iff.2 h3
    rw [flat_snoc, List.length_append, List.length_append, List.length_singleton]
    omega
theorem cont_range {G : List Sg} (h : cont 1 G) (hl : (flat G).length ≤ 1000) : ∀ g ∈ G, 1 ≤ (g.1 : Int) ∧ (g.1 : Int) ≤ 999999999999999999 := by
  intro g hg
  obtain ⟨k, hk, e⟩ := List.getElem_of_mem hg
  have h1 := (cont_at G 1 h k g (by rw [List.getElem?_eq_getElem hk, e])).1
  have := flat_take_le G k
  omega
theorem cont_rise {G : List Sg} (h : cont 1 G) : (G.map fun g => (g.1 : Int)).Pairwise (· < ·) := by
  rw [List.pairwise_map]
  suffices hh : ∀ (G : List Sg) (n : Nat), cont n G → G.Pairwise (fun a b => (a.1 : Int) < (b.1 : Int)) ∧ ∀ g ∈ G, n ≤ g.1 from (hh G 1 h).1
  intro G
  induction G with
  | nil => intro n _; exact ⟨List.Pairwise.nil, fun g hg => by simp at hg⟩
  | cons x r ih =>
    rintro n ⟨h1, h2, h3⟩
    have h4 : 1 ≤ x.2.length := List.length_pos_iff.2 h2
    obtain ⟨i1, i2⟩ := ih _ h3
    refine ⟨List.pairwise_cons.2 ⟨fun b hb => ?_, i1⟩, fun g hg => ?_⟩
    · have := i2 b hb; omega
    · rcases List.mem_cons.1 hg with rfl | hg
      · omega
      · have := i2 g hg; omega
/-- the numbers of the segments that files are -/
theorem nums_files {G : List Sg} (h : cont 1 G) (hl : (flat G).length ≤ 1000) {F : List Fl} (hF : names F = G.map fun g => tB g.1) {F' : List Fl} (hp : F.Perm F') : numsX 1 (names F') = G.map fun g => (g.1 : Int) := by
  have hr := cont_range h hl
  have hA : numsA 1 (names F) = G.map fun g => (g.1 : Int) := by
    rw [numsA_eq, hF, List.filter_map, List.map_map, List.filter_eq_self.2]
    · refine List.map_congr_left fun g hg => ?_
      show (kB (tB g.1)).2 = _
      rw [kB_tB (hr g hg)]
    · intro g hg
      show decide ((kB (tB g.1)).1 = 1) = true
      rw [kB_tB (hr g hg)]
      rfl
  have hp' : (names F).Perm (names F') := hp.map _
  rw [numsX_of hp' (by rw [hA]; exact (cont_rise h).imp (fun h => by omega)), hA]
/-- the name of the last segment -/
def lastW (F : List Fl) : ByteArray := match (numsX 1 (names F)).getLast? with
  | none => ⟨#[]⟩
  | some n => tB n
theorem fnd_app {G0 : List Sg} {g : Sg} (h : cont 1 (G0 ++ [g])) (hl : (flat (G0 ++ [g])).length ≤ 1000) {L : List Fl} (hL : names L = G0.map fun g => tB g.1) (f : Fl) (hf : f.nm = tB g.1) : fnd (L ++ [f]) (tB g.1) = L.length := by
  have hr := cont_range h hl
  have hc := cont_rise h
  rw [List.map_append, List.pairwise_append] at hc
  unfold fnd
  rw [List.findIdx_append, if_neg, List.findIdx_cons]
  · simp [hf]
  · rw [List.findIdx_lt_length]
    rintro ⟨x, hx, e⟩
    have hx2 : x.nm ∈ names L := List.mem_map_of_mem hx
    rw [hL] at hx2
    obtain ⟨y, hy, e2⟩ := List.mem_map.1 hx2
    have e3 : tB y.1 = tB g.1 := e2.trans (by simpa using e)
    have e4 := tB_inj (hr y (List.mem_append_left _ hy)) (hr g (by simp)) e3
    have := hc.2.2 (y.1 : Int) (List.mem_map_of_mem hy) (g.1 : Int) (by simp)
    omega
theorem names_full (G : List Sg) : names (G.map full) = G.map fun g => tB g.1 := by unfold names; rw [List.map_map]; rfl
end Go.Proofs.YtcpmicinibfepaaGreatDoor

namespace Go.Proofs.YtcpmicinibfepaaGreatDoor
open Go.ChangeShapes Go.WideShapes Go.ChangeAt Go.RowKit Go.Deep DiskP NameP


/-- a log: its disk, the number of what is written next, up to which number all is sure -/
structure WL where
  S : DS
  nx : Int
  sy : Int
def syncW (L : WL) : WL × Int :=
  if L.sy = L.nx - 1 then (L, 0)
  else (⟨(syncD L.S (lastW L.S.fs)).1, L.nx, if (syncD L.S (lastW L.S.fs)).2 = 0 then L.nx - 1 else L.sy⟩, (syncD L.S (lastW L.S.fs)).2)
def placeW (size : Int) (L : WL) (n : Int) : WL × ByteArray × Int :=
  if lastW L.S.fs = ⟨#[]⟩ then (L, tB L.nx, 0)
  else if (readD L.S (lastW L.S.fs)).2 ≠ 0 then (L, ⟨#[]⟩, (readD L.S (lastW L.S.fs)).2)
  else if (readD L.S (lastW L.S.fs)).1 = ⟨#[]⟩ ∨ ((readD L.S (lastW L.S.fs)).1.size : Int) + n ≤ size then (L, lastW L.S.fs, 0)
  else if (syncD L.S (lastW L.S.fs)).2 ≠ 0 then (⟨(syncD L.S (lastW L.S.fs)).1, L.nx, L.sy⟩, ⟨#[]⟩, (syncD L.S (lastW L.S.fs)).2)
  else (⟨(syncD L.S (lastW L.S.fs)).1, L.nx, L.nx - 1⟩, tB L.nx, 0)
/-- what is appended, behind its place -/
def putW (P : WL × ByteArray × Int) (b : ByteArray) : WL × Int × Int :=
  if P.2.2 ≠ 0 then (P.1, 0, P.2.2)
  else if (appendD P.1.S P.2.1 b).2 ≠ 0 then (⟨(appendD P.1.S P.2.1 b).1, P.1.nx, P.1.sy⟩, 0, (appendD P.1.S P.2.1 b).2)
  else (⟨(appendD P.1.S P.2.1 b).1, P.1.nx + 1, P.1.sy⟩, P.1.nx, 0)
def appendW (size : Int) (L : WL) (d : ByteArray) : WL × Int × Int := putW (placeW size L (fB L.nx.toNat d).size) (fB L.nx.toNat d)

/-- what is appended, of any size -/
theorem appendD_invM {R : Int} {i j : Nat} {S : DS} (h : DInv R i j S) (nm s : ByteArray) (m : Nat) (hs : s.size ≤ 100 * m) : DInv R (i + 1) (j + m) (appendD S nm s).1 := by
  have hsz := h.size
  unfold appendD
  split
  · exact h.more (by omega) (by omega)
  · split
    · exact h.more (by omega) (by omega)
    · split
      · exact h.more (by omega) (by omega)
      · rename_i hno
        have hfit : (used S.fs : Int) + (s.size : Int) ≤ S.room := by
          have := fun hh => hno (.inl hh)
          omega
        have hkey : Sorted (putF S.fs nm s) ∧ (putF S.fs nm s).length ≤ 64 ∧ (∀ f ∈ putF S.fs nm s, f.su ≤ f.all.size) ∧ used (putF S.fs nm s) = used S.fs + s.size := by
          cases hh : has S.fs nm with
          | true =>
            obtain ⟨f, hf, _⟩ := has_some hh
            have hput : putF S.fs nm s = S.fs.set (pos S.fs nm) { f with all := f.all ++ s } := by unfold putF; rw [hf]; simp [hh]
            rw [hput]
            refine ⟨sorted_of_names h.sorted (names_set hf rfl), by rw [List.length_set]; exact h.many, fun x hx => ?_, ?_⟩
            · rcases mem_set hx with rfl | hx
              · have := h.sure f (List.mem_of_getElem? hf)
                simp only [ByteArray.size_append]
                omega
              · exact h.sure x hx
            · rw [set_split hf, used_split hf, used_app, used_cons]
              simp only [ByteArray.size_append]
              omega
          | false =>
            have hput : putF S.fs nm s = S.fs.take (pos S.fs nm) ++ ⟨nm, ⟨#[]⟩ ++ s, 0⟩ :: S.fs.drop (pos S.fs nm) := by unfold putF; split <;> simp [hh]
            have h64 : ¬ 64 ≤ S.fs.length := fun hc => hno (.inr ⟨hh, hc⟩)
            have hp := pos_le S.fs nm
            have hu := used_app (S.fs.take (pos S.fs nm)) (S.fs.drop (pos S.fs nm))
            rw [List.take_append_drop] at hu
            rw [hput]
            refine ⟨sorted_ins h.sorted ⟨nm, ⟨#[]⟩ ++ s, 0⟩ hh, by rw [ins_len _ _ _ hp]; omega, fun x hx => ?_, ?_⟩
            · rcases List.mem_append.1 hx with hx | hx
              · exact h.sure x (List.mem_of_mem_take hx)
              · rcases List.mem_cons.1 hx with rfl | hx
                · exact Nat.zero_le _
                · exact h.sure x (List.mem_of_mem_drop hx)
            · rw [used_app, used_cons]
              have e0 : (⟨#[]⟩ ++ s : ByteArray).size = s.size := by rw [ByteArray.size_append]; exact Nat.zero_add _
              simp only [e0]
              omega
        exact (begun_inv (h.fs (k := j + m) hkey.1 hkey.2.1 hkey.2.2.1 (by rw [hkey.2.2.2]; push_cast; exact hfit) (by rw [hkey.2.2.2]; omega))).1
theorem placeW_inv {R : Int} {i j : Nat} {L : WL} (h : DInv R i j L.S) (size n : Int) : DInv R (i + 1) j (placeW size L n).1.S := by
  unfold placeW
  split
  · exact h.more (Nat.le_succ _) (Nat.le_refl _)
  · split
    · exact h.more (Nat.le_succ _) (Nat.le_refl _)
    · split
      · exact h.more (Nat.le_succ _) (Nat.le_refl _)
      · split <;> exact (syncD_inv h _).1
theorem appendW_inv {R : Int} {i j : Nat} {L : WL} (h : DInv R i j L.S) (size : Int) (d : ByteArray) (hd : d.size ≤ 100) : DInv R (i + 2) (j + 2) (appendW size L d).1.S := by
  have h1 := placeW_inv h size (fB L.nx.toNat d).size
  have hs : (fB L.nx.toNat d).size ≤ 100 * 2 := by rw [fB_size]; omega
  unfold appendW putW
  split
  · exact h1.more (Nat.le_succ _) (by omega)
  · split <;> exact appendD_invM h1 _ _ 2 hs
theorem syncW_inv {R : Int} {i j : Nat} {L : WL} (h : DInv R i j L.S) : DInv R (i + 1) j (syncW L).1.S := by
  unfold syncW
  split
  · exact h.more (Nat.le_succ _) (Nat.le_refl _)
  · exact (syncD_inv h _).1
/-- the files of a log whose frames bear the texts T, the first p of them sure -/
def SegsOk (F : List Fl) (T : List ByteArray) (p : Nat) : Prop :=
  (F = [] ∧ T = [] ∧ p = 0) ∨ ∃ G0 g su, F = G0.map full ++ [fl g su] ∧ cont 1 (G0 ++ [g]) ∧ flat (G0 ++ [g]) = T ∧ su ≤ (sgB g).size ∧ p ≤ T.length ∧ FrameP.bytes (frs g.1 (g.2.take (p - (flat G0).length))) ≤ su
theorem lastW_nil {F' : List Fl} (hp : List.Perm [] F') : lastW F' = ⟨#[]⟩ := by
  obtain rfl := hp.symm.eq_nil
  rfl
theorem names_app (a b : List Fl) : names (a ++ b) = names a ++ names b := by unfold names; rw [List.map_append]
theorem names_segs (G0 : List Sg) (g : Sg) (su : Nat) : names (G0.map full ++ [fl g su]) = (G0 ++ [g]).map fun g => tB g.1 := by
  rw [names_app, names_full, List.map_append]; rfl
theorem lastW_segs {G0 : List Sg} {g : Sg} {su : Nat} (h : cont 1 (G0 ++ [g])) (hl : (flat (G0 ++ [g])).length ≤ 1000) {F' : List Fl} (hp : (G0.map full ++ [fl g su]).Perm F') : lastW F' = tB g.1 := by
  unfold lastW
  rw [nums_files h hl (names_segs G0 g su) hp, List.map_append]
  simp
theorem at_last (L0 : List Fl) (f : Fl) : (L0 ++ [f])[L0.length]? = some f := by simp
theorem set_last (L0 : List Fl) (f f' : Fl) : (L0 ++ [f]).set L0.length f' = L0 ++ [f'] := by simp
/-- the last segment is found -/
theorem fnd_last {G0 : List Sg} {g : Sg} {su : Nat} (h : cont 1 (G0 ++ [g])) (hl : (flat (G0 ++ [g])).length ≤ 1000) : fnd (G0.map full ++ [fl g su]) (tB g.1) = (G0.map full).length := fnd_app h hl (names_full G0) _ rfl
/-- a new one is not -/
theorem fnd_new {G : List Sg} (h : cont 1 G) (hl : (flat G).length ≤ 1000) {F : List Fl} (hF : names F = G.map fun g => tB g.1) : F[fnd F (tB (((flat G).length : Int) + 1))]? = none := by
  have hr := cont_range h hl
  refine List.getElem?_eq_none (Nat.not_lt.1 (fnd_none fun f hf e => ?_))
  have hm : f.nm ∈ names F := List.mem_map_of_mem hf
  rw [hF] at hm
  obtain ⟨y, hy, e2⟩ := List.mem_map.1 hm
  have e3 := tB_inj (hr y hy) (by omega) (e2.trans e)
  obtain ⟨k, hk, e4⟩ := List.getElem_of_mem hy
  obtain ⟨h5, h6⟩ := cont_at G 1 h k y (by rw [List.getElem?_eq_getElem hk, e4])
  have h7 := flat_take_snoc (k := k) (g := y) (by rw [List.getElem?_eq_getElem hk, e4])
  have h8 := flat_take_le G (k + 1)
  rw [h7, List.length_append] at h8
  have h9 : 1 ≤ y.2.length := List.length_pos_iff.2 h6
  omega
theorem bytes_take_le2 (l : List ByteArray) (n k : Nat) : FrameP.bytes (frs n (l.take k)) ≤ FrameP.bytes (frs n l) := by
  rw [← frs_take]; exact FrameP.bytes_take_le _ _
/-- a blow on a disk -/
theorem blow_cases (S : DS) (hon : S.on = true) : ((blow S).2 = false ∧ (blow S).1.on = true ∧ (S.fuse = -1 → (blow S).1.fuse = -1)) ∨ ((blow S).2 = true ∧ (blow S).1.on = false ∧ S.fuse ≠ -1) := by
  unfold blow
  split
  · rename_i h; exact .inl ⟨rfl, hon, fun _ => h⟩
  · rename_i h
    split
    · exact .inr ⟨rfl, rfl, h⟩
    · exact .inl ⟨rfl, hon, fun h' => absurd h' h⟩
/-- what was written is sure -/
theorem sync_segs {S X : DS} (hs : Sorted S.fs) (h : Sim S X) (hon : S.on = true) {G0 : List Sg} {g : Sg} {su : Nat} (hX : X.fs = G0.map full ++ [fl g su]) (hc : cont 1 (G0 ++ [g])) (hl : (flat (G0 ++ [g])).length ≤ 1000) :
    ∃ X', Sim (syncD S (tB g.1)).1 X' ∧
      (((syncD S (tB g.1)).2 = 0 ∧ (syncD S (tB g.1)).1.on = true ∧ (S.fuse = -1 → (syncD S (tB g.1)).1.fuse = -1) ∧ X'.fs = (G0 ++ [g]).map full) ∨
       ((syncD S (tB g.1)).2 = 9 ∧ (syncD S (tB g.1)).1.on = false ∧ S.fuse ≠ -1 ∧ X'.fs = X.fs)) := by
  have h1 := do_sim hs h 2 (tB g.1) ⟨#[]⟩ 0 (by omega)
  simp only [if_true] at h1
  obtain ⟨h2, h3⟩ := h1
  have hf := fnd_last (su := su) hc hl
  have hat := at_last (G0.map full) (fl g su)
  have hXon : X.on = true := h.on.trans hon
  have hdo : doX X 2 (tB g.1) ⟨#[]⟩ 0 = opD X fun L => doT L 2 (tB g.1) ⟨#[]⟩ 0 := by
    unfold doX
    rw [if_neg (by simp [hXon]), hX, hf, hat]
    simp
  rw [hdo] at h2 h3
  refine ⟨_, h2, ?_⟩
  rw [← h3, ← h2.on, ← h2.fuse, ← h.fuse]
  rcases blow_cases X hXon with ⟨b1, b2, b3⟩ | ⟨b1, b2, b3⟩
  · left
    unfold opD
    rw [b1]
    refine ⟨rfl, b2, b3, ?_⟩
    show doT X.fs 2 (tB g.1) ⟨#[]⟩ 0 = _
    unfold doT
    rw [hX, hf, hat]
    simp only [if_true, set_last, List.map_append]
    rfl
  · right
    unfold opD
    rw [b1]
    exact ⟨rfl, b2, b3, (blow_fs X).1⟩
/-- what was appended -/
theorem app_segs {S X : DS} (hs : Sorted S.fs) (h : Sim S X) (hon : S.on = true) (nm b : ByteArray) (hn : namedD nm = true) :
    ∃ X', Sim (appendD S nm b).1 X' ∧
      (((appendD S nm b).2 = 0 ∧ (appendD S nm b).1.on = true ∧ (S.fuse = -1 → (appendD S nm b).1.fuse = -1) ∧ X'.fs = putX X.fs nm b) ∨
       ((appendD S nm b).2 = 9 ∧ (appendD S nm b).1.on = false ∧ S.fuse ≠ -1 ∧ X'.fs = putX X.fs nm b) ∨
       ((appendD S nm b).2 = 5 ∧ (appendD S nm b).1 = S ∧ X'.fs = X.fs ∧ (S.room - (used S.fs : Int) < (b.size : Int) ∨ 64 ≤ S.fs.length))) := by
  obtain ⟨h2, h3⟩ := append_sim hs h nm b
  have hXon : X.on = true := h.on.trans hon
  refine ⟨_, h2, ?_⟩
  by_cases hfull : X.room - (used X.fs : Int) < (b.size : Int) ∨ (¬ fnd X.fs nm < X.fs.length ∧ 64 ≤ X.fs.length)
  · right; right
    have e : appendX X nm b = (X, 5) := by unfold appendX; rw [if_neg (by simp [hXon]), if_neg (by simp [hn]), if_pos hfull]
    rw [e] at h2 h3 ⊢
    refine ⟨h3.symm, ?_, rfl, ?_⟩
    · unfold appendD at h3 ⊢
      rw [if_neg (by simp [hon]), if_neg (by simp [hn])] at h3 ⊢
      split
      · rfl
      · rename_i hh
        rw [if_neg hh] at h3
        unfold begun at h3
        simp only at h3
        split at h3 <;> omega
    · rw [← h.room, ← used_perm h.perm, ← h.perm.length_eq]
      rcases hfull with h4 | ⟨_, h4⟩
      · exact .inl h4
      · exact .inr h4
  · have e : appendX X nm b = begun { X with fs := putX X.fs nm b } := by unfold appendX; rw [if_neg (by simp [hXon]), if_neg (by simp [hn]), if_neg hfull]
    rw [e] at h2 h3 ⊢
    rw [← h3, ← h2.on, ← h2.fuse, ← h.fuse]
    rcases blow_cases { X with fs := putX X.fs nm b } hXon with ⟨b1, b2, b3⟩ | ⟨b1, b2, b3⟩
    · left
      unfold begun
      rw [b1]
      exact ⟨rfl, b2, b3, (blow_fs _).1⟩
    · right; left
      unfold begun
      rw [b1]
      exact ⟨rfl, b2, b3, (blow_fs _).1⟩
/-- a frame behind the last one -/
theorem put_last {G0 : List Sg} {g : Sg} {su p : Nat} {d : ByteArray} (hc : cont 1 (G0 ++ [g])) (hl : (flat (G0 ++ [g])).length + 1 ≤ 1000) (hsu : su ≤ (sgB g).size) (hp : p ≤ (flat (G0 ++ [g])).length) (hb : FrameP.bytes (frs g.1 (g.2.take (p - (flat G0).length))) ≤ su) :
    SegsOk (putX (G0.map full ++ [fl g su]) (tB g.1) (fB ((flat (G0 ++ [g])).length + 1) d)) (flat (G0 ++ [g]) ++ [d]) p := by
  obtain ⟨n, ds⟩ := g
  obtain ⟨h1, h2, h3⟩ := (cont_snoc G0 (n, ds) 1).1 hc
  simp only at h2 h3 hb hsu
  have hlen : (flat (G0 ++ [(n, ds)])).length + 1 = n + ds.length := by rw [flat_snoc, List.length_append, h2]; simp only; omega
  have hpl : p - (flat G0).length ≤ ds.length := by rw [flat_snoc, List.length_append] at hp; simp only at hp; omega
  refine .inr ⟨G0, (n, ds ++ [d]), su, ?_, ?_, ?_, ?_, ?_, ?_⟩
  · unfold putX
    rw [fnd_last hc (by omega), at_last]
    simp only [set_last]
    rw [hlen]
    unfold fl
    simp only
    rw [sgB_snoc]
  · exact (cont_snoc G0 _ 1).2 ⟨h1, h2, by simp⟩
  · rw [flat_snoc, flat_snoc, List.append_assoc]
  · rw [sgB_snoc, ByteArray.size_append]; omega
  · rw [List.length_append]; omega
  · simp only
    rw [List.take_append_of_le_length hpl]
    exact hb
/-- a frame of a new segment -/
theorem put_new {G : List Sg} {d : ByteArray} {p : Nat} (hc : cont 1 G) (hl : (flat G).length + 1 ≤ 1000) (hp : p ≤ (flat G).length) :
    SegsOk (putX (G.map full) (tB (((flat G).length : Int) + 1)) (fB ((flat G).length + 1) d)) (flat G ++ [d]) p := by
  refine .inr ⟨G, ((flat G).length + 1, [d]), 0, ?_, ?_, ?_, Nat.zero_le _, ?_, ?_⟩
  · unfold putX
    rw [fnd_new hc (by omega) (names_full G)]
    simp only
    unfold fl
    simp only
    rw [sgB_one]
    rfl
  · exact (cont_snoc G _ 1).2 ⟨hc, by simp only; omega, by simp⟩
  · rw [flat_snoc]
  · rw [List.length_append]; omega
  · simp only
    rw [show p - (flat G).length = 0 by omega]
    exact Nat.le_refl _
theorem full_segs {G0 : List Sg} {g : Sg} (hc : cont 1 (G0 ++ [g])) : SegsOk ((G0 ++ [g]).map full) (flat (G0 ++ [g])) (flat (G0 ++ [g])).length := by
  refine .inr ⟨G0, g, (sgB g).size, by rw [List.map_append]; rfl, hc, rfl, Nat.le_refl _, Nat.le_refl _, ?_⟩
  rw [sgB_size]
  exact bytes_take_le2 _ _ _
/-- what holds of a log's files and what is sure -/
def CoreW (S : DS) (T : List ByteArray) (p : Nat) : Prop := ∃ X, Sim S X ∧ SegsOk X.fs T p
theorem sync_law {L : WL} {T : List ByteArray} {p : Nat} (hs : Sorted L.S.fs) (h : CoreW L.S T p) (hsy : L.sy = p) (hon : L.S.on = true) (hnx : L.nx = T.length + 1) (hT : T.length ≤ 1000) :
    ((syncW L).2 = 0 ∧ (syncW L).1.S.on = true ∧ (syncW L).1.nx = L.nx ∧ (L.S.fuse = -1 → (syncW L).1.S.fuse = -1) ∧ ∃ p' : Nat, CoreW (syncW L).1.S T p' ∧ (syncW L).1.sy = p') ∨
    ((syncW L).2 = 9 ∧ (syncW L).1.S.on = false ∧ (syncW L).1.nx = L.nx ∧ L.S.fuse ≠ -1 ∧ CoreW (syncW L).1.S T p ∧ (syncW L).1.sy = p) := by
  obtain ⟨X, hX, hseg⟩ := h
  unfold syncW
  split
  · exact .inl ⟨rfl, hon, rfl, id, p, ⟨X, hX, hseg⟩, hsy⟩
  · rename_i hne
    rcases hseg with ⟨_, rfl, rfl⟩ | ⟨G0, g, su, hF, hc, hfl, h4, h5, h6⟩
    · exact absurd (by rw [hsy, hnx]; simp) hne
    · subst hfl
      rw [lastW_segs hc hT (su := su) (hF ▸ hX.perm)]
      obtain ⟨X', s1, s2⟩ := sync_segs hs hX hon hF hc hT
      rcases s2 with ⟨a, b, c, e⟩ | ⟨a, b, c, e⟩
      · left
        refine ⟨a, b, rfl, c, (flat (G0 ++ [g])).length, ⟨X', s1, by rw [e]; exact full_segs hc⟩, ?_⟩
        simp only
        rw [if_pos a, hnx]; omega
      · right
        refine ⟨a, b, rfl, c, ⟨X', s1, .inr ⟨G0, g, su, e.trans hF, hc, rfl, h4, h5, h6⟩⟩, ?_⟩
        simp only
        rw [a, if_neg (by decide)]
        exact hsy
/-- how many bytes the frames of texts have -/
def bytesT (T : List ByteArray) : Nat := (T.map fun d => 16 + d.size).sum
theorem bytesT_app (a b : List ByteArray) : bytesT (a ++ b) = bytesT a + bytesT b := by unfold bytesT; rw [List.map_append, List.sum_append]
theorem bytesT_le (T : List ByteArray) (h : ∀ d ∈ T, d.size ≤ 100) : bytesT T ≤ 116 * T.length := by
  induction T with
  | nil => simp [bytesT]
  | cons d r ih =>
    have h1 := ih (fun x hx => h x (List.mem_cons_of_mem _ hx))
    have h2 := h d List.mem_cons_self
    unfold bytesT at h1 ⊢
    rw [List.map_cons, List.sum_cons, List.length_cons]
    omega
theorem frs_bytes (l : List ByteArray) : ∀ n, FrameP.bytes (frs n l) = bytesT l := by
  induction l with
  | nil => intro n; rfl
  | cons d r ih =>
    intro n
    simp only [frs, FrameP.bytes_cons, ih]
    unfold bytesT
    rw [List.map_cons, List.sum_cons]
    rfl
theorem used_full (G : List Sg) : used (G.map full) = bytesT (flat G) := by
  induction G with
  | nil => rfl
  | cons g r ih =>
    have e : flat (g :: r) = g.2 ++ flat r := by simp [flat]
    rw [List.map_cons, used_cons, ih, e, bytesT_app]
    show (sgB g).size + _ = _
    rw [sgB_size, frs_bytes]
theorem segs_used {F : List Fl} {T : List ByteArray} {p : Nat} (h : SegsOk F T p) : used F = bytesT T ∧ F.length ≤ T.length := by
  rcases h with ⟨rfl, rfl, _⟩ | ⟨G0, g, su, rfl, hc, rfl, _⟩
  · exact ⟨rfl, Nat.le_refl _⟩
  · refine ⟨?_, ?_⟩
    · rw [used_app, used_full, flat_snoc, bytesT_app, used_cons]
      show _ + ((sgB g).size + used []) = _
      rw [sgB_size, frs_bytes]
      rfl
    · have := cont_len _ 1 hc
      rw [List.length_append, List.length_singleton] at this
      rw [List.length_append, List.length_map, List.length_singleton]
      exact this
/-- what an append leads to -/
def AppRes (R : Int) (L : WL) (T : List ByteArray) (d : ByteArray) (r : WL × Int × Int) : Prop :=
  (r.2 = (L.nx, 0) ∧ r.1.nx = L.nx + 1 ∧ r.1.S.on = true ∧ (L.S.fuse = -1 → r.1.S.fuse = -1) ∧ ∃ p' : Nat, CoreW r.1.S (T ++ [d]) p' ∧ r.1.sy = p') ∨
  (r.2 = (0, 5) ∧ r.1.nx = L.nx ∧ r.1.S.on = true ∧ (R - (bytesT T : Int) < 16 + d.size ∨ 64 ≤ T.length) ∧ ∃ p' : Nat, CoreW r.1.S T p' ∧ r.1.sy = p') ∨
  (r.2 = (0, 9) ∧ r.1.nx = L.nx ∧ r.1.S.on = false ∧ L.S.fuse ≠ -1 ∧ ∃ p' : Nat, (CoreW r.1.S T p' ∨ CoreW r.1.S (T ++ [d]) p') ∧ r.1.sy = p')
/-- behind its place -/
theorem put_law {R : Int} {L P : WL} {T : List ByteArray} {d : ByteArray} {p : Nat} {X : DS} (nm : ByteArray) (hs : Sorted P.S.fs) (hX : Sim P.S X) (hseg : SegsOk X.fs T p) (hR : P.S.room = R) (hon : P.S.on = true) (hsy : P.sy = p) (hnm : namedD nm = true)
    (hput : SegsOk (putX X.fs nm (fB (T.length + 1) d)) (T ++ [d]) p) (hfu : L.S.fuse = -1 → P.S.fuse = -1) (hnx : P.nx = L.nx) (hLn : L.nx = T.length + 1) :
    AppRes R L T d (putW (P, nm, 0) (fB L.nx.toNat d)) := by
  have hn : L.nx.toNat = T.length + 1 := by omega
  rw [hn]
  obtain ⟨X', a1, a2⟩ := app_segs hs hX hon nm (fB (T.length + 1) d) hnm
  unfold putW
  rw [if_neg (by simp)]
  simp only
  rcases a2 with ⟨b1, b2, b3, b4⟩ | ⟨b1, b2, b3, b4⟩ | ⟨b1, b2, b3, b4⟩
  · rw [if_neg (by rw [b1]; decide)]
    exact .inl ⟨by simp only [hnx], by simp only [hnx], b2, fun h => b3 (hfu h), p, ⟨X', a1, by rw [b4]; exact hput⟩, hsy⟩
  · rw [if_pos (by rw [b1]; decide)]
    exact .inr (.inr ⟨by simp only [b1], hnx, b2, fun h => b3 (hfu h), p, .inr ⟨X', a1, by rw [b4]; exact hput⟩, hsy⟩)
  · rw [if_pos (by rw [b1]; decide)]
    refine .inr (.inl ⟨by simp only [b1], hnx, by rw [b2]; exact hon, ?_, p, ⟨X', a1, by rw [b3]; exact hseg⟩, hsy⟩)
    obtain ⟨u1, u2⟩ := segs_used hseg
    rw [hR, ← used_perm hX.perm, u1, fB_size, ← hX.perm.length_eq] at b4
    rcases b4 with b4 | b4
    · left; push_cast at b4; omega
    · right; omega
theorem append_law {R : Int} {i j : Nat} {L : WL} {T : List ByteArray} {p : Nat} (hI : DInv R i j L.S) (h : CoreW L.S T p) (hsy : L.sy = p) (hon : L.S.on = true) (hnx : L.nx = T.length + 1) (hT : T.length + 1 ≤ 1000) (size : Int) (d : ByteArray) :
    AppRes R L T d (appendW size L d) := by
  obtain ⟨X, hX, hseg⟩ := h
  have hrange : 1 ≤ L.nx ∧ L.nx ≤ 999999999999999999 := by omega
  unfold appendW
  generalize hb : ((fB L.nx.toNat d).size : Int) = bz
  have hseg0 := hseg
  rcases hseg with ⟨hF, rfl, rfl⟩ | ⟨G0, g, su, hF, hc, hfl, h4, h5, h6⟩
  · have hl : lastW L.S.fs = ⟨#[]⟩ := lastW_nil (hF ▸ hX.perm)
    have hP : placeW size L bz = (L, tB L.nx, 0) := by unfold placeW; rw [if_pos hl]
    rw [hP]
    refine put_law _ hI.sorted hX hseg0 hI.room.1 hon hsy (namedD_tB hrange) ?_ id rfl hnx
    rw [hF, hnx]
    exact put_new (G := []) trivial (by simp [flat]) (Nat.le_refl _)
  · subst hfl
    have hl := lastW_segs hc (by omega) (su := su) (hF ▸ hX.perm)
    have hrg := cont_range hc (by omega) g (by simp)
    have hgp := sgB_pos ((cont_snoc G0 g 1).1 hc).2.2
    have hne : tB (g.1 : Int) ≠ ⟨#[]⟩ := fun e => by have := tB_pos hrg; rw [e] at this; exact absurd this (by decide)
    have hrd : readD L.S (tB g.1) = (sgB g, 0) := by
      rw [← read_sim hI.sorted hX]
      unfold readX
      rw [if_neg (by simp [hX.on, hon]), hF, fnd_last hc (by omega), at_last]
      rfl
    have hgne : sgB g ≠ ⟨#[]⟩ := fun e => by rw [e] at hgp; exact absurd hgp (by decide)
    by_cases hfit : ((sgB g).size : Int) + bz ≤ size
    · have hP : placeW size L bz = (L, tB g.1, 0) := by
        unfold placeW
        rw [hl, if_neg hne, hrd, if_neg (fun h => h rfl), if_pos (.inr hfit)]
      rw [hP]
      refine put_law _ hI.sorted hX hseg0 hI.room.1 hon hsy (namedD_tB hrg) ?_ id rfl hnx
      rw [hF]
      exact put_last hc (by omega) h4 h5 h6
    · obtain ⟨X', s1, s2⟩ := sync_segs hI.sorted hX hon hF hc (by omega)
      have hI2 := (syncD_inv hI (tB g.1)).1
      rcases s2 with ⟨a, b, c, e⟩ | ⟨a, b, c, e⟩
      · have hP : placeW size L bz = (⟨(syncD L.S (tB g.1)).1, L.nx, L.nx - 1⟩, tB L.nx, 0) := by
          unfold placeW
          rw [hl, if_neg hne, hrd, if_neg (fun h => h rfl), if_neg (by rintro (h | h); exact hgne h; exact hfit h), if_neg (by rw [a]; decide)]
        rw [hP]
        have hf2 : SegsOk X'.fs (flat (G0 ++ [g])) (flat (G0 ++ [g])).length := by rw [e]; exact full_segs hc
        refine put_law (p := (flat (G0 ++ [g])).length) _ hI2.sorted s1 hf2 hI2.room.1 b (by simp only; omega) (namedD_tB hrange) ?_ c rfl hnx
        rw [e, hnx]
        exact put_new hc (by omega) (Nat.le_refl _)
      · have hP : placeW size L bz = (⟨(syncD L.S (tB g.1)).1, L.nx, L.sy⟩, ⟨#[]⟩, 9) := by
          unfold placeW
          rw [hl, if_neg hne, hrd, if_neg (fun h => h rfl), if_neg (by rintro (h | h); exact hgne h; exact hfit h), if_pos (by rw [a]; decide), a]
        rw [hP]
        unfold putW
        rw [if_pos (fun h => absurd (show (9 : Int) = 0 from h) (by decide))]
        exact .inr (.inr ⟨rfl, rfl, b, c, p, .inl ⟨X', s1, by rw [e]; exact hseg0⟩, hsy⟩)
/-- a log whose disk is down does nothing -/
theorem append_dead {L : WL} (hoff : L.S.on = false) (size : Int) (d : ByteArray) : appendW size L d = (L, 0, 9) := by
  have hr : ∀ nm, readD L.S nm = (⟨#[]⟩, 9) := fun nm => by unfold readD; rw [if_pos hoff]
  have ha : ∀ nm b, appendD L.S nm b = (L.S, 9) := fun nm b => by unfold appendD; rw [if_pos hoff]
  unfold appendW
  generalize ((fB L.nx.toNat d).size : Int) = bz
  unfold placeW
  split
  · unfold putW
    simp only [ha]
    rfl
  · rw [hr, if_pos (by decide)]
    rfl
theorem sync_dead {L : WL} (hoff : L.S.on = false) : syncW L = (L, 0) ∨ syncW L = (L, 9) := by
  have ha : ∀ nm, syncD L.S nm = (L.S, 9) := fun nm => by unfold syncD; rw [if_pos hoff]
  unfold syncW
  split
  · exact .inl rfl
  · rw [ha]; exact .inr rfl
end Go.Proofs.YtcpmicinibfepaaGreatDoor
