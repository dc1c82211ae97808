/- Layer 7 (disk), plain: any act. -/
import Derived.Test.YtmkaijjakcjflaaDiskS
namespace Go.Proofs.Ytmkaijjakcjflaa
open Go.ChangeShapes Go.WideShapes Go.ChangeAt Go.RowKit Go.Deep DiskP

theorem appendD_inv {R : Int} {i j : Nat} {S : DS} (h : DInv R i j S) (nm s : ByteArray) (hs : s.size ≤ 100) : DInv R (i + 1) (j + 1) (appendD S nm s).1 ∧ S.ops ≤ (appendD S nm s).1.ops ∧ (appendD S nm s).1.ops ≤ S.ops + 1 := by
  have hsz := h.size
  unfold appendD
  split
  · exact ⟨h.more (by omega) (by omega), by simp only; omega, by simp only; omega⟩
  · split
    · exact ⟨h.more (by omega) (by omega), by simp only; omega, by simp only; omega⟩
    · split
      · exact ⟨h.more (by omega) (by omega), by simp only; omega, by simp only; omega⟩
      · rename_i hno
        have hfit : (used S.fs : Int) + (s.size : Int) ≤ S.room := by
          have := fun hh => hno (.inl hh)
          omega
        have hkey : Sorted (putF S.fs nm s) ∧ (putF S.fs nm s).length ≤ 64 ∧ (∀ f ∈ putF S.fs nm s, f.su ≤ f.all.size) ∧ used (putF S.fs nm s) = used S.fs + s.size := by
          cases hh : has S.fs nm with
          | true =>
            obtain ⟨f, hf, _⟩ := has_some hh
            have hput : putF S.fs nm s = S.fs.set (pos S.fs nm) { f with all := f.all ++ s } := by unfold putF; rw [hf]; simp [hh]
            rw [hput]
            refine ⟨sorted_of_names h.sorted (names_set hf rfl), by rw [List.length_set]; exact h.many, fun x hx => ?_, ?_⟩
            · rcases mem_set hx with rfl | hx
              · have := h.sure f (List.mem_of_getElem? hf)
                simp only [ByteArray.size_append]
                omega
              · exact h.sure x hx
            · rw [set_split hf, used_split hf, used_app, used_cons]
              simp only [ByteArray.size_append]
              omega
          | false =>
            have hput : putF S.fs nm s = S.fs.take (pos S.fs nm) ++ ⟨nm, ⟨#[]⟩ ++ s, 0⟩ :: S.fs.drop (pos S.fs nm) := by unfold putF; split <;> simp [hh]
            have h64 : ¬ 64 ≤ S.fs.length := fun hc => hno (.inr ⟨hh, hc⟩)
            have hp := pos_le S.fs nm
            have hu := used_app (S.fs.take (pos S.fs nm)) (S.fs.drop (pos S.fs nm))
            rw [List.take_append_drop] at hu
            rw [hput]
            refine ⟨sorted_ins h.sorted ⟨nm, ⟨#[]⟩ ++ s, 0⟩ hh, by rw [ins_len _ _ _ hp]; omega, fun x hx => ?_, ?_⟩
            · rcases List.mem_append.1 hx with hx | hx
              · exact h.sure x (List.mem_of_mem_take hx)
              · rcases List.mem_cons.1 hx with rfl | hx
                · exact Nat.zero_le _
                · exact h.sure x (List.mem_of_mem_drop hx)
            · rw [used_app, used_cons]
              have e0 : (⟨#[]⟩ ++ s : ByteArray).size = s.size := by rw [ByteArray.size_append]; exact Nat.zero_add _
              simp only [e0]
              omega
        obtain ⟨a, b⟩ := begun_inv (h.fs (k := j + 1) hkey.1 hkey.2.1 hkey.2.2.1 (by rw [hkey.2.2.2]; push_cast; exact hfit) (by rw [hkey.2.2.2]; omega))
        have b' : (begun { S with fs := putF S.fs nm s }).1.ops = S.ops + 1 := b
        exact ⟨a, by omega, by omega⟩
theorem upOne_facts (f : Fl) (ks : List Int) (hf : f.su ≤ f.all.size) : (upOne f ks).1.nm = f.nm ∧ (upOne f ks).1.su ≤ (upOne f ks).1.all.size ∧ (upOne f ks).1.all.size ≤ f.all.size := by
  unfold upOne
  split
  · exact ⟨rfl, hf, Nat.le_refl _⟩
  · split
    · simp only [ByteArray.size_extract]; exact ⟨trivial, by omega, by omega⟩
    · simp only [ByteArray.size_extract]; exact ⟨trivial, by omega, by omega⟩
theorem upL_facts (fs : List Fl) (ks : List Int) : (∀ f ∈ fs, f.su ≤ f.all.size) → names (upL fs ks).1 = names fs ∧ (∀ f ∈ (upL fs ks).1, f.su ≤ f.all.size) ∧ used (upL fs ks).1 ≤ used fs := by
  induction fs using RankP.snoc_ind with
  | h0 => intro _; exact ⟨rfl, fun f hf => by simp [upL] at hf, Nat.le_refl _⟩
  | h1 l x ih =>
    intro h
    obtain ⟨h1, h2, h3⟩ := ih (fun f hf => h f (List.mem_append_left _ hf))
    obtain ⟨u1, u2, u3⟩ := upOne_facts x (upL l ks).2 (h x (by simp))
    rw [upL_snoc]
    refine ⟨?_, fun f hf => ?_, ?_⟩
    · unfold names at h1 ⊢
      simp only [List.map_append, List.map_cons, List.map_nil, h1, u1]
    · rcases List.mem_append.1 hf with hf | hf
      · exact h2 f hf
      · rw [List.mem_singleton.1 hf]; exact u2
    · rw [used_app, used_app, used_cons, used_cons]
      simp only [used, List.map_nil, List.sum_nil] at h3 ⊢
      omega
theorem upD_inv {R : Int} {i j : Nat} {S : DS} (h : DInv R i j S) (ks : List Int) : DInv R i j (upD S ks) ∧ (upD S ks).ops = S.ops := by
  obtain ⟨h1, h2, h3⟩ := upL_facts S.fs ks h.sure
  have hfu := h.full
  have hsz := h.size
  refine ⟨⟨sorted_of_names h.sorted h1, by unfold upD; simp only [upL_length]; exact h.many, h2, ?_, h.room, h.made, ?_, by unfold upD; simp only; omega, h.ops⟩, rfl⟩
  · unfold upD; simp only; omega
  · unfold upD; simp only; omega
/-- an act -/
structure Ac where
  kind : Int
  nm : ByteArray
  to_ : ByteArray
  s : ByteArray
  n : Int
  Ak : Option Addr
  ck : Nat
  ks : List Int
def actD (S : DS) (a : Ac) : DS × Int :=
  if a.kind = 1 then appendD S a.nm a.s
  else if a.kind = 2 then syncD S a.nm
  else if a.kind = 3 then renameD S a.nm a.to_
  else if a.kind = 4 then removeD S a.nm
  else if a.kind = 5 then cutD S a.nm a.n
  else if a.kind = 6 then ({ S with fuse := max a.n (-1) }, 0)
  else if a.kind = 7 then ({ S with on := false, fuse := -1 }, 0)
  else if a.kind = 8 then (upD S a.ks, 0)
  else (S, 0)
theorem actD_inv {R : Int} {i : Nat} {S : DS} (h : DInv R i i S) (a : Ac) (hs : a.s.size ≤ 100) (hn : a.n ≤ 9223372036854775807) : DInv R (i + 1) (i + 1) (actD S a).1 ∧ S.ops ≤ (actD S a).1.ops ∧ (actD S a).1.ops ≤ S.ops + 1 := by
  have hm : DInv R (i + 1) (i + 1) S := h.more (by omega) (by omega)
  have up : ∀ T : DS, DInv R (i + 1) i T → DInv R (i + 1) (i + 1) T := fun T hT => hT.more (Nat.le_refl _) (by omega)
  unfold actD
  split
  · exact appendD_inv h a.nm a.s hs
  · split
    · obtain ⟨x, y⟩ := syncD_inv h a.nm; exact ⟨up _ x, y⟩
    · split
      · obtain ⟨x, y⟩ := renameD_inv h a.nm a.to_; exact ⟨up _ x, y⟩
      · split
        · obtain ⟨x, y⟩ := removeD_inv h a.nm; exact ⟨up _ x, y⟩
        · split
          · obtain ⟨x, y⟩ := cutD_inv h a.nm a.n; exact ⟨up _ x, y⟩
          · split
            · exact ⟨{ hm with fuse := by simp only; omega }, by simp only; omega, by simp only; omega⟩
            · split
              · exact ⟨{ hm with fuse := by simp only; omega }, by simp only; omega, by simp only; omega⟩
              · split
                · obtain ⟨x, y⟩ := upD_inv h a.ks
                  exact ⟨x.more (by omega) (by omega), by show S.ops ≤ (upD S a.ks).ops; omega, by show (upD S a.ks).ops ≤ _; omega⟩
                · exact ⟨hm, by simp only; omega, by simp only; omega⟩
/-- with the disk not up nothing changes, but by Up -/
theorem actD_off {S : DS} (a : Ac) (hoff : S.on = false) (hk : a.kind ≠ 8) : (actD S a).1.on = false ∧ (actD S a).1.fs = S.fs ∧ (actD S a).1.ops = S.ops ∧ (1 ≤ a.kind → a.kind ≤ 5 → (actD S a).2 = 9) := by
  unfold actD appendD syncD renameD removeD cutD
  simp only [hoff, if_true]
  split
  · exact ⟨hoff, rfl, rfl, fun _ _ => rfl⟩
  · split
    · exact ⟨hoff, rfl, rfl, fun _ _ => rfl⟩
    · split
      · exact ⟨hoff, rfl, rfl, fun _ _ => rfl⟩
      · split
        · exact ⟨hoff, rfl, rfl, fun _ _ => rfl⟩
        · split
          · exact ⟨hoff, rfl, rfl, fun _ _ => rfl⟩
          · split
            · exact ⟨by first | rfl | exact hoff, rfl, rfl, fun _ h2 => by omega⟩
            · split
              · exact ⟨rfl, rfl, rfl, fun _ h2 => by omega⟩
              · exact ⟨hoff, rfl, rfl, fun _ _ => by omega⟩
end Go.Proofs.Ytmkaijjakcjflaa
