/- The document's disk (layer 7): Do. -/
import Derived.Test.YtmkaijjakcjflaaRefD
import Derived.Test.YtmkaijjakcjflaaPhase
namespace Go.Proofs.Ytmkaijjakcjflaa
open Go.ChangeShapes Go.WideShapes Go.ChangeAt Go.RowKit Go.Deep DiskP

/-- what an operation makes of the files, where it is done: k is where the file is -/
def doT (L : List Fl) (kind : Int) (s to_ : ByteArray) (n : Int) : List Fl := match L[fnd L s]? with
  | some f => if kind = 2 then L.set (fnd L s) { f with su := f.all.size }
    else if kind = 3 then outX (outX L s) to_ ++ [⟨to_, f.all, f.su⟩]
    else if kind = 4 then outX L s
    else L.set (fnd L s) ⟨s, f.all.extract 0 n.toNat, min f.su n.toNat⟩
  | none => L
def doX (S : DS) (kind : Int) (s to_ : ByteArray) (n : Int) : DS × Int :=
  if S.on = false then (S, 9) else match S.fs[fnd S.fs s]? with
  | none => (S, 7)
  | some f => if kind = 3 ∧ namedD to_ = false then (S, 1)
    else if kind = 5 ∧ (n < 0 ∨ (f.all.size : Int) < n) then (S, 11)
    else opD S fun L => doT L kind s to_ n
theorem Rk.set_file3 {x g c : Nat} {S : DS} {w : World} (h : Rk x (some ⟨g, 0, none⟩) c S w) {k : Nat} {f f' : Fl} (hk : S.fs[k]? = some f) :
    Rk x (some ⟨g, 0, none⟩) c { S with fs := S.fs.set k f' } (((w.setCell ⟨g, k * 3, none⟩ (.string f'.nm)).setCell ⟨g, k * 3 + 1, none⟩ (.string f'.all)).setCell ⟨g, k * 3 + 2, none⟩ (.int .i64 (f'.su : Int))) ∧
    TKeep 54 x w (((w.setCell ⟨g, k * 3, none⟩ (.string f'.nm)).setCell ⟨g, k * 3 + 1, none⟩ (.string f'.all)).setCell ⟨g, k * 3 + 2, none⟩ (.int .i64 (f'.su : Int))) := by
  have hl := (List.getElem?_eq_some_iff.1 hk).1
  obtain ⟨h1, k1⟩ := h.set_file (k := k) (f' := { f with nm := f'.nm }) (r := 0) (u := .string f'.nm) hk (by omega) rfl
  obtain ⟨h2, k2⟩ := h1.set_file (k := k) (f' := { f' with su := f.su }) (r := 1) (u := .string f'.all) (List.getElem?_set_self hl) (by omega) rfl
  simp only [List.set_set] at h2
  obtain ⟨h3, k3⟩ := h2.set_file (k := k) (f' := f') (r := 2) (u := .int .i64 (f'.su : Int)) (List.getElem?_set_self hl) (by omega) rfl
  simp only [List.set_set] at h3
  exact ⟨h3, (k1.trans k2).trans k3⟩
theorem fs_of_blow (S : DS) : (blow S).1 = ⟨S.fs, S.room, S.made, (blow S).1.on, (blow S).1.fuse, (blow S).1.ops⟩ := by
  unfold blow
  split
  · rfl
  · split <;> rfl

set_option maxRecDepth 100000 in
set_option maxHeartbeats 8000000 in
theorem ref7_Do_bad (x : Nat) (A : Option Addr) (c : Nat) (S : DS) (hS : OkX S) (kind : Int) (h25 : 2 ≤ kind ∧ kind ≤ 5) (s to_ : ByteArray) (hto : to_.size ≤ 1000) (n : Int) (w : World) (h : Rk x A c S w)
    (hbad : S.on = false ∨ ¬ fnd S.fs s < S.fs.length ∨ (kind = 3 ∧ namedD to_ = false) ∨ (kind = 5 ∧ ∃ f, S.fs[fnd S.fs s]? = some f ∧ (n < 0 ∨ (f.all.size : Int) < n))) :
    Calls Try.prog 36 #[.pointer (some ⟨x, 0, none⟩), .int .i64 kind, .string s, .string to_, .int .i64 n] w fun e w' => e = .returned (.int .i64 (doX S kind s to_ n).2) ∧ (doX S kind s to_ n).1 = S ∧ w = w' := by
  have hl : S.fs.length ≤ 1000 := by have := hS.many; omega
  have hmany := hS.many
  have HF := Lib.hid (ref7_Find x A c S s hl w h)
  have HN := Lib.hid (ref7_name to_ (by unfold maxLen; omega) w)
  have x2 := bx_cells h.box 2
  have x0 := bx_cells h.box 0
  have hlt := h.lt
  cases hon : S.on with
  | false =>
    have he : doX S kind s to_ n = (S, 9) := by unfold doX; rw [if_pos hon]
    rw [he]
    rw [hon] at x2
    clear hbad he
    go_enter Try.func36, Try.ntmps36
    go_wp2_with (go_at_call 39; (with_reducible refine (HF.out).mono ?_); rintro e w1 ⟨rfl, rfl⟩)
    go_ret
    exact ⟨rfl, trivial, rfl⟩
  | true =>
    rw [hon] at x2
    by_cases hp : fnd S.fs s < S.fs.length
    · obtain ⟨f, hf⟩ : ∃ f, S.fs[fnd S.fs s]? = some f := ⟨S.fs[fnd S.fs s], List.getElem?_eq_getElem hp⟩
      have hfi : fndI S.fs s = ((fnd S.fs s : Nat) : Int) := by unfold fndI; rw [if_pos hp]
      rw [hfi] at HF
      by_cases h3 : kind = 3
      · subst h3
        have hn : namedD to_ = false := by
          rcases hbad with h1 | h1 | ⟨_, h1⟩ | ⟨h1, _⟩
          · rw [hon] at h1; cases h1
          · exact absurd hp h1
          · exact h1
          · omega
        have he : doX S 3 s to_ n = (S, 1) := by unfold doX; rw [if_neg (by simp [hon]), hf]; simp only; rw [if_pos ⟨trivial, hn⟩]
        rw [he]
        rw [hn] at HN
        generalize fnd S.fs s = p at HF
        clear hbad he hn hfi hf
        go_enter Try.func36, Try.ntmps36
        go_wp2_with (first
          | (go_at_call 39; (with_reducible refine (HF.out).mono ?_); rintro e w1 ⟨rfl, rfl⟩)
          | (go_at_call 52; (with_reducible refine (HN.out).mono ?_); rintro e w1 ⟨rfl, rfl⟩))
        go_ret
        exact ⟨rfl, trivial, rfl⟩
      · obtain ⟨h5, hr⟩ : kind = 5 ∧ (n < 0 ∨ (f.all.size : Int) < n) := by
          rcases hbad with h1 | h1 | ⟨h1, _⟩ | ⟨h1, f', h2, h4⟩
          · rw [hon] at h1; cases h1
          · exact absurd hp h1
          · exact absurd h1 h3
          · rw [hf] at h2; obtain rfl := Option.some.inj h2; exact ⟨h1, h4⟩
        subst h5
        have he : doX S 5 s to_ n = (S, 11) := by unfold doX; rw [if_neg (by simp [hon]), hf]; simp only; rw [if_neg (by omega), if_pos ⟨trivial, hr⟩]
        rw [he]
        obtain ⟨p, hpp⟩ : ∃ p, fnd S.fs s = p := ⟨_, rfl⟩
        rw [hpp] at HF hf hp
        obtain ⟨ad, rfl, hadl, c0, c1, c2⟩ := RdFl_own h.row p f hf
        have hi1 : (p : Int) < (S.fs.length : Int) := by omega
        clear hbad he hfi hf hpp
        by_cases hn : n < 0
        · clear hr
          go_enter Try.func36, Try.ntmps36
          go_wp2_with (go_at_call 39; (with_reducible refine (HF.out).mono ?_); rintro e w1 ⟨rfl, rfl⟩)
          go_ret
          exact ⟨rfl, trivial, rfl⟩
        · have hr2 : (f.all.size : Int) < n := hr.resolve_left hn
          clear hr
          go_enter Try.func36, Try.ntmps36
          go_wp2_with (go_at_call 39; (with_reducible refine (HF.out).mono ?_); rintro e w1 ⟨rfl, rfl⟩)
          go_ret
          exact ⟨rfl, trivial, rfl⟩
    · have he : doX S kind s to_ n = (S, 7) := by unfold doX; rw [if_neg (by simp [hon]), List.getElem?_eq_none (by omega)]
      rw [he]
      have hfi : fndI S.fs s = -1 := by unfold fndI; rw [if_neg hp]
      rw [hfi] at HF
      clear hbad he hfi
      go_enter Try.func36, Try.ntmps36
      go_wp2_with (go_at_call 39; (with_reducible refine (HF.out).mono ?_); rintro e w1 ⟨rfl, rfl⟩)
      go_ret
      exact ⟨rfl, trivial, rfl⟩
end Go.Proofs.Ytmkaijjakcjflaa
