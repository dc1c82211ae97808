/- The document's disk (layer 7): Act. -/
import Derived.Test.YtmkaijjakcjflaaRefG
namespace Go.Proofs.Ytmkaijjakcjflaa
open Go.ChangeShapes Go.WideShapes Go.ChangeAt Go.RowKit Go.Deep DiskP

theorem ref7_Do (x : Nat) (A : Option Addr) (c : Nat) (S : DS) (hS : OkX S) (kind : Int) (h25 : 2 ≤ kind ∧ kind ≤ 5) (s to_ : ByteArray) (hto : to_.size ≤ 1000) (n : Int) (w : World) (h : Rk x A c S w) :
    Calls Try.prog 36 #[.pointer (some ⟨x, 0, none⟩), .int .i64 kind, .string s, .string to_, .int .i64 n] w (RPost x (doX S kind s to_ n).1 (.int .i64 (doX S kind s to_ n).2) w) := by
  by_cases hbad : S.on = false ∨ ¬ fnd S.fs s < S.fs.length ∨ (kind = 3 ∧ namedD to_ = false) ∨ (kind = 5 ∧ ∃ f, S.fs[fnd S.fs s]? = some f ∧ (n < 0 ∨ (f.all.size : Int) < n))
  · refine (ref7_Do_bad x A c S hS kind h25 s to_ hto n w h hbad).mono ?_
    rintro e w' ⟨rfl, h1, rfl⟩
    exact ⟨rfl, A, c, by rw [h1]; exact h, TKeep.refl _ _ _⟩
  · have hon : S.on = true := by cases hx : S.on with
      | true => rfl
      | false => exact absurd (.inl hx) hbad
    have hp : fnd S.fs s < S.fs.length := Classical.byContradiction fun hx => hbad (.inr (.inl hx))
    obtain ⟨f, hf⟩ : ∃ f, S.fs[fnd S.fs s]? = some f := ⟨S.fs[fnd S.fs s], List.getElem?_eq_getElem hp⟩
    have hn3 : kind = 3 → namedD to_ = true := fun h3 => by cases hx : namedD to_ with
      | true => rfl
      | false => exact absurd (.inr (.inr (.inl ⟨h3, hx⟩))) hbad
    have hn5 : kind = 5 → 0 ≤ n ∧ n ≤ (f.all.size : Int) := fun h5 => by
      have h9 : ¬ (n < 0 ∨ (f.all.size : Int) < n) := fun hx => hbad (.inr (.inr (.inr ⟨h5, f, hf, hx⟩)))
      omega
    have he : doX S kind s to_ n = opD S fun L => doT L kind s to_ n := by
      unfold doX
      rw [if_neg (by simp [hon]), hf]
      simp only
      rw [if_neg (by rintro ⟨h3, hx⟩; rw [hn3 h3] at hx; cases hx), if_neg (by rintro ⟨h5, hx⟩; have := hn5 h5; omega)]
    rw [he]
    exact ref7_Do_ok x A c S hS kind h25 s to_ hto n w h hon f hf hn3 hn5
def actX (S : DS) (a : Ac) : DS × Int :=
  if a.kind = 1 then appendX S a.nm a.s
  else if 2 ≤ a.kind ∧ a.kind ≤ 5 then doX S a.kind a.nm a.to_ a.n
  else if a.kind = 6 then ({ S with fuse := max a.n (-1) }, 0)
  else if a.kind = 7 then ({ S with on := false, fuse := -1 }, 0)
  else if a.kind = 8 then (upX S a.ks, 0)
  else (S, 0)

set_option maxRecDepth 100000 in
set_option maxHeartbeats 8000000 in
theorem ref7_Act (d : Nat) (A : Option Addr) (c : Nat) (S : DS) (hS : OkX S) (x : Ac) (hx : x.Ok) (hsm : smallA x) (w : World) (h : Rk d A c S w) (hks : Rd w d x.Ak (x.ks.map (Value.int .i64))) :
    Calls Try.prog 14 #[.pointer (some ⟨d, 0, none⟩), .agg #[.int .i64 x.kind, .string x.nm, .string x.to_, .string x.s, .int .i64 x.n, .slice x.Ak x.ks.length x.ck]] w (RPost d (actX S x).1 (.int .i64 (actX S x).2) w) := by
  obtain ⟨kind, nm, to_, s, n, Ak, ck, ks⟩ := x
  obtain ⟨hs1, hs2, hs3, hs4⟩ := hsm
  have hkn := hx.kind
  have hnn := hx.n
  simp only at hs1 hs2 hs3 hs4 hks hkn hnn ⊢
  obtain ⟨w2, hw2⟩ : ∃ w2, w2 = w.alloc (.cells #[.int .i64 kind, .string nm, .string to_, .string s, .int .i64 n, .slice Ak ks.length ck] 35) := ⟨_, rfl⟩
  have b2 : Below w.heap.size w w2 := by rw [hw2]; exact alloc_kept w _
  have k2 : TKeep 54 d w w2 := TKeep.of_below b2 (Nat.le_of_lt h.lt)
  have h2 := h.kept b2
  have fin : ∀ (T : DS) (v : Value) (e : Ending) (w3 : World), RPost d T v w2 e w3 → e = .returned v ∧ ∃ A c, Rk d A c T w3 ∧ TKeep 54 d w w3 := by
    rintro T v e w3 ⟨rfl, A', c', q1, q2⟩
    exact ⟨rfl, A', c', q1, k2.trans q2⟩
  have HA := Lib.hid (ref7_Append d A c S hS nm s (by omega) (by omega) w2 h2)
  have HS := Lib.hid (fun h25 => ref7_Do d A c S hS kind h25 nm to_ (by omega) n w2 h2)
  have HX := Lib.hid (ref7_Crash d A c S w2 h2)
  have HU := Lib.hid (ref7_Up d A c S hS Ak ck ks (by omega) w2 h2 (hks.below (b2.mono (Nat.le_of_lt h.lt))))
  have FIN := Lib.hid fin
  have x3 := bx_cells h2.box 3
  have f3 := bx_free h2.box 3
  have HFU := Lib.hid (fun m => h2.set_fuse m)
  have hlt := h2.lt
  rw [hw2] at x3 f3
  have HW2 := Lib.hid hw2
  have HK2 := Lib.hid (And.intro k2 h2)
  clear h2 k2 b2 hks fin h
  unfold actX
  simp only
  by_cases e1 : kind = 1
  · subst e1
    rw [if_pos rfl]
    go_enter Try.func14, Try.ntmps14
    go_wp2_with (go_at_call 35; rw [← HW2.out]; (with_reducible refine (HA.out).mono ?_); rintro e w3 hp; obtain ⟨rfl, A3, c3, d3, k3⟩ := FIN.out _ _ _ _ hp)
    go_ret
    exact ⟨rfl, A3, c3, d3, k3⟩
  rw [if_neg e1]
  by_cases e25 : 2 ≤ kind ∧ kind ≤ 5
  · rw [if_pos e25]
    have HS2 := Lib.hid (HS.out e25)
    clear HS hw2
    by_cases e2 : kind = 2
    · subst e2
      go_enter Try.func14, Try.ntmps14
      go_wp2_with (go_at_call 36; rw [← HW2.out]; (with_reducible refine (HS2.out).mono ?_); rintro e w3 hp; obtain ⟨rfl, A3, c3, d3, k3⟩ := FIN.out _ _ _ _ hp)
      go_ret
      exact ⟨rfl, A3, c3, d3, k3⟩
    by_cases e3 : kind = 3
    · subst e3
      go_enter Try.func14, Try.ntmps14
      go_wp2_with (go_at_call 36; rw [← HW2.out]; (with_reducible refine (HS2.out).mono ?_); rintro e w3 hp; obtain ⟨rfl, A3, c3, d3, k3⟩ := FIN.out _ _ _ _ hp)
      go_ret
      exact ⟨rfl, A3, c3, d3, k3⟩
    by_cases e4 : kind = 4
    · subst e4
      go_enter Try.func14, Try.ntmps14
      go_wp2_with (go_at_call 36; rw [← HW2.out]; (with_reducible refine (HS2.out).mono ?_); rintro e w3 hp; obtain ⟨rfl, A3, c3, d3, k3⟩ := FIN.out _ _ _ _ hp)
      go_ret
      exact ⟨rfl, A3, c3, d3, k3⟩
    obtain rfl : kind = 5 := by omega
    go_enter Try.func14, Try.ntmps14
    go_wp2_with (go_at_call 36; rw [← HW2.out]; (with_reducible refine (HS2.out).mono ?_); rintro e w3 hp; obtain ⟨rfl, A3, c3, d3, k3⟩ := FIN.out _ _ _ _ hp)
    go_ret
    exact ⟨rfl, A3, c3, d3, k3⟩
  rw [if_neg e25]
  have e2 : ¬ kind = 2 := by omega
  have e3 : ¬ kind = 3 := by omega
  have e4 : ¬ kind = 4 := by omega
  have e5 : ¬ kind = 5 := by omega
  clear HS
  by_cases e6 : kind = 6
  · subst e6
    rw [if_pos rfl]
    obtain ⟨m, hm⟩ : ∃ m, max n (-1) = m := ⟨_, rfl⟩
    rw [hm]
    have hd3 := HFU.out m
    rw [hw2] at hd3
    have HD3 := Lib.hid hd3
    have hk3 := HK2.out.1.trans (TKeep.set (T := 54) (w := w2) (d := d) (j := 3) (.int .i64 m))
    rw [hw2] at hk3
    have HK3 := Lib.hid hk3
    clear hd3 hk3 hw2
    go_enter Try.func14, Try.ntmps14
    go_wp2_with fail
    go_ret
    exact ⟨rfl, A, c, HD3.out, HK3.out⟩
  rw [if_neg e6]
  by_cases e7 : kind = 7
  · subst e7
    rw [if_pos rfl]
    go_enter Try.func14, Try.ntmps14
    go_wp2_with (go_at_call 37; rw [← HW2.out]; (with_reducible refine (HX.out).mono ?_); rintro e w3 ⟨q1, q2, q3⟩; obtain ⟨rfl, A3, c3, d3, k3⟩ := FIN.out _ _ _ _ ⟨q1, A, c, q2, q3⟩; clear q1 q2 q3)
    go_ret
    exact ⟨rfl, A3, c3, d3, k3⟩
  rw [if_neg e7]
  by_cases e8 : kind = 8
  · subst e8
    rw [if_pos rfl]
    go_enter Try.func14, Try.ntmps14
    go_wp2_with (go_at_call 38; rw [← HW2.out]; (with_reducible refine (HU.out).mono ?_); rintro e w3 hp; obtain ⟨rfl, A3, c3, d3, k3⟩ := FIN.out _ _ _ _ hp)
    go_ret
    exact ⟨rfl, A3, c3, d3, k3⟩
  rw [if_neg e8]
  have hk9 := HK2.out
  rw [hw2] at hk9
  have HK9 := Lib.hid hk9
  clear hk9 hw2
  go_enter Try.func14, Try.ntmps14
  go_wp2_with fail
  go_ret
  exact ⟨rfl, A, c, HK9.out.2, HK9.out.1⟩
end Go.Proofs.Ytmkaijjakcjflaa
