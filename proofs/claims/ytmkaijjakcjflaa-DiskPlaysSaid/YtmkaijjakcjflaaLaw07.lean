/- Layer 7: the law's own way to do an act. -/
import Derived.Test.YtmkaijjakcjflaaActs
namespace Go.Proofs.Ytmkaijjakcjflaa
open Go.ChangeShapes Go.WideShapes Go.ChangeAt Go.RowKit Go.Deep DiskP

theorem disk_Append (d : Nat) (A : Option Addr) (c : Nat) (S : DS) (hS : OkD S) (nm s : ByteArray) (hnm : nm.size ≤ 1000) (hs : s.size ≤ 1000000) (w : World) (h : Dk d A c S w) :
    Calls Try.prog 23 #[.pointer (some ⟨d, 0, none⟩), .string nm, .string s] w (DPost d (appendD S nm s).1 (.int .i64 (appendD S nm s).2) w) := by
  by_cases hbad : S.on = false ∨ namedD nm = false ∨ S.room - (used S.fs : Int) < (s.size : Int) ∨ (has S.fs nm = false ∧ 64 ≤ S.fs.length)
  · refine (disk_Append_bad d A c S hS nm s hnm hs hbad w h).mono ?_
    rintro e w' ⟨rfl, h1, h2⟩
    exact ⟨rfl, A, c, by rw [h1]; exact h.kept h2, DKeep.of_below h2 (Nat.le_of_lt h.lt)⟩
  · have hon : S.on = true := by cases hx : S.on with
      | true => rfl
      | false => exact absurd (.inl hx) hbad
    have hn : namedD nm = true := by cases hx : namedD nm with
      | true => rfl
      | false => exact absurd (.inr (.inl hx)) hbad
    have hfit : ¬ S.room - (used S.fs : Int) < (s.size : Int) := fun hx => hbad (.inr (.inr (.inl hx)))
    have he : appendD S nm s = begun { S with fs := putF S.fs nm s } := by
      unfold appendD
      rw [if_neg (by simp [hon]), if_neg (by simp [hn]), if_neg (fun hx => hbad (.inr (.inr hx)))]
    rw [he]
    cases hh : has S.fs nm with
    | true => exact disk_Append_has d A c S hS nm s hnm hs hon hn hfit hh w h
    | false =>
      have h64 : S.fs.length < 64 := by
        have : ¬ 64 ≤ S.fs.length := fun hx => hbad (.inr (.inr (.inr ⟨hh, hx⟩)))
        omega
      exact disk_Append_new d A c S hS nm s hnm hs hon hn hfit hh h64 w h
/-- an act in memory, as a value -/
def acV (x : Ac) : Value := .agg #[.int .i64 x.kind, .string x.nm, .string x.to_, .string x.s, .int .i64 x.n, .slice x.Ak x.ks.length x.ck]

theorem law07_do (d : Nat) (A : Option Addr) (c : Nat) (S : DS) (hS : OkD S) (hmade : S.made = true) (x : Ac) (hx : x.Ok) (hsm : smallA x) (w : World) (h : Dk d A c S w) (hks : Rd w d x.Ak (x.ks.map (Value.int .i64))) :
    Calls Try.prog 9 #[.pointer (some ⟨d, 0, none⟩), .agg #[.int .i64 x.kind, .string x.nm, .string x.to_, .string x.s, .int .i64 x.n, .slice x.Ak x.ks.length x.ck]] w (DPost d (actD S x).1 (.int .i64 (actD S x).2) w) := by
  obtain ⟨kind, nm, to_, s, n, Ak, ck, ks⟩ := x
  obtain ⟨hs1, hs2, hs3, hs4⟩ := hsm
  have hck := hx.ks
  have hkn := hx.kind
  have hnn := hx.n
  simp only at hs1 hs2 hs3 hs4 hck hks hkn hnn ⊢
  obtain ⟨w2, hw2⟩ : ∃ w2, w2 = w.alloc (.cells #[.int .i64 kind, .string nm, .string to_, .string s, .int .i64 n, .slice Ak ks.length ck] 35) := ⟨_, rfl⟩
  have b2 : Below w.heap.size w w2 := by rw [hw2]; exact alloc_kept w _
  have k2 : DKeep d w w2 := DKeep.of_below b2 (Nat.le_of_lt h.lt)
  have h2 := h.kept b2
  have fin : ∀ (T : DS) (v : Value) (e : Ending) (w3 : World), DPost d T v w2 e w3 → e = .returned v ∧ ∃ A c, Dk d A c T w3 ∧ DKeep d w w3 := by
    rintro T v e w3 ⟨rfl, A', c', q1, q2⟩
    exact ⟨rfl, A', c', q1, k2.trans q2⟩
  have HA := Lib.hid (disk_Append d A c S hS nm s (by omega) (by omega) w2 h2)
  have HS := Lib.hid (disk_Sync d A c S hS nm w2 h2)
  have HR := Lib.hid (disk_Rename d A c S hS nm to_ (by omega) w2 h2)
  have HD := Lib.hid (disk_Remove d A c S hS nm w2 h2)
  have HC := Lib.hid (disk_Cut d A c S hS nm n w2 h2)
  have HF := Lib.hid (disk_Fuse d A c S n w2 h2)
  have HX := Lib.hid (disk_Crash d A c S w2 h2)
  have HU := Lib.hid (disk_Up d A c S hS hmade Ak ck ks hck (by omega) w2 h2 (fun W hW => (hks.below (k2.trans hW).below).more (by have := k2.below.size; have := hW.below.size; have := h.lt; omega)))
  have FIN := Lib.hid fin
  clear h2 k2 b2 hks fin
  unfold actD
  simp only
  by_cases e1 : kind = 1
  · subst e1
    rw [if_pos rfl]
    go_enter Try.func9, Try.ntmps9
    go_wp2_with (go_at_call 23; rw [← hw2]; (with_reducible refine (HA.out).mono ?_); rintro e w3 hp; obtain ⟨rfl, A3, c3, d3, k3⟩ := FIN.out _ _ _ _ hp)
    go_ret
    exact ⟨rfl, A3, c3, d3, k3⟩
  rw [if_neg e1]
  by_cases e2 : kind = 2
  · subst e2
    rw [if_pos rfl]
    go_enter Try.func9, Try.ntmps9
    go_wp2_with (go_at_call 24; rw [← hw2]; (with_reducible refine (HS.out).mono ?_); rintro e w3 hp; obtain ⟨rfl, A3, c3, d3, k3⟩ := FIN.out _ _ _ _ hp)
    go_ret
    exact ⟨rfl, A3, c3, d3, k3⟩
  rw [if_neg e2]
  by_cases e3 : kind = 3
  · subst e3
    rw [if_pos rfl]
    go_enter Try.func9, Try.ntmps9
    go_wp2_with (go_at_call 28; rw [← hw2]; (with_reducible refine (HR.out).mono ?_); rintro e w3 hp; obtain ⟨rfl, A3, c3, d3, k3⟩ := FIN.out _ _ _ _ hp)
    go_ret
    exact ⟨rfl, A3, c3, d3, k3⟩
  rw [if_neg e3]
  by_cases e4 : kind = 4
  · subst e4
    rw [if_pos rfl]
    go_enter Try.func9, Try.ntmps9
    go_wp2_with (go_at_call 26; rw [← hw2]; (with_reducible refine (HD.out).mono ?_); rintro e w3 hp; obtain ⟨rfl, A3, c3, d3, k3⟩ := FIN.out _ _ _ _ hp)
    go_ret
    exact ⟨rfl, A3, c3, d3, k3⟩
  rw [if_neg e4]
  by_cases e5 : kind = 5
  · subst e5
    rw [if_pos rfl]
    go_enter Try.func9, Try.ntmps9
    go_wp2_with (go_at_call 29; rw [← hw2]; (with_reducible refine (HC.out).mono ?_); rintro e w3 hp; obtain ⟨rfl, A3, c3, d3, k3⟩ := FIN.out _ _ _ _ hp)
    go_ret
    exact ⟨rfl, A3, c3, d3, k3⟩
  rw [if_neg e5]
  by_cases e6 : kind = 6
  · subst e6
    rw [if_pos rfl]
    go_enter Try.func9, Try.ntmps9
    go_wp2_with (go_at_call 25; rw [← hw2]; (with_reducible refine (HF.out).mono ?_); rintro e w3 hp; obtain ⟨rfl, A3, c3, d3, k3⟩ := FIN.out _ _ _ _ hp)
    go_ret
    exact ⟨rfl, A3, c3, d3, k3⟩
  rw [if_neg e6]
  by_cases e7 : kind = 7
  · subst e7
    rw [if_pos rfl]
    go_enter Try.func9, Try.ntmps9
    go_wp2_with (go_at_call 30; rw [← hw2]; (with_reducible refine (HX.out).mono ?_); rintro e w3 ⟨q1, q2, q3⟩; obtain ⟨rfl, A3, c3, d3, k3⟩ := FIN.out _ _ _ _ ⟨q1, A, c, q2, q3⟩; clear q1 q2 q3)
    go_ret
    exact ⟨rfl, A3, c3, d3, k3⟩
  rw [if_neg e7]
  by_cases e8 : kind = 8
  · subst e8
    rw [if_pos rfl]
    go_enter Try.func9, Try.ntmps9
    go_wp2_with (go_at_call 27; rw [← hw2]; (with_reducible refine (HU.out).mono ?_); rintro e w3 hp; obtain ⟨rfl, A3, c3, d3, k3⟩ := FIN.out _ _ _ _ hp)
    go_ret
    exact ⟨rfl, A3, c3, d3, k3⟩
  rw [if_neg e8]
  have hd := h.kept (alloc_kept w (.cells #[.int .i64 kind, .string nm, .string to_, .string s, .int .i64 n, .slice Ak ks.length ck] 35))
  have hk := DKeep.of_below (alloc_kept w (.cells #[.int .i64 kind, .string nm, .string to_, .string s, .int .i64 n, .slice Ak ks.length ck] 35)) (Nat.le_of_lt h.lt)
  go_enter Try.func9, Try.ntmps9
  go_wp2_with fail
  go_ret
  exact ⟨rfl, A, c, hd, hk⟩
end Go.Proofs.Ytmkaijjakcjflaa
