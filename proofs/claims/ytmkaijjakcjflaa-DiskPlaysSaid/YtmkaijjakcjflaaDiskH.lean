/- Walks of layer 7 (disk): operate; what a store into a file leaves. -/
import Derived.Test.YtmkaijjakcjflaaDiskG
namespace Go.Proofs.Ytmkaijjakcjflaa
open Go.ChangeShapes Go.WideShapes Go.ChangeAt Go.RowKit Go.Deep DiskP

theorem dkeep_grown {w w' : World} {d n sz : Nat} {v : Value} {xs : List Value} (ho : w.ownsRow (d + 1) 67 sz v n xs) (hg : w.grownBy w' v.ownBlock) (hd : d ≤ w.heap.size) : DKeep d w w' := by
  refine ⟨(Below.refl d w).grown hg hd (fun k e => by have := (ho.lt k e).1; omega), fun b hb hs ht => hg.block b hs (fun e => ?_)⟩
  rcases ho.2 with ⟨rfl, _⟩ | ⟨g, cap, cur, rfl, _, hgb, _⟩
  · simp [Value.ownBlock] at e
  · have : b = g := by simpa [Value.ownBlock] using e
    subst this
    exact ht _ _ hgb
theorem dkeep_box {d : Nat} {w w' : World} (h : DKeep d w w') {b : Nat} {cs : Array Value} {T : TypeId} (hb : w.heap[b]? = some (.cells cs T (0, 0))) (hd : b ≠ d) (hT : T ≠ 67) : w'.heap[b]? = some (.cells cs T (0, 0)) := by
  rcases Nat.lt_or_ge b d with h1 | h1
  · exact (h.below.block b h1).trans hb
  · exact (h.others b (by omega) (bx_lt hb) (fun cs' z e => by rw [hb] at e; simp at e; exact hT e.2.1)).trans hb
theorem fC_set (l : List Fl) : ∀ (k : Nat) (f f' : Fl) (r : Nat) (u : Value), l[k]? = some f → r < 3 → fC f' = (fC f).set r u → (l.flatMap fC).set (k * 3 + r) u = (l.set k f').flatMap fC := by
  induction l with
  | nil => intro k f f' r u hk; simp at hk
  | cons y l ih =>
    intro k f f' r u hk hr hf
    cases k with
    | zero =>
      obtain rfl : y = f := by simpa using hk
      rw [List.set_cons_zero, List.flatMap_cons, List.flatMap_cons, hf, Nat.zero_mul, Nat.zero_add, List.set_append_left _ _ (by simp [fC]; omega)]
    | succ k =>
      rw [List.set_cons_succ, List.flatMap_cons, List.flatMap_cons, ← ih k f f' r u (by simpa using hk) hr hf]
      rw [List.set_append_right _ _ (by simp [fC]; omega)]
      congr 2
      simp [fC]; omega
/-- a store into one file -/
theorem Dk.set_file {d g c : Nat} {S : DS} {w : World} (h : Dk d (some ⟨g, 0, none⟩) c S w) {k : Nat} {f f' : Fl} {r : Nat} {u : Value} (hk : S.fs[k]? = some f) (hr : r < 3) (hf : fC f' = (fC f).set r u) :
    Dk d (some ⟨g, 0, none⟩) c { S with fs := S.fs.set k f' } (w.setCell ⟨g, k * 3 + r, none⟩ u) ∧ DKeep d w (w.setCell ⟨g, k * 3 + r, none⟩ u) := by
  obtain ⟨h1, h2⟩ := h.row.stored (k * 3 + r) u
  have hgd := (h.row.lt g rfl).1
  refine ⟨⟨?_, ?_⟩, dkeep_grown h.row h2 (Nat.le_of_lt h.lt)⟩
  · have := (h2.block d h.lt (by simp; omega)).trans h.box
    simpa using this
  · rw [fC_set _ k f f' r u hk hr hf] at h1
    simpa using h1
theorem row_some {w : World} {d n c : Nat} {A : Option Addr} {xs : List Value} (h : w.ownsRow (d + 1) 67 3 (.slice A n c) n xs) (hn : 0 < n) : ∃ g, A = some ⟨g, 0, none⟩ ∧ d < g ∧ g < w.heap.size := by
  rcases h.2 with ⟨e1, e2⟩ | ⟨g, cap, cur, e1, hb, hg, _⟩
  · omega
  · exact ⟨g, (by simpa using e1 : A = some ⟨g, 0, none⟩ ∧ c = cap).1, by omega, bx_lt hg⟩

set_option maxRecDepth 100000 in
theorem disk_operate (d : Nat) (A : Option Addr) (c : Nat) (S : DS) (hon : S.on = true) (hf : -1 ≤ S.fuse ∧ S.fuse ≤ 9223372036854775807) (ho : 0 ≤ S.ops ∧ S.ops ≤ 1000000000) (g : Nat) (caps : Array Value) (hent : ∀ args w, (callFunc g args).run Try.prog w = .ok (.enter g args) w) (Q : World → Prop) (w : World) (h : Dk d A c S w)
    (hcl : ∀ W, Dk d A c (blow S).1 W → DKeep d w W → (blow S).2 = false → Calls Try.prog g caps W fun e w' => e = .returned (.tuple #[]) ∧ Q w') :
    Calls Try.prog 42 #[.pointer (some ⟨d, 0, none⟩), .func (.func g) #[] caps] w fun e w' => ((blow S).2 = true ∧ e = .returned (.int .i64 9) ∧ Dk d A c (blow S).1 w' ∧ DKeep d w w') ∨ ((blow S).2 = false ∧ e = .returned (.int .i64 0) ∧ Q w') := by
  have HB := Lib.hid (disk_blows d A c S hon hf ho w h)
  have HCL := Lib.hid hcl
  clear hcl h
  cases hb : (blow S).2 with
  | true =>
    rw [hb] at HB
    go_enter Try.func42, Try.ntmps42
    go_wp2_with (go_at_call 58; refine (HB.out).mono ?_; rintro e w1 ⟨rfl, q1, q2⟩)
    go_ret
    exact .inl ⟨trivial, rfl, q1, q2⟩
  | false =>
    rw [hb] at HB
    go_enter Try.func42, Try.ntmps42
    go_wp2_with (go_at_call 58; refine (HB.out).mono ?_; rintro e w1 ⟨rfl, q1, q2⟩)
    refine (HCL.out w1 q1 q2 hb).mono ?_
    rintro e w2 ⟨rfl, q3⟩
    go_wp2
    go_ret
    exact .inr ⟨trivial, rfl, q3⟩
/-- what is appended: the files -/
def putF (fs : List Fl) (nm s : ByteArray) : List Fl := match fs[pos fs nm]? with
  | some f => if has fs nm then fs.set (pos fs nm) { f with all := f.all ++ s } else fs.take (pos fs nm) ++ ⟨nm, ⟨#[]⟩ ++ s, 0⟩ :: fs.drop (pos fs nm)
  | none => fs.take (pos fs nm) ++ ⟨nm, ⟨#[]⟩ ++ s, 0⟩ :: fs.drop (pos fs nm)
def begun (S : DS) : DS × Int := ((blow S).1, if (blow S).2 then 9 else 0)
def appendD (S : DS) (nm s : ByteArray) : DS × Int :=
  if S.on = false then (S, 9) else if namedD nm = false then (S, 1)
  else if S.room - (used S.fs : Int) < (s.size : Int) ∨ (has S.fs nm = false ∧ 64 ≤ S.fs.length) then (S, 5)
  else begun { S with fs := putF S.fs nm s }
/-- what holds of a disk that is used as it is meant -/
structure OkD (S : DS) : Prop where
  sorted : Sorted S.fs
  many : S.fs.length ≤ 64
  sure : ∀ f ∈ S.fs, f.su ≤ f.all.size
  full : (used S.fs : Int) ≤ S.room
  room : 0 ≤ S.room ∧ S.room ≤ 9223372036854775807
  size : used S.fs ≤ 100000000
  fuse : -1 ≤ S.fuse ∧ S.fuse ≤ 9223372036854775807
  ops : 0 ≤ S.ops ∧ S.ops ≤ 1000000000
end Go.Proofs.Ytmkaijjakcjflaa
