/- Layer 7: the disk, the document's disk and the two that are none, beside each other. -/
import Derived.Test.YtmkaijjakcjflaaSimQ
import Derived.Test.YtmkaijjakcjflaaNobody
import Derived.Test.YtmkaijjakcjflaaInv
import Derived.Test.YtmkaijjakcjflaaLaw07c
namespace Go.Proofs.Ytmkaijjakcjflaa
open Go.ChangeShapes Go.WideShapes Go.ChangeAt Go.RowKit Go.Deep DiskP

theorem tkbox {T t : TypeId} {d b : Nat} {w w' : World} {cs : Array Value} {fr : Nat × Nat} (h : TKeep T d w w') (hb : w.heap[b]? = some (.cells cs t fr)) (hd : b ≠ d) (ht : t ≠ T) : w'.heap[b]? = some (.cells cs t fr) := by
  rcases Nat.lt_or_ge b d with h1 | h1
  · exact (h.below.block b h1).trans hb
  · exact (h.others b (by omega) (bx_lt hb) (fun cs' z e => by rw [hb] at e; simp at e; exact ht e.2.1)).trans hb
theorem rkeep_box {t : TypeId} {d b : Nat} {w w' : World} {cs : Array Value} {fr : Nat × Nat} (h : RKeep d none w w') (hb : w.heap[b]? = some (.cells cs t fr)) (hd : b ≠ d) : w'.heap[b]? = some (.cells cs t fr) := by
  rcases Nat.lt_or_ge b d with h1 | h1
  · exact (h.below.block b h1).trans hb
  · exact (h.others b (by omega) (bx_lt hb) (by simp)).trans hb
theorem Dk.rkept {d x c c2 : Nat} {A A2 : Option Addr} {S X : DS} {w w' : World} (h : Dk d A c S w) (hx : Rk x A2 c2 X w) (hk : TKeep 54 x w w') (hd : d < x) : Dk d A c S w' := by
  refine ⟨tkbox hk h.box (by omega) (by decide), own_at h.row fun g hg => ?_⟩
  obtain ⟨cur, hc⟩ := own_type h.row hg
  refine (tkbox hk hc (fun e => ?_) (by decide)).trans hc.symm
  subst e
  have := hx.box
  rw [hc] at this
  simp at this
theorem Rk.dkept {d x c : Nat} {A : Option Addr} {X : DS} {w w' : World} (h : Rk x A c X w) (hk : DKeep d w w') (hd : d < x) : Rk x A c X w' := by
  refine ⟨dkeep_box hk h.box (by omega) (by decide), own_at h.row fun g hg => ?_⟩
  obtain ⟨cur, hc⟩ := own_type h.row hg
  have h1 := h.row.lt g hg
  exact (dkeep_box hk hc (by omega) (by decide)).trans hc.symm
theorem Dk.zkept {d z c c2 : Nat} {A A2 : Option Addr} {S Z : DS} {w w' : World} (h : Dk d A c S w) (hz : Dk z A2 c2 Z w) (hk : RKeep z none w w') (hd : d ≠ z) : Dk d A c S w' := by
  refine ⟨rkeep_box hk h.box hd, own_at h.row fun g hg => ?_⟩
  obtain ⟨cur, hc⟩ := own_type h.row hg
  refine (rkeep_box hk hc (fun e => ?_)).trans hc.symm
  subst e
  have := hz.box
  rw [hc] at this
  simp at this
theorem Rk.zkept {x z c c2 : Nat} {A A2 : Option Addr} {X Z : DS} {w w' : World} (h : Rk x A c X w) (hz : Dk z A2 c2 Z w) (hk : RKeep z none w w') (hd : x ≠ z) : Rk x A c X w' := by
  refine ⟨rkeep_box hk h.box hd, own_at h.row fun g hg => ?_⟩
  obtain ⟨cur, hc⟩ := own_type h.row hg
  refine (rkeep_box hk hc (fun e => ?_)).trans hc.symm
  subst e
  have := hz.box
  rw [hc] at this
  simp at this
/-- all four disks, and the slice of the last two -/
structure Play (d x z nb : Nat) (S X : DS) (w : World) : Prop where
  dk : ∃ A c, Dk d A c S w
  rk : ∃ A c, Rk x A c X w
  zk : ∃ f, (-1 ≤ f ∧ f ≤ 9223372036854775807) ∧ Dk z none 0 (zd f) w
  nb : w.heap[nb]? = some (.cells #[.pointer none, .pointer (some ⟨z, 0, none⟩)] 25 (0, 0))
section
variable {d x z nb : Nat} {S X : DS} {w w' : World}
theorem zd_row (f : Int) (w : World) : w.ownsRow (z + 1) 67 3 (.slice none (zd f).fs.length 0) (zd f).fs.length ((zd f).fs.flatMap fC) := World.ownsRow_nil _ _ _ _
theorem Play.below (h : Play d x z nb S X w) (hb : Below w.heap.size w w') : Play d x z nb S X w' := by
  obtain ⟨⟨A, c, h1⟩, ⟨A2, c2, h2⟩, ⟨f, hf, h3⟩, h4⟩ := h
  exact ⟨⟨A, c, h1.kept hb⟩, ⟨A2, c2, h2.kept hb⟩, ⟨f, hf, h3.kept hb⟩, bx_kept h4 hb⟩
theorem Play.dstep {S' : DS} (h : Play d x z nb S X w) (hk : DKeep d w w') (hd : ∃ A c, Dk d A c S' w') (hdx : d < x) (hxz : x < z) (hzn : z < nb) : Play d x z nb S' X w' := by
  obtain ⟨_, ⟨A2, c2, h2⟩, ⟨f, hf, h3⟩, h4⟩ := h
  exact ⟨hd, ⟨A2, c2, h2.dkept hk hdx⟩, ⟨f, hf, ⟨dkeep_box hk h3.box (by omega) (by decide), zd_row f w'⟩⟩, dkeep_box hk h4 (by omega) (by decide)⟩
theorem Play.rstep {X' : DS} (h : Play d x z nb S X w) (hk : TKeep 54 x w w') (hx : ∃ A c, Rk x A c X' w') (hdx : d < x) (hxz : x < z) (hzn : z < nb) : Play d x z nb S X' w' := by
  obtain ⟨⟨A, c, h1⟩, ⟨A2, c2, h2⟩, ⟨f, hf, h3⟩, h4⟩ := h
  exact ⟨⟨A, c, h1.rkept h2 hk hdx⟩, hx, ⟨f, hf, ⟨tkbox hk h3.box (by omega) (by decide), zd_row f w'⟩⟩, tkbox hk h4 (by omega) (by decide)⟩
theorem Play.zstep (h : Play d x z nb S X w) (hk : RKeep z none w w') (hz : ∃ f, (-1 ≤ f ∧ f ≤ 9223372036854775807) ∧ Dk z none 0 (zd f) w') (hdx : d < x) (hxz : x < z) (hzn : z < nb) : Play d x z nb S X w' := by
  obtain ⟨⟨A, c, h1⟩, ⟨A2, c2, h2⟩, ⟨f, hf, h3⟩, h4⟩ := h
  exact ⟨⟨A, c, h1.zkept h3 hk (by omega)⟩, ⟨A2, c2, h2.zkept h3 hk (by omega)⟩, hz, rkeep_box hk h4 (by omega)⟩
end
section
variable (z : Nat) (w : World) (h : ∃ f, (-1 ≤ f ∧ f ≤ 9223372036854775807) ∧ Dk z none 0 (zd f) w)
include h
theorem zk_Read' (nm : ByteArray) : Calls Try.prog 12 #[.pointer (some ⟨z, 0, none⟩), .string nm] w fun e w' => e = .returned (.tuple #[.string ⟨#[]⟩, .int .i64 9]) ∧ Below w.heap.size w w' := by
  obtain ⟨f, hf, hd⟩ := h
  exact disk_Read z none 0 (zd f) nm (by simp [zd, Sorted]) (by simp [zd]) w hd
theorem zk_On : Calls Try.prog 11 #[.pointer (some ⟨z, 0, none⟩)] w fun e w' => e = .returned (.bool false) ∧ w = w' := by
  obtain ⟨f, hf, hd⟩ := h
  exact zd_On z f w hd
theorem zk_Used : Calls Try.prog 16 #[.pointer (some ⟨z, 0, none⟩)] w fun e w' => e = .returned (.int .i64 0) ∧ Below w.heap.size w w' := by
  obtain ⟨f, hf, hd⟩ := h
  exact disk_Used z none 0 (zd f) (by simp [zd]) (by simp [zd, used]) w hd
theorem zk_Names : Calls Try.prog 19 #[.pointer (some ⟨z, 0, none⟩)] w fun e w' => e = .returned (.slice none 0 0) ∧ Below w.heap.size w w' := by
  obtain ⟨f, hf, hd⟩ := h
  exact zd_Names z f w hd
theorem zk_Ops : Calls Try.prog 15 #[.pointer (some ⟨z, 0, none⟩)] w fun e w' => e = .returned (.int .i64 0) ∧ w = w' := by
  obtain ⟨f, hf, hd⟩ := h
  exact disk_Ops z none 0 (zd f) w hd
theorem zk_Sure' (nm : ByteArray) : Calls Try.prog 22 #[.pointer (some ⟨z, 0, none⟩), .string nm] w fun e w' => e = .returned (.int .i64 0) ∧ Below w.heap.size w w' := by
  obtain ⟨f, hf, hd⟩ := h
  exact disk_Sure z none 0 (zd f) nm (by simp [zd, Sorted]) (by simp [zd]) w hd
theorem zk_do' (a : Ac) (ha : a.Ok) : Calls Try.prog 9 #[.pointer (some ⟨z, 0, none⟩), .agg #[.int .i64 a.kind, .string a.nm, .string a.to_, .string a.s, .int .i64 a.n, .slice a.Ak a.ks.length a.ck]] w (ZPost z (.int .i64 (noAns a.kind)) w) := by
  obtain ⟨f, hf, hd⟩ := h
  exact zd_do z f hf a ha w hd
end
theorem Sim.is {S X : DS} (h : Sim S X) : X = { S with fs := X.fs } := by
  obtain ⟨f, r, m, o, u, p⟩ := X
  obtain ⟨h1, h2, h3, h4, h5, _⟩ := h
  simp only at h1 h2 h3 h4 h5
  subst h1 h2 h3 h4 h5
  rfl
end Go.Proofs.Ytmkaijjakcjflaa
