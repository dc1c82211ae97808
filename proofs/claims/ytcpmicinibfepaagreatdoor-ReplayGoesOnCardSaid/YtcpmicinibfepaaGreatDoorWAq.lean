/- Walks of layer 7 (disk): Rename. -/
import Derived.Test.YtcpmicinibfepaaGreatDoorWAp
import Derived.Deep.RegionWith
namespace Go.Proofs.YtcpmicinibfepaaGreatDoor
open Go.ChangeShapes Go.WideShapes Go.ChangeAt Go.RowKit Go.Deep DiskP


/-- the files behind a Rename -/
def renF (fs : List Fl) (from_ to_ : ByteArray) : List Fl :=
  let F2 := delF (delF fs from_) to_
  F2.take (pos F2 to_) ++ { fileF fs from_ with nm := to_ } :: F2.drop (pos F2 to_)
def renameD (S : DS) (from_ to_ : ByteArray) : DS × Int :=
  if S.on = false then (S, 9) else if has S.fs from_ = false then (S, 7) else if namedD to_ = false then (S, 1) else opD S fun fs => renF fs from_ to_
theorem own_box {w : World} {d b n c : Nat} {A : Option Addr} {xs : List Value} {cs : Array Value} {T : TypeId} (ho : w.ownsRow (d + 1) 81 3 (.slice A n c) n xs) (hb : w.heap[b]? = some (.cells cs T (0, 0))) (hT : T ≠ 81) (m k : Nat) : Value.ownBlock (.slice A m k) ≠ some b := by
  rcases ho.2 with ⟨e1, _⟩ | ⟨g, cap, cur, e1, _, hgb, _⟩
  · obtain ⟨rfl, -⟩ : A = none ∧ n = 0 ∧ c = 0 := by simpa using e1
    simp [Value.ownBlock]
  · obtain ⟨rfl, -⟩ : A = some ⟨g, 0, none⟩ ∧ c = cap := by simpa using e1
    intro e
    obtain rfl : g = b := by simpa [Value.ownBlock] using e
    rw [hgb] at hb
    simp at hb
    exact hT hb.2.symm
theorem ren_facts {d c : Nat} {A : Option Addr} {S : DS} {F1 F2 : List Fl} {W w1 w2 : World} {v0 v1 v2 : Value} {to_ : ByteArray} (_hdl : d < W.heap.size) (hws : W.heap.size ≤ w1.heap.size) (q1 : Dk d A c { S with fs := F1 } w1) (k1a : DKeep d W (w1.alloc (.cells #[v0, v1, v2] 81))) (d1 : Dk d A c { S with fs := F1 } (w1.alloc (.cells #[v0, v1, v2] 81)))
    (q2 : Dk d A c { S with fs := F2 } w2) (r2 : RKeep d (Value.ownBlock (.slice A F1.length c)) (w1.alloc (.cells #[v0, v1, v2] 81)) w2) :
    DKeep d W (w2.setCell ⟨w1.heap.size, 0, none⟩ (.string to_)) ∧ w2.heap[w1.heap.size]? = some (.cells #[v0, v1, v2] 81 (0, 0)) ∧ (w2.setCell ⟨w1.heap.size, 0, none⟩ (.string to_)).heap[w1.heap.size]? = some (.cells #[.string to_, v1, v2] 81 (0, 0)) ∧ Dk d A c { S with fs := F2 } (w2.setCell ⟨w1.heap.size, 0, none⟩ (.string to_)) := by
  have hd1 := q1.lt
  have hne : Value.ownBlock (.slice A F1.length c) ≠ some w1.heap.size := fun e => by have := (q1.row.lt _ e).2; omega
  have n3 : w2.heap[w1.heap.size]? = some (.cells #[v0, v1, v2] 81 (0, 0)) := (r2.others w1.heap.size hd1 (by rw [World.size_alloc]; omega) hne).trans (heap_alloc_new w1 _)
  refine ⟨(k1a.trans (r2.keep d1.row)).set_new hws (Nat.le_of_lt hd1) 0 _, n3, by simpa using bx_set n3 0 (.string to_), q2.set_other (b := w1.heap.size) (by omega) (by rw [own_same A _ F1.length c c]; exact hne) 0 _⟩

end Go.Proofs.YtcpmicinibfepaaGreatDoor
