/- Walks of layer 5 (pack): texts and flags read; a reader that is nil · Walks of layer 5's reference: what its reader reads · Walks of layer 5: flags, ends, parts written and read. -/
import Derived.Test.YtabccphcoojbjaaDoorQAo
import Derived.Lib.SlicesS
import Derived.Test.YtabccphcoojbjaaDoorQAm
namespace Go.Proofs.YtabccphcoojbjaaDoor
open Go.ChangeShapes Go.WideShapes Go.ChangeAt Go.RowKit Go.Deep


theorem pack_New (s : ByteArray) (w : World) :
    Calls Tryd.prog 34 #[.string s] w fun e w' => e = .returned (.pointer (some ⟨w.heap.size, 0, none⟩)) ∧ Rdr 88 w.heap.size (s.data.toList, 0) w' ∧ w.grownBy w' none := by
  have h := Rdr.new 88 s w
  go_enter Tryd.func34, Tryd.ntmps34
  go_wp2_with fail
  go_ret
  exact ⟨rfl, h, World.grownBy_alloc _ _ _⟩
theorem pack_fail (b : Nat) (l : List UInt8) (e : Int) (w : World) (h : Rdr 88 b (l, 0) w) (w0 : World) (hg : w0.grownBy w (some b)) :
    Calls Tryd.prog 69 #[.pointer (some ⟨b, 0, none⟩), .int .i64 e] w fun x w' => x = .returned (.tuple #[]) ∧ Rdr 88 b (l, e) w' ∧ w0.grownBy w' (some b) :=
  (pack_fail0 b l e w h).mono fun _ _ ⟨h1, h2, h3⟩ => ⟨h1, h2, grown_trans hg h3⟩
theorem rd_back {T : TypeId} {b : Nat} {l D : List UInt8} {e : Int} {w w1 : World} (h : Rdr T b (D, e) w1) (hg : w.grownBy w1 (some b)) : Rdr T b (l, e) (w1.setCell ⟨b, 0, none⟩ (.string ⟨l.toArray⟩)) ∧ w.grownBy (w1.setCell ⟨b, 0, none⟩ (.string ⟨l.toArray⟩)) (some b) :=
  ⟨h.set0 l, grown_trans hg (grown_set _ _ _ _)⟩
end Go.Proofs.YtabccphcoojbjaaDoor

namespace Go.Proofs.YtabccphcoojbjaaDoor
open Go.ChangeShapes Go.WideShapes Go.ChangeAt Go.RowKit Go.Deep
end Go.Proofs.YtabccphcoojbjaaDoor

namespace Go.Proofs.YtabccphcoojbjaaDoor
open Go.ChangeShapes Go.WideShapes Go.ChangeAt Go.RowKit Go.Deep

/-- a part's value -/
def ptV (p : PackP.Part) : Value := .agg #[.int .i64 p.kind, .int .i64 p.n, .string ⟨p.s.toArray⟩]
def PtOk (p : PackP.Part) : Prop := I64 p.kind ∧ I64 p.n ∧ p.s.length ≤ 300
/-! the law's own writing and reading of parts -/
theorem WrPost.behind {b : Nat} {l : List UInt8} {v : Value} {w : World} {e : Ending} {w' : World} (o : Obj) (hlt : b < w.heap.size) (h : WrPost b l v (w.alloc o) e w') : WrPost b l v w e w' :=
  WrPost.after hlt ((Below.refl _ w).alloc (Nat.le_refl _) o) h
end Go.Proofs.YtabccphcoojbjaaDoor
