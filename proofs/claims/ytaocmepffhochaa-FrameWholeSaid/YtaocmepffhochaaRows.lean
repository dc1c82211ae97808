/-
  No cell of these rows narrows 'for every input' (looked for: loops, veiled, ifaces, maps, wideKeys, modest, calm, conditions, laid).
  DERIVED. THE GIVEN ROWS OF THIS SEAT. 11 by the template 'for every input the law returns true; each argument reads behind the call as it read before'; 0 by the template 'total and deterministic' (their statements: YtaocmepffhochaaTotals.lean).
  GIVEN WITH THE SEED: the statements are not yours to turn. If you find one false, say at which input.
  Laid BY PROGRAM, IN A SANDBOX (cutbox-rows.mjs): the forced cells as the released guide's own fill.sh prints them over the translation 1b6a2f66cff1887c… (all of the seat's roots in one cut). By AI agents, Wed Nov 11 2026. No macro, syntax, notation, axiom, sorry.
-/
import Derived.Test.YtaocmepffhochaaChecked
import GoSem.Claim
import GoSem.ClaimJoined
import GoSem.ClaimMapViews
import Derived.JoinedTies
import Derived.KernelRfl
namespace Go.Proofs.Ytaocmepffhochaa
/- THE CELL 'sum', in the pinned program and in every row, IS THE sha256 OF THE DUMP (.gsa) THAT YtaocmepffhochaaProg.lean LOADS. Nothing in Lean hashes anything: it is a label: what it is worth is what the hold of that sum in a sandbox is worth. -/
noncomputable def Try.pinned : Pinned := { name := "ytaocmepffhochaa", sum := "1b6a2f66cff1887c476094dbcb1c0bc709ad96d9d99fc069d39d6a8f85b228c3", checked := Try.checked }
namespace Rows
def none {H : Type} : Left H := { results := [], args := [] }

/-- 'gossamerlaw02.CrcIs': WHATEVER THE INPUT: true; the input reads as it did. -/
def crcIsSpec : ChangeSpec := { name := "crcIs", fn := fun _ => fun
  | [d1, d2] => { results := [.lit (.bool true)], args := [d1, d2] }
  | _ => none }
def crcIsRow : OpenClaim := { program := "ytaocmepffhochaa", sum := "1b6a2f66cff1887c476094dbcb1c0bc709ad96d9d99fc069d39d6a8f85b228c3", func := "gossamer/gossamerlaw02.CrcIs", spec := "crcIs", apart := false }
def CrcIsSaid : Prop := crcIsRow.holds Try.pinned (OpenSpec.ofChange crcIsSpec)

/-- ITS FALSE NEIGHBOUR: 'it returns false'. Refute it at one input. -/
def crcIsWrong : ChangeSpec := { name := "crcIs", fn := fun _ => fun
  | [d1, d2] => { results := [.lit (.bool false)], args := [d1, d2] }
  | _ => none }
def CrcIsWrongFalsely : Prop := crcIsRow.holds Try.pinned (OpenSpec.ofChange crcIsWrong)

/-- 'gossamerlaw02.CrcParts': WHATEVER THE INPUT: true; the input reads as it did. -/
def crcPartsSpec : ChangeSpec := { name := "crcParts", fn := fun _ => fun
  | [d1, d2, d3] => { results := [.lit (.bool true)], args := [d1, d2, d3] }
  | _ => none }
def crcPartsRow : OpenClaim := { program := "ytaocmepffhochaa", sum := "1b6a2f66cff1887c476094dbcb1c0bc709ad96d9d99fc069d39d6a8f85b228c3", func := "gossamer/gossamerlaw02.CrcParts", spec := "crcParts", apart := false }
def CrcPartsSaid : Prop := crcPartsRow.holds Try.pinned (OpenSpec.ofChange crcPartsSpec)

/-- ITS FALSE NEIGHBOUR: 'it returns false'. Refute it at one input. -/
def crcPartsWrong : ChangeSpec := { name := "crcParts", fn := fun _ => fun
  | [d1, d2, d3] => { results := [.lit (.bool false)], args := [d1, d2, d3] }
  | _ => none }
def CrcPartsWrongFalsely : Prop := crcPartsRow.holds Try.pinned (OpenSpec.ofChange crcPartsWrong)

/-- 'gossamerlaw02.CrcFinds': WHATEVER THE INPUT: true; the input reads as it did. -/
def crcFindsSpec : ChangeSpec := { name := "crcFinds", fn := fun _ => fun
  | [d1, d2, d3] => { results := [.lit (.bool true)], args := [d1, d2, d3] }
  | _ => none }
def crcFindsRow : OpenClaim := { program := "ytaocmepffhochaa", sum := "1b6a2f66cff1887c476094dbcb1c0bc709ad96d9d99fc069d39d6a8f85b228c3", func := "gossamer/gossamerlaw02.CrcFinds", spec := "crcFinds", apart := false }
def CrcFindsSaid : Prop := crcFindsRow.holds Try.pinned (OpenSpec.ofChange crcFindsSpec)

/-- ITS FALSE NEIGHBOUR: 'it returns false'. Refute it at one input. -/
def crcFindsWrong : ChangeSpec := { name := "crcFinds", fn := fun _ => fun
  | [d1, d2, d3] => { results := [.lit (.bool false)], args := [d1, d2, d3] }
  | _ => none }
def CrcFindsWrongFalsely : Prop := crcFindsRow.holds Try.pinned (OpenSpec.ofChange crcFindsWrong)

/-- 'gossamerlaw01.VariIs': WHATEVER THE INPUT: true; the input reads as it did. -/
def variIsSpec : ChangeSpec := { name := "variIs", fn := fun _ => fun
  | [d1, d2] => { results := [.lit (.bool true)], args := [d1, d2] }
  | _ => none }
def variIsRow : OpenClaim := { program := "ytaocmepffhochaa", sum := "1b6a2f66cff1887c476094dbcb1c0bc709ad96d9d99fc069d39d6a8f85b228c3", func := "gossamer/gossamerlaw01.VariIs", spec := "variIs", apart := false }
def VariIsSaid : Prop := variIsRow.holds Try.pinned (OpenSpec.ofChange variIsSpec)

/-- ITS FALSE NEIGHBOUR: 'it returns false'. Refute it at one input. -/
def variIsWrong : ChangeSpec := { name := "variIs", fn := fun _ => fun
  | [d1, d2] => { results := [.lit (.bool false)], args := [d1, d2] }
  | _ => none }
def VariIsWrongFalsely : Prop := variIsRow.holds Try.pinned (OpenSpec.ofChange variIsWrong)

/-- 'gossamerlaw01.VariBack': WHATEVER THE INPUT: true; the input reads as it did. -/
def variBackSpec : ChangeSpec := { name := "variBack", fn := fun _ => fun
  | [d1, d2] => { results := [.lit (.bool true)], args := [d1, d2] }
  | _ => none }
def variBackRow : OpenClaim := { program := "ytaocmepffhochaa", sum := "1b6a2f66cff1887c476094dbcb1c0bc709ad96d9d99fc069d39d6a8f85b228c3", func := "gossamer/gossamerlaw01.VariBack", spec := "variBack", apart := false }
def VariBackSaid : Prop := variBackRow.holds Try.pinned (OpenSpec.ofChange variBackSpec)

/-- ITS FALSE NEIGHBOUR: 'it returns false'. Refute it at one input. -/
def variBackWrong : ChangeSpec := { name := "variBack", fn := fun _ => fun
  | [d1, d2] => { results := [.lit (.bool false)], args := [d1, d2] }
  | _ => none }
def VariBackWrongFalsely : Prop := variBackRow.holds Try.pinned (OpenSpec.ofChange variBackWrong)

/-- 'gossamerlaw01.VariOrder': WHATEVER THE INPUT: true; the input reads as it did. -/
def variOrderSpec : ChangeSpec := { name := "variOrder", fn := fun _ => fun
  | [d] => { results := [.lit (.bool true)], args := [d] }
  | _ => none }
def variOrderRow : OpenClaim := { program := "ytaocmepffhochaa", sum := "1b6a2f66cff1887c476094dbcb1c0bc709ad96d9d99fc069d39d6a8f85b228c3", func := "gossamer/gossamerlaw01.VariOrder", spec := "variOrder", apart := false }
def VariOrderSaid : Prop := variOrderRow.holds Try.pinned (OpenSpec.ofChange variOrderSpec)

/-- ITS FALSE NEIGHBOUR: 'it returns false'. Refute it at one input. -/
def variOrderWrong : ChangeSpec := { name := "variOrder", fn := fun _ => fun
  | [d] => { results := [.lit (.bool false)], args := [d] }
  | _ => none }
def VariOrderWrongFalsely : Prop := variOrderRow.holds Try.pinned (OpenSpec.ofChange variOrderWrong)

/-- 'gossamerlaw06.FrameIs': WHATEVER THE INPUT: true; the input reads as it did. -/
def frameIsSpec : ChangeSpec := { name := "frameIs", fn := fun _ => fun
  | [d1, d2, d3] => { results := [.lit (.bool true)], args := [d1, d2, d3] }
  | _ => none }
def frameIsRow : OpenClaim := { program := "ytaocmepffhochaa", sum := "1b6a2f66cff1887c476094dbcb1c0bc709ad96d9d99fc069d39d6a8f85b228c3", func := "gossamer/gossamerlaw06.FrameIs", spec := "frameIs", unfollowed := true, recurses := true, apart := false }
def FrameIsSaid : Prop := frameIsRow.holds Try.pinned (OpenSpec.ofChange frameIsSpec)

/-- ITS FALSE NEIGHBOUR: 'it returns false'. Refute it at one input. -/
def frameIsWrong : ChangeSpec := { name := "frameIs", fn := fun _ => fun
  | [d1, d2, d3] => { results := [.lit (.bool false)], args := [d1, d2, d3] }
  | _ => none }
def FrameIsWrongFalsely : Prop := frameIsRow.holds Try.pinned (OpenSpec.ofChange frameIsWrong)

/-- 'gossamerlaw06.FrameEach': WHATEVER THE INPUT: true; the input reads as it did. -/
def frameEachSpec : ChangeSpec := { name := "frameEach", fn := fun _ => fun
  | [d1, d2] => { results := [.lit (.bool true)], args := [d1, d2] }
  | _ => none }
def frameEachRow : OpenClaim := { program := "ytaocmepffhochaa", sum := "1b6a2f66cff1887c476094dbcb1c0bc709ad96d9d99fc069d39d6a8f85b228c3", func := "gossamer/gossamerlaw06.FrameEach", spec := "frameEach", unfollowed := true, recurses := true, apart := false }
def FrameEachSaid : Prop := frameEachRow.holds Try.pinned (OpenSpec.ofChange frameEachSpec)

/-- ITS FALSE NEIGHBOUR: 'it returns false'. Refute it at one input. -/
def frameEachWrong : ChangeSpec := { name := "frameEach", fn := fun _ => fun
  | [d1, d2] => { results := [.lit (.bool false)], args := [d1, d2] }
  | _ => none }
def FrameEachWrongFalsely : Prop := frameEachRow.holds Try.pinned (OpenSpec.ofChange frameEachWrong)

/-- 'gossamerlaw06.FrameTorn': WHATEVER THE INPUT: true; the input reads as it did. -/
def frameTornSpec : ChangeSpec := { name := "frameTorn", fn := fun _ => fun
  | [d1, d2, d3] => { results := [.lit (.bool true)], args := [d1, d2, d3] }
  | _ => none }
def frameTornRow : OpenClaim := { program := "ytaocmepffhochaa", sum := "1b6a2f66cff1887c476094dbcb1c0bc709ad96d9d99fc069d39d6a8f85b228c3", func := "gossamer/gossamerlaw06.FrameTorn", spec := "frameTorn", unfollowed := true, recurses := true, apart := false }
def FrameTornSaid : Prop := frameTornRow.holds Try.pinned (OpenSpec.ofChange frameTornSpec)

/-- ITS FALSE NEIGHBOUR: 'it returns false'. Refute it at one input. -/
def frameTornWrong : ChangeSpec := { name := "frameTorn", fn := fun _ => fun
  | [d1, d2, d3] => { results := [.lit (.bool false)], args := [d1, d2, d3] }
  | _ => none }
def FrameTornWrongFalsely : Prop := frameTornRow.holds Try.pinned (OpenSpec.ofChange frameTornWrong)

/-- 'gossamerlaw06.FrameFinds': WHATEVER THE INPUT: true; the input reads as it did. -/
def frameFindsSpec : ChangeSpec := { name := "frameFinds", fn := fun _ => fun
  | [d1, d2, d3] => { results := [.lit (.bool true)], args := [d1, d2, d3] }
  | _ => none }
def frameFindsRow : OpenClaim := { program := "ytaocmepffhochaa", sum := "1b6a2f66cff1887c476094dbcb1c0bc709ad96d9d99fc069d39d6a8f85b228c3", func := "gossamer/gossamerlaw06.FrameFinds", spec := "frameFinds", unfollowed := true, recurses := true, apart := false }
def FrameFindsSaid : Prop := frameFindsRow.holds Try.pinned (OpenSpec.ofChange frameFindsSpec)

/-- ITS FALSE NEIGHBOUR: 'it returns false'. Refute it at one input. -/
def frameFindsWrong : ChangeSpec := { name := "frameFinds", fn := fun _ => fun
  | [d1, d2, d3] => { results := [.lit (.bool false)], args := [d1, d2, d3] }
  | _ => none }
def FrameFindsWrongFalsely : Prop := frameFindsRow.holds Try.pinned (OpenSpec.ofChange frameFindsWrong)

/-- 'gossamerlaw06.FrameWhole': WHATEVER THE INPUT: true; the input reads as it did. -/
def frameWholeSpec : ChangeSpec := { name := "frameWhole", fn := fun _ => fun
  | [d1, d2] => { results := [.lit (.bool true)], args := [d1, d2] }
  | _ => none }
def frameWholeRow : OpenClaim := { program := "ytaocmepffhochaa", sum := "1b6a2f66cff1887c476094dbcb1c0bc709ad96d9d99fc069d39d6a8f85b228c3", func := "gossamer/gossamerlaw06.FrameWhole", spec := "frameWhole", unfollowed := true, recurses := true, apart := false }
def FrameWholeSaid : Prop := frameWholeRow.holds Try.pinned (OpenSpec.ofChange frameWholeSpec)

/-- ITS FALSE NEIGHBOUR: 'it returns false'. Refute it at one input. -/
def frameWholeWrong : ChangeSpec := { name := "frameWhole", fn := fun _ => fun
  | [d1, d2] => { results := [.lit (.bool false)], args := [d1, d2] }
  | _ => none }
def FrameWholeWrongFalsely : Prop := frameWholeRow.holds Try.pinned (OpenSpec.ofChange frameWholeWrong)

/- THE SECOND FORM. 'bulk': how many values and letters a reading holds, each counted each time it is reached (what is shared counts as often as it is met; a slice's spare places count too). A statement '..UptoSaid' is the law's where the arguments, and the package variables that the reading takes, are together of bulk at most 1048576: NARROWER than '..Said'. Prove '..Said' where nothing that the law and all that it calls make is longer than what came in: it says more and counts as full. Else prove '..UptoSaid'. A law counts once. -/
mutual
def uptoBulk {H : Type} : DataW H → Nat
  | .lit (.string bytes) => bytes.length + 1
  | .lit _ => 1
  | .nil => 1
  | .ptr d => uptoBulk d + 1
  | .slice elems spare => uptoBulkAll elems + uptoBulkAll spare + 1
  | .agg parts => uptoBulkAll parts + 1
  | .iface _ d => uptoBulk d + 1
  | .map entries => uptoBulkEntries entries + 1
  | .held _ => 1
def uptoBulkAll {H : Type} : List (DataW H) → Nat
  | [] => 0
  | d :: r => uptoBulk d + uptoBulkAll r
def uptoBulkEntries {H : Type} : List (Lit × DataW H) → Nat
  | [] => 0
  | x :: r => uptoBulkEntry x + uptoBulkEntries r
def uptoBulkEntry {H : Type} : Lit × DataW H → Nat
  | (.string bytes, d) => bytes.length + uptoBulk d + 1
  | (_, d) => uptoBulk d + 1
 end
def uptoSmall : (H : Type) → List (DataW H) → Bool := fun _ ds => decide (uptoBulkAll ds ≤ 1048576)
def OpenSpec.upto (s : _root_.Go.ChangeSpec) : _root_.Go.OpenSpec := { _root_.Go.OpenSpec.ofChange s with cond := some uptoSmall }

/-- 'gossamerlaw02.CrcIs', WHERE WHAT IT READS IS OF BULK AT MOST 1048576: true; the input reads as it did. -/
def crcIsUptoRow : OpenClaim := { program := "ytaocmepffhochaa", sum := "1b6a2f66cff1887c476094dbcb1c0bc709ad96d9d99fc069d39d6a8f85b228c3", func := "gossamer/gossamerlaw02.CrcIs", spec := "crcIs", apart := false, narrowed := true }
def CrcIsUptoSaid : Prop := crcIsUptoRow.holds Try.pinned (OpenSpec.upto crcIsSpec)

/-- 'gossamerlaw02.CrcParts', WHERE WHAT IT READS IS OF BULK AT MOST 1048576: true; the input reads as it did. -/
def crcPartsUptoRow : OpenClaim := { program := "ytaocmepffhochaa", sum := "1b6a2f66cff1887c476094dbcb1c0bc709ad96d9d99fc069d39d6a8f85b228c3", func := "gossamer/gossamerlaw02.CrcParts", spec := "crcParts", apart := false, narrowed := true }
def CrcPartsUptoSaid : Prop := crcPartsUptoRow.holds Try.pinned (OpenSpec.upto crcPartsSpec)

/-- 'gossamerlaw02.CrcFinds', WHERE WHAT IT READS IS OF BULK AT MOST 1048576: true; the input reads as it did. -/
def crcFindsUptoRow : OpenClaim := { program := "ytaocmepffhochaa", sum := "1b6a2f66cff1887c476094dbcb1c0bc709ad96d9d99fc069d39d6a8f85b228c3", func := "gossamer/gossamerlaw02.CrcFinds", spec := "crcFinds", apart := false, narrowed := true }
def CrcFindsUptoSaid : Prop := crcFindsUptoRow.holds Try.pinned (OpenSpec.upto crcFindsSpec)

/-- 'gossamerlaw01.VariIs', WHERE WHAT IT READS IS OF BULK AT MOST 1048576: true; the input reads as it did. -/
def variIsUptoRow : OpenClaim := { program := "ytaocmepffhochaa", sum := "1b6a2f66cff1887c476094dbcb1c0bc709ad96d9d99fc069d39d6a8f85b228c3", func := "gossamer/gossamerlaw01.VariIs", spec := "variIs", apart := false, narrowed := true }
def VariIsUptoSaid : Prop := variIsUptoRow.holds Try.pinned (OpenSpec.upto variIsSpec)

/-- 'gossamerlaw01.VariBack', WHERE WHAT IT READS IS OF BULK AT MOST 1048576: true; the input reads as it did. -/
def variBackUptoRow : OpenClaim := { program := "ytaocmepffhochaa", sum := "1b6a2f66cff1887c476094dbcb1c0bc709ad96d9d99fc069d39d6a8f85b228c3", func := "gossamer/gossamerlaw01.VariBack", spec := "variBack", apart := false, narrowed := true }
def VariBackUptoSaid : Prop := variBackUptoRow.holds Try.pinned (OpenSpec.upto variBackSpec)

/-- 'gossamerlaw01.VariOrder', WHERE WHAT IT READS IS OF BULK AT MOST 1048576: true; the input reads as it did. -/
def variOrderUptoRow : OpenClaim := { program := "ytaocmepffhochaa", sum := "1b6a2f66cff1887c476094dbcb1c0bc709ad96d9d99fc069d39d6a8f85b228c3", func := "gossamer/gossamerlaw01.VariOrder", spec := "variOrder", apart := false, narrowed := true }
def VariOrderUptoSaid : Prop := variOrderUptoRow.holds Try.pinned (OpenSpec.upto variOrderSpec)

/-- 'gossamerlaw06.FrameIs', WHERE WHAT IT READS IS OF BULK AT MOST 1048576: true; the input reads as it did. -/
def frameIsUptoRow : OpenClaim := { program := "ytaocmepffhochaa", sum := "1b6a2f66cff1887c476094dbcb1c0bc709ad96d9d99fc069d39d6a8f85b228c3", func := "gossamer/gossamerlaw06.FrameIs", spec := "frameIs", unfollowed := true, recurses := true, apart := false, narrowed := true }
def FrameIsUptoSaid : Prop := frameIsUptoRow.holds Try.pinned (OpenSpec.upto frameIsSpec)

/-- 'gossamerlaw06.FrameEach', WHERE WHAT IT READS IS OF BULK AT MOST 1048576: true; the input reads as it did. -/
def frameEachUptoRow : OpenClaim := { program := "ytaocmepffhochaa", sum := "1b6a2f66cff1887c476094dbcb1c0bc709ad96d9d99fc069d39d6a8f85b228c3", func := "gossamer/gossamerlaw06.FrameEach", spec := "frameEach", unfollowed := true, recurses := true, apart := false, narrowed := true }
def FrameEachUptoSaid : Prop := frameEachUptoRow.holds Try.pinned (OpenSpec.upto frameEachSpec)

/-- 'gossamerlaw06.FrameTorn', WHERE WHAT IT READS IS OF BULK AT MOST 1048576: true; the input reads as it did. -/
def frameTornUptoRow : OpenClaim := { program := "ytaocmepffhochaa", sum := "1b6a2f66cff1887c476094dbcb1c0bc709ad96d9d99fc069d39d6a8f85b228c3", func := "gossamer/gossamerlaw06.FrameTorn", spec := "frameTorn", unfollowed := true, recurses := true, apart := false, narrowed := true }
def FrameTornUptoSaid : Prop := frameTornUptoRow.holds Try.pinned (OpenSpec.upto frameTornSpec)

/-- 'gossamerlaw06.FrameFinds', WHERE WHAT IT READS IS OF BULK AT MOST 1048576: true; the input reads as it did. -/
def frameFindsUptoRow : OpenClaim := { program := "ytaocmepffhochaa", sum := "1b6a2f66cff1887c476094dbcb1c0bc709ad96d9d99fc069d39d6a8f85b228c3", func := "gossamer/gossamerlaw06.FrameFinds", spec := "frameFinds", unfollowed := true, recurses := true, apart := false, narrowed := true }
def FrameFindsUptoSaid : Prop := frameFindsUptoRow.holds Try.pinned (OpenSpec.upto frameFindsSpec)

/-- 'gossamerlaw06.FrameWhole', WHERE WHAT IT READS IS OF BULK AT MOST 1048576: true; the input reads as it did. -/
def frameWholeUptoRow : OpenClaim := { program := "ytaocmepffhochaa", sum := "1b6a2f66cff1887c476094dbcb1c0bc709ad96d9d99fc069d39d6a8f85b228c3", func := "gossamer/gossamerlaw06.FrameWhole", spec := "frameWhole", unfollowed := true, recurses := true, apart := false, narrowed := true }
def FrameWholeUptoSaid : Prop := frameWholeUptoRow.holds Try.pinned (OpenSpec.upto frameWholeSpec)

end Rows
end Go.Proofs.Ytaocmepffhochaa
