/-
  No cell of these rows narrows 'for every input' (looked for: loops, veiled, ifaces, maps, wideKeys, modest, calm, conditions, laid).
  DERIVED. THE GIVEN ROWS OF THIS SEAT. 12 by the template 'for every input the law returns true; each argument reads behind the call as it read before'; 0 by the template 'total and deterministic' (their statements: YtkhnmdmpkedifaaTotals.lean).
  GIVEN WITH THE SEED: the statements are not yours to turn. If you find one false, say at which input.
  Laid BY PROGRAM, IN A SANDBOX (cutbox-rows.mjs): the forced cells as the released guide's own fill.sh prints them over the translation d40d8dc63ed5c473… (all of the seat's roots in one cut). By AI agents, Wed Nov 11 2026. No macro, syntax, notation, axiom, sorry.
-/
import Derived.Test.YtkhnmdmpkedifaaChecked
import GoSem.Claim
import GoSem.ClaimJoined
import GoSem.ClaimMapViews
import Derived.JoinedTies
import Derived.KernelRfl
namespace Go.Proofs.Ytkhnmdmpkedifaa
/- THE CELL 'sum', in the pinned program and in every row, IS THE sha256 OF THE DUMP (.gsa) THAT YtkhnmdmpkedifaaProg.lean LOADS. Nothing in Lean hashes anything: it is a label: what it is worth is what the hold of that sum in a sandbox is worth. -/
noncomputable def Try.pinned : Pinned := { name := "ytkhnmdmpkedifaa", sum := "d40d8dc63ed5c47306d66678ee63ca20fa3528fdabce86bfff1bd99bf372ec8a", checked := Try.checked }
namespace Rows
def none {H : Type} : Left H := { results := [], args := [] }

/-- 'gossamerlaw10.RankIs': WHATEVER THE INPUT: true; the input reads as it did. -/
def rankIsSpec : ChangeSpec := { name := "rankIs", fn := fun _ => fun
  | [d1, d2, d3] => { results := [.lit (.bool true)], args := [d1, d2, d3] }
  | _ => none }
def rankIsRow : OpenClaim := { program := "ytkhnmdmpkedifaa", sum := "d40d8dc63ed5c47306d66678ee63ca20fa3528fdabce86bfff1bd99bf372ec8a", func := "gossamer/gossamerlaw10.RankIs", spec := "rankIs", inPlace := ["internal/abi.NoEscape", "internal/bytealg.abigen_runtime_cmpstring"], apart := false }
def RankIsSaid : Prop := rankIsRow.holds Try.pinned (OpenSpec.ofChange rankIsSpec)

/-- ITS FALSE NEIGHBOUR: 'it returns false'. Refute it at one input. -/
def rankIsWrong : ChangeSpec := { name := "rankIs", fn := fun _ => fun
  | [d1, d2, d3] => { results := [.lit (.bool false)], args := [d1, d2, d3] }
  | _ => none }
def RankIsWrongFalsely : Prop := rankIsRow.holds Try.pinned (OpenSpec.ofChange rankIsWrong)

/-- 'gossamerlaw10.RankOrder': WHATEVER THE INPUT: true; the input reads as it did. -/
def rankOrderSpec : ChangeSpec := { name := "rankOrder", fn := fun _ => fun
  | [d1, d2, d3] => { results := [.lit (.bool true)], args := [d1, d2, d3] }
  | _ => none }
def rankOrderRow : OpenClaim := { program := "ytkhnmdmpkedifaa", sum := "d40d8dc63ed5c47306d66678ee63ca20fa3528fdabce86bfff1bd99bf372ec8a", func := "gossamer/gossamerlaw10.RankOrder", spec := "rankOrder", inPlace := ["internal/abi.NoEscape", "internal/bytealg.abigen_runtime_cmpstring"], apart := false }
def RankOrderSaid : Prop := rankOrderRow.holds Try.pinned (OpenSpec.ofChange rankOrderSpec)

/-- ITS FALSE NEIGHBOUR: 'it returns false'. Refute it at one input. -/
def rankOrderWrong : ChangeSpec := { name := "rankOrder", fn := fun _ => fun
  | [d1, d2, d3] => { results := [.lit (.bool false)], args := [d1, d2, d3] }
  | _ => none }
def RankOrderWrongFalsely : Prop := rankOrderRow.holds Try.pinned (OpenSpec.ofChange rankOrderWrong)

/-- 'gossamerlaw10.RankBest': WHATEVER THE INPUT: true; the input reads as it did. -/
def rankBestSpec : ChangeSpec := { name := "rankBest", fn := fun _ => fun
  | [d1, d2] => { results := [.lit (.bool true)], args := [d1, d2] }
  | _ => none }
def rankBestRow : OpenClaim := { program := "ytkhnmdmpkedifaa", sum := "d40d8dc63ed5c47306d66678ee63ca20fa3528fdabce86bfff1bd99bf372ec8a", func := "gossamer/gossamerlaw10.RankBest", spec := "rankBest", inPlace := ["internal/abi.NoEscape", "internal/bytealg.abigen_runtime_cmpstring"], apart := false }
def RankBestSaid : Prop := rankBestRow.holds Try.pinned (OpenSpec.ofChange rankBestSpec)

/-- ITS FALSE NEIGHBOUR: 'it returns false'. Refute it at one input. -/
def rankBestWrong : ChangeSpec := { name := "rankBest", fn := fun _ => fun
  | [d1, d2] => { results := [.lit (.bool false)], args := [d1, d2] }
  | _ => none }
def RankBestWrongFalsely : Prop := rankBestRow.holds Try.pinned (OpenSpec.ofChange rankBestWrong)

/-- 'gossamerlaw05.PackWrites': WHATEVER THE INPUT: true; the input reads as it did. -/
def packWritesSpec : ChangeSpec := { name := "packWrites", fn := fun _ => fun
  | [d] => { results := [.lit (.bool true)], args := [d] }
  | _ => none }
def packWritesRow : OpenClaim := { program := "ytkhnmdmpkedifaa", sum := "d40d8dc63ed5c47306d66678ee63ca20fa3528fdabce86bfff1bd99bf372ec8a", func := "gossamer/gossamerlaw05.PackWrites", spec := "packWrites", inPlace := ["internal/abi.NoEscape"], unfollowed := true, recurses := true, apart := false }
def PackWritesSaid : Prop := packWritesRow.holds Try.pinned (OpenSpec.ofChange packWritesSpec)

/-- ITS FALSE NEIGHBOUR: 'it returns false'. Refute it at one input. -/
def packWritesWrong : ChangeSpec := { name := "packWrites", fn := fun _ => fun
  | [d] => { results := [.lit (.bool false)], args := [d] }
  | _ => none }
def PackWritesWrongFalsely : Prop := packWritesRow.holds Try.pinned (OpenSpec.ofChange packWritesWrong)

/-- 'gossamerlaw05.PackReads': WHATEVER THE INPUT: true; the input reads as it did. -/
def packReadsSpec : ChangeSpec := { name := "packReads", fn := fun _ => fun
  | [d1, d2] => { results := [.lit (.bool true)], args := [d1, d2] }
  | _ => none }
def packReadsRow : OpenClaim := { program := "ytkhnmdmpkedifaa", sum := "d40d8dc63ed5c47306d66678ee63ca20fa3528fdabce86bfff1bd99bf372ec8a", func := "gossamer/gossamerlaw05.PackReads", spec := "packReads", inPlace := ["internal/abi.NoEscape"], unfollowed := true, recurses := true, apart := false }
def PackReadsSaid : Prop := packReadsRow.holds Try.pinned (OpenSpec.ofChange packReadsSpec)

/-- ITS FALSE NEIGHBOUR: 'it returns false'. Refute it at one input. -/
def packReadsWrong : ChangeSpec := { name := "packReads", fn := fun _ => fun
  | [d1, d2] => { results := [.lit (.bool false)], args := [d1, d2] }
  | _ => none }
def PackReadsWrongFalsely : Prop := packReadsRow.holds Try.pinned (OpenSpec.ofChange packReadsWrong)

/-- 'gossamerlaw05.PackBack': WHATEVER THE INPUT: true; the input reads as it did. -/
def packBackSpec : ChangeSpec := { name := "packBack", fn := fun _ => fun
  | [d1, d2] => { results := [.lit (.bool true)], args := [d1, d2] }
  | _ => none }
def packBackRow : OpenClaim := { program := "ytkhnmdmpkedifaa", sum := "d40d8dc63ed5c47306d66678ee63ca20fa3528fdabce86bfff1bd99bf372ec8a", func := "gossamer/gossamerlaw05.PackBack", spec := "packBack", inPlace := ["internal/abi.NoEscape"], unfollowed := true, recurses := true, apart := false }
def PackBackSaid : Prop := packBackRow.holds Try.pinned (OpenSpec.ofChange packBackSpec)

/-- ITS FALSE NEIGHBOUR: 'it returns false'. Refute it at one input. -/
def packBackWrong : ChangeSpec := { name := "packBack", fn := fun _ => fun
  | [d1, d2] => { results := [.lit (.bool false)], args := [d1, d2] }
  | _ => none }
def PackBackWrongFalsely : Prop := packBackRow.holds Try.pinned (OpenSpec.ofChange packBackWrong)

/-- 'gossamerlaw09.CodeIs': WHATEVER THE INPUT: true; the input reads as it did. -/
def codeIsSpec : ChangeSpec := { name := "codeIs", fn := fun _ => fun
  | [d1, d2] => { results := [.lit (.bool true)], args := [d1, d2] }
  | _ => none }
def codeIsRow : OpenClaim := { program := "ytkhnmdmpkedifaa", sum := "d40d8dc63ed5c47306d66678ee63ca20fa3528fdabce86bfff1bd99bf372ec8a", func := "gossamer/gossamerlaw09.CodeIs", spec := "codeIs", inPlace := ["internal/abi.NoEscape"], unfollowed := true, recurses := true, apart := false }
def CodeIsSaid : Prop := codeIsRow.holds Try.pinned (OpenSpec.ofChange codeIsSpec)

/-- ITS FALSE NEIGHBOUR: 'it returns false'. Refute it at one input. -/
def codeIsWrong : ChangeSpec := { name := "codeIs", fn := fun _ => fun
  | [d1, d2] => { results := [.lit (.bool false)], args := [d1, d2] }
  | _ => none }
def CodeIsWrongFalsely : Prop := codeIsRow.holds Try.pinned (OpenSpec.ofChange codeIsWrong)

/-- 'gossamerlaw09.CodeParts': WHATEVER THE INPUT: true; the input reads as it did. -/
def codePartsSpec : ChangeSpec := { name := "codeParts", fn := fun _ => fun
  | [d1, d2] => { results := [.lit (.bool true)], args := [d1, d2] }
  | _ => none }
def codePartsRow : OpenClaim := { program := "ytkhnmdmpkedifaa", sum := "d40d8dc63ed5c47306d66678ee63ca20fa3528fdabce86bfff1bd99bf372ec8a", func := "gossamer/gossamerlaw09.CodeParts", spec := "codeParts", inPlace := ["internal/abi.NoEscape"], unfollowed := true, recurses := true, apart := false }
def CodePartsSaid : Prop := codePartsRow.holds Try.pinned (OpenSpec.ofChange codePartsSpec)

/-- ITS FALSE NEIGHBOUR: 'it returns false'. Refute it at one input. -/
def codePartsWrong : ChangeSpec := { name := "codeParts", fn := fun _ => fun
  | [d1, d2] => { results := [.lit (.bool false)], args := [d1, d2] }
  | _ => none }
def CodePartsWrongFalsely : Prop := codePartsRow.holds Try.pinned (OpenSpec.ofChange codePartsWrong)

/-- 'gossamerlaw09.CodeBack': WHATEVER THE INPUT: true; the input reads as it did. -/
def codeBackSpec : ChangeSpec := { name := "codeBack", fn := fun _ => fun
  | [d1, d2, d3] => { results := [.lit (.bool true)], args := [d1, d2, d3] }
  | _ => none }
def codeBackRow : OpenClaim := { program := "ytkhnmdmpkedifaa", sum := "d40d8dc63ed5c47306d66678ee63ca20fa3528fdabce86bfff1bd99bf372ec8a", func := "gossamer/gossamerlaw09.CodeBack", spec := "codeBack", inPlace := ["internal/abi.NoEscape"], unfollowed := true, recurses := true, apart := false }
def CodeBackSaid : Prop := codeBackRow.holds Try.pinned (OpenSpec.ofChange codeBackSpec)

/-- ITS FALSE NEIGHBOUR: 'it returns false'. Refute it at one input. -/
def codeBackWrong : ChangeSpec := { name := "codeBack", fn := fun _ => fun
  | [d1, d2, d3] => { results := [.lit (.bool false)], args := [d1, d2, d3] }
  | _ => none }
def CodeBackWrongFalsely : Prop := codeBackRow.holds Try.pinned (OpenSpec.ofChange codeBackWrong)

/-- 'gossamerlaw11.LotIs': WHATEVER THE INPUT: true; the input reads as it did. -/
def lotIsSpec : ChangeSpec := { name := "lotIs", fn := fun _ => fun
  | [d1, d2, d3] => { results := [.lit (.bool true)], args := [d1, d2, d3] }
  | _ => none }
def lotIsRow : OpenClaim := { program := "ytkhnmdmpkedifaa", sum := "d40d8dc63ed5c47306d66678ee63ca20fa3528fdabce86bfff1bd99bf372ec8a", func := "gossamer/gossamerlaw11.LotIs", spec := "lotIs", inPlace := ["internal/abi.NoEscape"], unfollowed := true, recurses := true, apart := false }
def LotIsSaid : Prop := lotIsRow.holds Try.pinned (OpenSpec.ofChange lotIsSpec)

/-- ITS FALSE NEIGHBOUR: 'it returns false'. Refute it at one input. -/
def lotIsWrong : ChangeSpec := { name := "lotIs", fn := fun _ => fun
  | [d1, d2, d3] => { results := [.lit (.bool false)], args := [d1, d2, d3] }
  | _ => none }
def LotIsWrongFalsely : Prop := lotIsRow.holds Try.pinned (OpenSpec.ofChange lotIsWrong)

/-- 'gossamerlaw11.LotBack': WHATEVER THE INPUT: true; the input reads as it did. -/
def lotBackSpec : ChangeSpec := { name := "lotBack", fn := fun _ => fun
  | [d1, d2, d3] => { results := [.lit (.bool true)], args := [d1, d2, d3] }
  | _ => none }
def lotBackRow : OpenClaim := { program := "ytkhnmdmpkedifaa", sum := "d40d8dc63ed5c47306d66678ee63ca20fa3528fdabce86bfff1bd99bf372ec8a", func := "gossamer/gossamerlaw11.LotBack", spec := "lotBack", inPlace := ["internal/abi.NoEscape"], unfollowed := true, recurses := true, apart := false }
def LotBackSaid : Prop := lotBackRow.holds Try.pinned (OpenSpec.ofChange lotBackSpec)

/-- ITS FALSE NEIGHBOUR: 'it returns false'. Refute it at one input. -/
def lotBackWrong : ChangeSpec := { name := "lotBack", fn := fun _ => fun
  | [d1, d2, d3] => { results := [.lit (.bool false)], args := [d1, d2, d3] }
  | _ => none }
def LotBackWrongFalsely : Prop := lotBackRow.holds Try.pinned (OpenSpec.ofChange lotBackWrong)

/-- 'gossamerlaw11.LotWhole': WHATEVER THE INPUT: true; the input reads as it did. -/
def lotWholeSpec : ChangeSpec := { name := "lotWhole", fn := fun _ => fun
  | [d1, d2] => { results := [.lit (.bool true)], args := [d1, d2] }
  | _ => none }
def lotWholeRow : OpenClaim := { program := "ytkhnmdmpkedifaa", sum := "d40d8dc63ed5c47306d66678ee63ca20fa3528fdabce86bfff1bd99bf372ec8a", func := "gossamer/gossamerlaw11.LotWhole", spec := "lotWhole", inPlace := ["internal/abi.NoEscape"], unfollowed := true, recurses := true, apart := false }
def LotWholeSaid : Prop := lotWholeRow.holds Try.pinned (OpenSpec.ofChange lotWholeSpec)

/-- ITS FALSE NEIGHBOUR: 'it returns false'. Refute it at one input. -/
def lotWholeWrong : ChangeSpec := { name := "lotWhole", fn := fun _ => fun
  | [d1, d2] => { results := [.lit (.bool false)], args := [d1, d2] }
  | _ => none }
def LotWholeWrongFalsely : Prop := lotWholeRow.holds Try.pinned (OpenSpec.ofChange lotWholeWrong)

/- THE SECOND FORM. 'bulk': how many values and letters a reading holds, each counted each time it is reached (what is shared counts as often as it is met; a slice's spare places count too). A statement '..UptoSaid' is the law's where the arguments, and the package variables that the reading takes, are together of bulk at most 1048576: NARROWER than '..Said'. Prove '..Said' where nothing that the law and all that it calls make is longer than what came in: it says more and counts as full. Else prove '..UptoSaid'. A law counts once. -/
mutual
def uptoBulk {H : Type} : DataW H → Nat
  | .lit (.string bytes) => bytes.length + 1
  | .lit _ => 1
  | .nil => 1
  | .ptr d => uptoBulk d + 1
  | .slice elems spare => uptoBulkAll elems + uptoBulkAll spare + 1
  | .agg parts => uptoBulkAll parts + 1
  | .iface _ d => uptoBulk d + 1
  | .map entries => uptoBulkEntries entries + 1
  | .held _ => 1
def uptoBulkAll {H : Type} : List (DataW H) → Nat
  | [] => 0
  | d :: r => uptoBulk d + uptoBulkAll r
def uptoBulkEntries {H : Type} : List (Lit × DataW H) → Nat
  | [] => 0
  | x :: r => uptoBulkEntry x + uptoBulkEntries r
def uptoBulkEntry {H : Type} : Lit × DataW H → Nat
  | (.string bytes, d) => bytes.length + uptoBulk d + 1
  | (_, d) => uptoBulk d + 1
 end
def uptoSmall : (H : Type) → List (DataW H) → Bool := fun _ ds => decide (uptoBulkAll ds ≤ 1048576)
def OpenSpec.upto (s : _root_.Go.ChangeSpec) : _root_.Go.OpenSpec := { _root_.Go.OpenSpec.ofChange s with cond := some uptoSmall }

/-- 'gossamerlaw10.RankIs', WHERE WHAT IT READS IS OF BULK AT MOST 1048576: true; the input reads as it did. -/
def rankIsUptoRow : OpenClaim := { program := "ytkhnmdmpkedifaa", sum := "d40d8dc63ed5c47306d66678ee63ca20fa3528fdabce86bfff1bd99bf372ec8a", func := "gossamer/gossamerlaw10.RankIs", spec := "rankIs", inPlace := ["internal/abi.NoEscape", "internal/bytealg.abigen_runtime_cmpstring"], apart := false, narrowed := true }
def RankIsUptoSaid : Prop := rankIsUptoRow.holds Try.pinned (OpenSpec.upto rankIsSpec)

/-- 'gossamerlaw10.RankOrder', WHERE WHAT IT READS IS OF BULK AT MOST 1048576: true; the input reads as it did. -/
def rankOrderUptoRow : OpenClaim := { program := "ytkhnmdmpkedifaa", sum := "d40d8dc63ed5c47306d66678ee63ca20fa3528fdabce86bfff1bd99bf372ec8a", func := "gossamer/gossamerlaw10.RankOrder", spec := "rankOrder", inPlace := ["internal/abi.NoEscape", "internal/bytealg.abigen_runtime_cmpstring"], apart := false, narrowed := true }
def RankOrderUptoSaid : Prop := rankOrderUptoRow.holds Try.pinned (OpenSpec.upto rankOrderSpec)

/-- 'gossamerlaw10.RankBest', WHERE WHAT IT READS IS OF BULK AT MOST 1048576: true; the input reads as it did. -/
def rankBestUptoRow : OpenClaim := { program := "ytkhnmdmpkedifaa", sum := "d40d8dc63ed5c47306d66678ee63ca20fa3528fdabce86bfff1bd99bf372ec8a", func := "gossamer/gossamerlaw10.RankBest", spec := "rankBest", inPlace := ["internal/abi.NoEscape", "internal/bytealg.abigen_runtime_cmpstring"], apart := false, narrowed := true }
def RankBestUptoSaid : Prop := rankBestUptoRow.holds Try.pinned (OpenSpec.upto rankBestSpec)

/-- 'gossamerlaw05.PackWrites', WHERE WHAT IT READS IS OF BULK AT MOST 1048576: true; the input reads as it did. -/
def packWritesUptoRow : OpenClaim := { program := "ytkhnmdmpkedifaa", sum := "d40d8dc63ed5c47306d66678ee63ca20fa3528fdabce86bfff1bd99bf372ec8a", func := "gossamer/gossamerlaw05.PackWrites", spec := "packWrites", inPlace := ["internal/abi.NoEscape"], unfollowed := true, recurses := true, apart := false, narrowed := true }
def PackWritesUptoSaid : Prop := packWritesUptoRow.holds Try.pinned (OpenSpec.upto packWritesSpec)

/-- 'gossamerlaw05.PackReads', WHERE WHAT IT READS IS OF BULK AT MOST 1048576: true; the input reads as it did. -/
def packReadsUptoRow : OpenClaim := { program := "ytkhnmdmpkedifaa", sum := "d40d8dc63ed5c47306d66678ee63ca20fa3528fdabce86bfff1bd99bf372ec8a", func := "gossamer/gossamerlaw05.PackReads", spec := "packReads", inPlace := ["internal/abi.NoEscape"], unfollowed := true, recurses := true, apart := false, narrowed := true }
def PackReadsUptoSaid : Prop := packReadsUptoRow.holds Try.pinned (OpenSpec.upto packReadsSpec)

/-- 'gossamerlaw05.PackBack', WHERE WHAT IT READS IS OF BULK AT MOST 1048576: true; the input reads as it did. -/
def packBackUptoRow : OpenClaim := { program := "ytkhnmdmpkedifaa", sum := "d40d8dc63ed5c47306d66678ee63ca20fa3528fdabce86bfff1bd99bf372ec8a", func := "gossamer/gossamerlaw05.PackBack", spec := "packBack", inPlace := ["internal/abi.NoEscape"], unfollowed := true, recurses := true, apart := false, narrowed := true }
def PackBackUptoSaid : Prop := packBackUptoRow.holds Try.pinned (OpenSpec.upto packBackSpec)

/-- 'gossamerlaw09.CodeIs', WHERE WHAT IT READS IS OF BULK AT MOST 1048576: true; the input reads as it did. -/
def codeIsUptoRow : OpenClaim := { program := "ytkhnmdmpkedifaa", sum := "d40d8dc63ed5c47306d66678ee63ca20fa3528fdabce86bfff1bd99bf372ec8a", func := "gossamer/gossamerlaw09.CodeIs", spec := "codeIs", inPlace := ["internal/abi.NoEscape"], unfollowed := true, recurses := true, apart := false, narrowed := true }
def CodeIsUptoSaid : Prop := codeIsUptoRow.holds Try.pinned (OpenSpec.upto codeIsSpec)

/-- 'gossamerlaw09.CodeParts', WHERE WHAT IT READS IS OF BULK AT MOST 1048576: true; the input reads as it did. -/
def codePartsUptoRow : OpenClaim := { program := "ytkhnmdmpkedifaa", sum := "d40d8dc63ed5c47306d66678ee63ca20fa3528fdabce86bfff1bd99bf372ec8a", func := "gossamer/gossamerlaw09.CodeParts", spec := "codeParts", inPlace := ["internal/abi.NoEscape"], unfollowed := true, recurses := true, apart := false, narrowed := true }
def CodePartsUptoSaid : Prop := codePartsUptoRow.holds Try.pinned (OpenSpec.upto codePartsSpec)

/-- 'gossamerlaw09.CodeBack', WHERE WHAT IT READS IS OF BULK AT MOST 1048576: true; the input reads as it did. -/
def codeBackUptoRow : OpenClaim := { program := "ytkhnmdmpkedifaa", sum := "d40d8dc63ed5c47306d66678ee63ca20fa3528fdabce86bfff1bd99bf372ec8a", func := "gossamer/gossamerlaw09.CodeBack", spec := "codeBack", inPlace := ["internal/abi.NoEscape"], unfollowed := true, recurses := true, apart := false, narrowed := true }
def CodeBackUptoSaid : Prop := codeBackUptoRow.holds Try.pinned (OpenSpec.upto codeBackSpec)

/-- 'gossamerlaw11.LotIs', WHERE WHAT IT READS IS OF BULK AT MOST 1048576: true; the input reads as it did. -/
def lotIsUptoRow : OpenClaim := { program := "ytkhnmdmpkedifaa", sum := "d40d8dc63ed5c47306d66678ee63ca20fa3528fdabce86bfff1bd99bf372ec8a", func := "gossamer/gossamerlaw11.LotIs", spec := "lotIs", inPlace := ["internal/abi.NoEscape"], unfollowed := true, recurses := true, apart := false, narrowed := true }
def LotIsUptoSaid : Prop := lotIsUptoRow.holds Try.pinned (OpenSpec.upto lotIsSpec)

/-- 'gossamerlaw11.LotBack', WHERE WHAT IT READS IS OF BULK AT MOST 1048576: true; the input reads as it did. -/
def lotBackUptoRow : OpenClaim := { program := "ytkhnmdmpkedifaa", sum := "d40d8dc63ed5c47306d66678ee63ca20fa3528fdabce86bfff1bd99bf372ec8a", func := "gossamer/gossamerlaw11.LotBack", spec := "lotBack", inPlace := ["internal/abi.NoEscape"], unfollowed := true, recurses := true, apart := false, narrowed := true }
def LotBackUptoSaid : Prop := lotBackUptoRow.holds Try.pinned (OpenSpec.upto lotBackSpec)

/-- 'gossamerlaw11.LotWhole', WHERE WHAT IT READS IS OF BULK AT MOST 1048576: true; the input reads as it did. -/
def lotWholeUptoRow : OpenClaim := { program := "ytkhnmdmpkedifaa", sum := "d40d8dc63ed5c47306d66678ee63ca20fa3528fdabce86bfff1bd99bf372ec8a", func := "gossamer/gossamerlaw11.LotWhole", spec := "lotWhole", inPlace := ["internal/abi.NoEscape"], unfollowed := true, recurses := true, apart := false, narrowed := true }
def LotWholeUptoSaid : Prop := lotWholeUptoRow.holds Try.pinned (OpenSpec.upto lotWholeSpec)

end Rows
end Go.Proofs.Ytkhnmdmpkedifaa
