/- For WholeGone: contracts of functions and plain laws. -/
import Derived.Test.YtfgfbacnkpeneaaGreatDoorZAf
import Derived.Test.YtfgfbacnkpeneaaGreatDoorZBh
import Derived.Shelf.RegionOpenPlain
set_option maxRecDepth 100000
set_option maxHeartbeats 4000000
set_option linter.unusedVariables false
set_option linter.unusedSimpArgs false
namespace Go.Proofs.YtfgfbacnkpeneaaGreatDoor
open Go.Proofs.Tryz Go.ChangeShapes Go.WideShapes Go.ChangeAt Go.RowKit Go.Deep Go.Shelf AvlP
section
def II(s:ByteArray):Int:=Lib.indexByte s.data.toList 0
def cg(s:ByteArray):ByteArray×ByteArray:=if II s<0 then(s,⟨#[]⟩)else(s.extract 0 (II s).toNat,s.extract ((II s).toNat+1) s.size)
theorem K4{s:ByteArray}{i:Nat}(h:II s=i):i+1≤s.size:=by
 have h1:=(Lib.indexByte_some (l:=s.data.toList) (c:=0) (o:=i) h).1;have h2:=(Qh.1 h1).1;rw[←Lib.size_eq]at h2;exact h2
theorem Gx(s:ByteArray)(w:World)(hs:s.size≤100000):
  Calls prog 272 #[.string s,.string ⟨#[0]⟩] w fun e w'=>(∃b,e=.returned (.tuple #[.string (cg s).1,.string (cg s).2,.bool b]))∧Below w.heap.size w w':=by
 have HI:=zH (fun w1=>Tryz.stringslite_Index_one s 0 w1);rcases Int.lt_or_le (II s) 0 with hz |hz
 ·have e1:cg s=(s,⟨#[]⟩):=Pj hz;have hd:decide (0≤II s)=false:=UM (by omega);rw[e1];go_enter func272,ntmps272;go_wp2_with (go_at_call 281;(with_reducible refine(HI.out _).mono ?_);rintro e w1 ⟨rfl,rfl⟩;rw[show Lib.indexByte s.data.toList 0=II s from rfl]);go_ret3;exact⟨⟨_,rfl⟩,Pk _ _⟩
 ·obtain⟨i,hi⟩:∃i:Nat,II s=i:=⟨(II s).toNat,by omega⟩;have hl:=K4 hi;have e1:cg s=(s.extract 0 i,s.extract (i+1) s.size):=by
   unfold cg;rw[Pm (by omega),hi];rfl
  rw[e1];have mixed:=Tryz.lays219.mixed;have d1:(0:Int)≤↑i:=by omega
  have d2:(↑i:Int)≤↑s.size:=by omega
  have d3:(0:Int)≤↑i+1:=by omega
  have d4:(↑i+1:Int)≤↑s.size:=by omega
  clear hz e1;go_enter func272,ntmps272;go_wp2_with (go_at_call 281;(with_reducible refine(HI.out _).mono ?_);rintro e w1 ⟨rfl,rfl⟩;rw[show Lib.indexByte s.data.toList 0=II s from rfl,hi]);go_region_o;go_wp2;go_ret3;exact⟨⟨_,rfl⟩,(Pk _ _).drew⟩
theorem xa(s:ByteArray)(w:World)(hs:s.size≤100000):
  Calls prog 201 #[.string s,.string ⟨#[0]⟩] w fun e w'=>(∃b,e=.returned (.tuple #[.string (cg s).1,.string (cg s).2,.bool b]))∧Below w.heap.size w w':=by
 have HI:=zH (fun w1=>Gx s w1 hs);go_enter func201,ntmps201;go_wp2_with (go_at_call 272;(with_reducible refine(HI.out _).mono ?_);rintro e w1 ⟨⟨b,rfl⟩,b1⟩);go_ret3;exact⟨⟨_,rfl⟩,b1⟩
theorem DS(s:ByteArray)(w:World)(hs:s.size≤100000):
  Calls prog 131 #[.string s] w fun e w'=>e=.returned (.tuple #[.string (cg s).1,.string (cg s).2])∧Below w.heap.size w w':=by
 have HI:=zH (fun w1=>xa s w1 hs);go_enter func131,ntmps131;go_wp2_with (go_at_call 201;(with_reducible refine(HI.out _).mono ?_);rintro e w1 ⟨⟨b,rfl⟩,b1⟩);go_ret2;exact⟨rfl,b1⟩
end
