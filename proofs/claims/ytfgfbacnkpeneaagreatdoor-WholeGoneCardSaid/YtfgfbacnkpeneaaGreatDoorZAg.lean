/- For WholeGone: contracts of functions and plain laws. -/
import Derived.Test.YtfgfbacnkpeneaaGreatDoorRows
import Derived.WalkKit
import Derived.ProofKit
import Derived.OpenShut
import Derived.ShutString
import Derived.WalkLawsBesides
import Derived.WalkSpells
import Derived.Lib.Hide
import Derived.Deep.Slices
import Derived.Deep.Fields
import Derived.Deep.Draws
import Derived.Deep.QuietTactic
import Derived.BigQuiet
import Derived.Lib.ConvBytes
import Derived.Deep.AppendLies
import Derived.Below
set_option maxRecDepth 100000
set_option maxHeartbeats 4000000
set_option linter.unusedVariables false
set_option linter.unusedSimpArgs false
namespace Go.Proofs.YtfgfbacnkpeneaaGreatDoor
open Go.Proofs.Tryz Go.ChangeShapes Go.WideShapes Go.ChangeAt Go.RowKit Go.Deep
abbrev Up:=@Go.heap_alloc_new
abbrev Ur:=@List.length_map
abbrev UA:=@List.map_cons
abbrev PT:=@List.getElem?_eq_getElem
abbrev UK:=@List.foldl_cons
abbrev UQ:=@List.map_map
abbrev UT:=@List.getElem?_map
abbrev Q7:=@List.append_nil
abbrev UZ:=@Go.Proofs.Tryz.underlying9
abbrev Vf:=@Go.Proofs.Tryz.underlying305
abbrev Vs:=@ByteArray.ext
abbrev VA:=@Go.Proofs.Tryz.underlying5
abbrev Wc:=@ByteArray.data_append
theorem Ph{P:Prop}(h:P:=by
 simpa[aB,Lit.wf,IntKind.min,IntKind.max,IntKind.signed,IntKind.bits]using h):P:=h
section
open Go.ChangeMaps (open_string shut_string)
theorem own : ownKnob prog.godebug = none := by kernel_rfl
theorem zH{p:Prop}(h:p):RowKit.Hid p:=h
theorem zg{α:Type}{l:List α}{k:Nat}(h:k<l.length):∃x,l[k]?=some x:=⟨l[k],PT h⟩
theorem JP:laidOutB prog=true:=by kernel_rfl
theorem nT{k:IntKind}{a b:Int}(h:a=b):Ending.returned (.int k a)=.returned (.int k b):=by rw[h]
theorem FY{a b:Bool}(h:a=b):Ending.returned (.bool a)=.returned (.bool b):=by rw[h]
theorem qy{a b:Value}(h:a=b):Ending.returned a=.returned b:=by rw[h]
section
variable{H:Type}{enc:TypeId×Value→H}{P:Program}
theorem mz(hl:laidOutB P=true){W W':World}{sp':Nat→Bool}:∀{ts:List TypeId} {vs:List Value} {ds:List (DataW H)} {ps:List MemPlace},(∀t∈ts,P.readableRec t=true∧t<P.types.size)→
  DataW.TrodAll enc P W 0 (fun _=>true) true ts vs ds ps→(∀p∈ps,W.sameAt W' p)→(∀p∈ps,sp' p.block=true)→DataW.TrodAll enc P W' 0 sp' true ts vs ds ps
 |[],[],[],_,_,h,_,_=>h
 |t::ts,v::vs,d::ds,ps,hr,h,hs,hp=>by
  obtain⟨p,q,h1,h2,rfl⟩:=h;refine⟨p,q,WideElems.Trod_stays hl (hr t (by simp)).1 (hr t (by simp)).2 h1 (fun x hx=>hs x (by simp[hx])) (fun x hx=>hp x (by simp[hx])),?_,rfl⟩;exact mz hl (fun t ht=>hr t (by simp[ht])) h2 (fun x hx=>hs x (by simp[hx])) (fun x hx=>hp x (by simp[hx]))
theorem DO{f:Func}{s:ChangeSpec}{W W':World}{args:Array Value}{ds gs:List (DataW H)}{before:List MemPlace}(hl:laidOutB P=true)
  (hv:s.vars=[])(hf:(s.fn H (ds++gs)).results=[.lit (.bool true)])(ha:(s.fn H (ds++gs)).args=ds)(hvs:(s.fn H (ds++gs)).vars=[])
  (ht:∀t∈f.params.toList,P.readableRec t=true∧t<P.types.size)(tb:TypeId)(hrt:f.resultTypes=#[tb])(hb:P.underlying tb=some .bool)
  (hW:DataW.Whole enc P f.params.toList s.vars false W args.toList ds gs before)(hB:Below W.heap.size W W'):
  s.post enc P f false true false false W args (.bool true) W':=by
 have hW':=hW;obtain⟨p,q,hA,hV,hpq,hz,hn⟩:=hW;rw[hv]at hV;have hq:q=[]∧gs=[]:=by
  cases gs with
  |nil=>exact⟨hV,rfl⟩
  |cons _ _=>exact hV.elim
 obtain⟨rfl,rfl⟩:=hq;rw[Q7]at hpq;subst hpq;have hlt:∀x∈before,x.block<W.heap.size:=fun x hx=>hW'.lt x hx;refine⟨ds,[],before,[],before,[],hW',?_,?_,?_,?_,fun h=>by cases h⟩
 ·rw[hf,hrt];exact trodAll_mk1 (shut_bool hb true)
 ·rw[ha];exact mz hl ht hA (fun x hx=>hB.same (hlt x hx)) (fun x hx=>by simpa using hlt x hx)
 ·rw[hv,hvs];exact rfl
 ·exact hB.frame _
end
end
section
def aB(n:Int):Prop:= -9223372036854775808≤n∧n≤9223372036854775807
theorem iQ{n:Int}(h:(Lit.int .i64 n).wf=true):aB n:=by
 exact Ph
section
variable{H:Type}{enc:TypeId×Value→H}{P:Program}{w:World}{base:Nat}{spare:Nat→Bool}{held:Bool}
theorem kf{n:Nat}{t:TypeId}{c:Value}{y:DataW H×List MemPlace}{k:IntKind}(ht:P.underlying t=some (.int k))(h:DataW.trod enc P w base spare held n t [c]=some y):∃a,c=.int k a∧(Lit.int k a).wf=true:=by
 obtain⟨a,h1,_,h2⟩:=DataW.trod_int ht h;exact⟨a,by simpa using h1,h2⟩
theorem qk{n:Nat}{t:TypeId}{c:Value}{y:DataW H×List MemPlace}(ht:P.underlying t=some .string)(h:DataW.trod enc P w base spare held n t [c]=some y):∃s,c=.string s∧s.size≤maxLen:=by
 obtain⟨a,h1,_,h2⟩:=DataW.trod_string ht h;exact⟨a,by simpa using h1,h2⟩
theorem EW{n:Nat}{t:TypeId}{c:Value}{y:DataW H×List MemPlace}(ht:P.underlying t=some .bool)(h:DataW.trod enc P w base spare held n t [c]=some y):∃b,c=.bool b:=by
 obtain⟨a,h1,_⟩:=DataW.trod_bool ht h;exact⟨a,by simpa using h1⟩
end
structure Sp where
  tr : Int
  id : Int
  pa : Int
  rv : Int
  sv : ByteArray
  op : ByteArray
  st : Int
  du : Int
  gn : Bool
abbrev SA(x:Sp):Array Value:=#[.int .i64 x.tr,.int .i64 x.id,.int .i64 x.pa,.int .i64 x.rv,.string x.sv,.string x.op,.int .i64 x.st,.int .i64 x.du,.bool x.gn]
abbrev SZ:Array Value:=#[.int .i64 0,.int .i64 0,.int .i64 0,.int .i64 0,.string ⟨#[]⟩,.string ⟨#[]⟩,.int .i64 0,.int .i64 0,.bool false]
def Sp.cells(x:Sp):Array Value:=#[.int .i64 x.tr,.int .i64 x.id,.int .i64 x.pa,.int .i64 x.rv,.string x.sv,.string x.op,.int .i64 x.st,.int .i64 x.du,.bool x.gn]
def Sp.Ok(x:Sp):Prop:=aB x.tr∧aB x.id∧aB x.pa∧aB x.rv∧aB x.st∧aB x.du∧x.sv.size≤maxLen∧x.op.size≤maxLen
theorem Tryz.cells_span:prog.cellsOf 93=9:=by kernel_rfl
theorem pK(x:Nat)(h:x<18446744073709551616):x ^^^ 9223372036854775808=if x<9223372036854775808 then x+9223372036854775808 else x - 9223372036854775808:=by
 have hm:(x ^^^ 9223372036854775808) % 2 ^ 63=x % 2 ^ 63:=by
  rw[Nat.xor_mod_two_pow,show(9223372036854775808:Nat) % 2 ^ 63=0 from rfl,Nat.xor_zero]
 have hd:(x ^^^ 9223372036854775808) / 2 ^ 63=x / 2 ^ 63 ^^^ 1:=by
  rw[Nat.xor_div_two_pow,show(9223372036854775808:Nat) / 2 ^ 63=1 from rfl]
 have hq:x / 2 ^ 63=0∨x / 2 ^ 63=1:=by omega
 rcases hq with hq |hq<;>rw[hq]at hd
 ·have:(0 ^^^ 1:Nat)=1:=rfl;rw[this]at hd;rw[if_pos (by omega)];omega
 ·have:(1 ^^^ 1:Nat)=0:=rfl;rw[this]at hd;rw[if_neg (by omega)];omega
theorem nC(n:Int):IntKind.u64.wrap n=n % 18446744073709551616:=by simp[IntKind.wrap,IntKind.bits,IntKind.signed]
def up(n:Int):Nat:=(n+9223372036854775808).toNat
theorem mw(n:Int)(h: -9223372036854775808≤n∧n≤9223372036854775807):up n<256 ^ 8:=by unfold up;omega
theorem IW(n:Int)(h: -9223372036854775808≤n∧n≤9223372036854775807):bits .xor .u64 (IntKind.u64.wrap n) 9223372036854775808=((up n:Nat):Int):=by
 have e:IntKind.u64.wrap n=(((n % 18446744073709551616).toNat:Nat):Int):=by rw[nC];omega
 rw[e,show(9223372036854775808:Int)=((9223372036854775808:Nat):Int)from rfl,u64_xor_nat _ _ (by omega) (by omega),pK _ (by omega)];unfold up;split<;>omega
def nj(u:Nat):Int:=(u:Int) - 9223372036854775808
theorem wb(n:Int)(h: -9223372036854775808≤n∧n≤9223372036854775807):nj (up n)=n:=by unfold nj up;omega
theorem vq(u:Nat):up (nj u)=u:=by unfold nj up;omega
theorem Fs(u:Nat)(h:u<18446744073709551616):RowKit.wrap64 (bits .xor .u64 (u:Int) 9223372036854775808)=nj u:=by
 rw[show(9223372036854775808:Int)=((9223372036854775808:Nat):Int)from rfl,u64_xor_nat _ _ (by omega) (by omega),pK _ (by omega)];unfold nj RowKit.wrap64;split<;>omega
def sF(l:List UInt8):Array Value:=(l.map fun b=>Value.int .u8 (b.toNat:Int)).toArray
theorem AY(l:List UInt8):∀s:ByteArray,(l.map fun b=>(b.toNat:Int)).foldl (fun r n=>r.push (UInt8.ofNat n.toNat)) s=⟨s.data++l.toArray⟩:=by
 induction l with
 |nil=>intro s;simp
 |cons b l ih=>
  intro s;simp only[UA,UK,ih,Int.toNat_natCast];have e:UInt8.ofNat b.toNat=b:=UInt8.ofNat_toNat;rw[e];simp[ByteArray.push]
theorem mE{P:Program}(w:World){src dst e:TypeId}(hs:P.underlying src=some (.slice e))(he:P.underlying e=some (.int .u8))(hd:P.underlying dst=some .string)
  (a:Addr)(c:Nat)(l:List UInt8)(h:∀j b,l[j]?=some b→w.cell? (a.add j)=some (.int .u8 (b.toNat:Int))):
  (convert src dst (.slice (some a) l.length c)).run P w=.ok (.string ⟨l.toArray⟩) w:=by
 rw[run_convert_bytes_string w src dst e (some a) l.length c hs he hd];have hl:(loadCells a l.length).run P w=.ok ((l.map fun b=>(b.toNat:Int)).map (Value.int .u8)).toArray w:=by
  have:=run_loadCells_list (P:=P) w a (l.map fun b=>Value.int .u8 (b.toNat:Int)) (fun j v hv=>by
   rw[UT]at hv;cases hb:l[j]? with
   |none=>rw[hb]at hv;simp at hv
   |some b=>rw[hb]at hv;simp at hv;subst hv;exact h j b hb)
  rw[Ur]at this;rw[this,UQ];rfl
 rw[run_bytesToString w a l.length c _ hl,AY];have e2:(ByteArray.empty.data++l.toArray)=l.toArray:=by rw[show ByteArray.empty.data=#[]from rfl,Array.empty_append]
 rw[e2]
theorem re{P:Program}(w:World){src dst e t:TypeId}(hs:P.underlying src=some (.slice e))(he:P.underlying e=some (.int .u8))(hd:P.underlying dst=some .string)(n c:Nat)(l:List UInt8)(hn:n=l.length):
  (convert src dst (.slice (some ⟨w.heap.size,0,none⟩) n c)).run P (w.alloc (.cells (sF l) t))=.ok (.string ⟨l.toArray⟩) (w.alloc (.cells (sF l) t)):=by
 subst hn;refine mE _ hs he hd _ _ l (fun j b hb=>?_);have e1:(⟨w.heap.size,0,none⟩:Addr).add j=⟨w.heap.size,j,none⟩:=by unfold Addr.add;split<;>simp_all
 rw[e1,cell_of_row _ _ _ _ t _ (Up w _)];simp[sF,hb]
theorem uP(a b:List UInt8):(⟨a.toArray⟩:ByteArray)++⟨b.toArray⟩=⟨(a++b).toArray⟩:=by
 apply Vs;rw[Wc];simp
theorem Bv(a:List UInt8)(s:ByteArray):(⟨a.toArray⟩:ByteArray)++s=⟨(a++s.data.toList).toArray⟩:=uP a s.data.toList
theorem Ci{a b:ByteArray}(h:a=b):Ending.returned (.string a)=.returned (.string b):=by rw[h]
theorem kS{P:Program}(w:World){src dst e t:TypeId}(hs:P.underlying src=some (.slice e))(he:P.underlying e=some (.int .u8))(hd:P.underlying dst=some .string)(ns:List Int)(c:Nat):
  (convert src dst (.slice (some ⟨w.heap.size,0,none⟩) ns.length c)).run P (w.alloc (.cells (ns.map (Value.int .u8)).toArray t))=.ok (.string ⟨(ns.map fun n=>UInt8.ofNat n.toNat).toArray⟩) (w.alloc (.cells (ns.map (Value.int .u8)).toArray t)):=by
 rw[run_convert_bytes_string _ src dst e _ _ c hs he hd];have hl:(loadCells ⟨w.heap.size,0,none⟩ ns.length).run P (w.alloc (.cells (ns.map (Value.int .u8)).toArray t))=.ok (ns.map (Value.int .u8)).toArray (w.alloc (.cells (ns.map (Value.int .u8)).toArray t)):=by
  have:=run_loadCells_list (P:=P) (w.alloc (.cells (ns.map (Value.int .u8)).toArray t)) ⟨w.heap.size,0,none⟩ (ns.map (Value.int .u8)) (fun j v hv=>by
   have e1:(⟨w.heap.size,0,none⟩:Addr).add j=⟨w.heap.size,j,none⟩:=by unfold Addr.add;split<;>simp_all
   rw[e1,cell_of_row _ _ _ _ t _ (Up w _)];simpa using hv)
  rwa [Ur]at this
 rw[run_bytesToString _ _ ns.length c ns hl];have hf:∀(l:List Int) (s:ByteArray),l.foldl (fun r n=>r.push (UInt8.ofNat n.toNat)) s=⟨s.data++(l.map fun n=>UInt8.ofNat n.toNat).toArray⟩:=by
  intro l;induction l with
  |nil=>intro s;simp
  |cons b l ih=>intro s;simp only[UK,ih,UA];simp[ByteArray.push]
 rw[hf,show ByteArray.empty.data=#[]from rfl,Array.empty_append]
theorem pE(w:World)(e:TypeId)(s:ByteArray):Below w.heap.size w (Lib.bytesWorld w e s):=
 ⟨by simp[Lib.bytesWorld,World.freeze];rfl,by simp[Lib.bytesWorld,World.freeze],by simp[Lib.bytesWorld,World.freeze];rfl,by rw[Lib.bytesWorld_size];omega,fun k hk=>Lib.bytesWorld_at_old w e s k hk⟩
theorem kh(w:World)(e:TypeId)(s:ByteArray):(∀j,j<s.size→(Lib.bytesWorld w e s).cell? ⟨w.heap.size,j,none⟩=some (.int .u8 ((s.data.toList.getD j 0).toNat:Int)))∧Below w.heap.size w (Lib.bytesWorld w e s)∧(Lib.bytesWorld w e s).heap.size=w.heap.size+1:=
 ⟨fun j hj=>Lib.bytesWorld_cell w e s j hj,pE w e s,Lib.bytesWorld_size w e s⟩
@[go_sem] theorem MX(w:World)(s:ByteArray):(convert 9 305 (.string s)).run prog w=.ok (.slice (some ⟨w.heap.size,0,none⟩) s.size (grownCap w s.size 0 5)) (Lib.bytesWorld w 5 s):=
 Lib.run_convert_string_bytes w 9 305 5 s UZ Vf VA
@[go_sem] theorem KJ(w:World)(a:Int):(convert 305 9 (.slice (some ⟨w.heap.size,0,none⟩) 1 1)).run prog (w.alloc (.cells #[.int .u8 a] 5))=.ok (.string ⟨#[UInt8.ofNat a.toNat]⟩) (w.alloc (.cells #[.int .u8 a] 5)):=
 kS (t:=5) w Vf VA UZ [a] 1
@[go_sem] theorem KI(w:World)(a b c d:Int):(convert 305 9 (.slice (some ⟨w.heap.size,0,none⟩) 4 4)).run prog (w.alloc (.cells #[.int .u8 a,.int .u8 b,.int .u8 c,.int .u8 d] 5))=.ok (.string ⟨#[UInt8.ofNat a.toNat,UInt8.ofNat b.toNat,UInt8.ofNat c.toNat,UInt8.ofNat d.toNat]⟩) (w.alloc (.cells #[.int .u8 a,.int .u8 b,.int .u8 c,.int .u8 d] 5)):=
 kS (t:=5) w Vf VA UZ [a,b,c,d] 4
structure IG(base:Nat)(e:TypeId)(size:Nat)(W:World)(n:Nat)(xs:List Value)(cs:Array Value)(g cap:Nat)(w':World):Prop where
 own:w'.ownsRow base e size (.slice (some ⟨g,0,none⟩) (n+1) cap) (n+1) (xs++cs.toList)
 below:∀W0,Below base W0 W→Below base W0 w'
 lt:g<w'.heap.size
 ge:base≤g
theorem jv{P:Program}{ops:Array Oper}{rest:List Oper}{o:Oper}{a:Act}{Q:Exit→Act→World→Prop}(hgd:o.guard=none)(s x:Operand)(t:TypeId)
  (ho:o.op=.call {callee:=.builtin .append,args:=#[s,x],argTypes:=#[t,t]})
  (base:Nat)(e:TypeId)(i:TypeInfo)(z:Value)(size cr:Nat)(ht:P.underlying t=some (.slice e))(hi:P.info? e=some i)(hz:i.zero=some z)
  (hsize:i.size=size)(hby:i.bytes=cr)(hzs:z.cells.size=size)(hsz:0<size)(hb200:cr≤200)
  (v:Value)(n:Nat)(xs:List Value)(hs:a.eval s=v)(W:World)(hown:W.ownsRow base e size v n xs)(cs:Array Value)(H:Nat)(hH:W.heap.size=H)(hx:a.eval x=.slice (some ⟨H,0,none⟩) 1 1)
  (hcs:cs.size=size)(h1:∀u∈cs.toList,u.oneCell'=true)(hn:n<100000000)(hbase:base≤W.heap.size)
  (h:∀g cap w',IG base e size W n xs cs g cap w'→wpList P ops Q rest (a.put o.dst (.slice (some ⟨g,0,none⟩) (n+1) cap)) w'):
  wpList P ops Q (o::rest) a (W.alloc (.cells cs e)):=by
 subst hH;refine wpList_append_lies (W.alloc (.cells cs e)) hgd s x t ho base e i z size cr ht hi hz hsize hby hzs hsz v n xs hs (hown.alloc _) ⟨W.heap.size,0,none⟩ 1 1 cs.toList hx
  (by simp[hcs]) (World.news_of_block (Up W _)) h1 (by omega) (by simp only[maxLen];omega) ?_ (by simp;omega) (W.heap.size+1) (by simp) ?_
 ·have:(n+1)*cr≤100000000*200:=Nat.mul_le_mul (by omega) hb200;omega
 ·intro g cap w' hown' hgrow _ hlt;refine h g cap w' ⟨hown',fun W0 hb=>(hb.alloc hbase _).grown hgrow (by simp;omega) (fun k hk=>((hown.alloc (.cells cs e)).lt k hk).1),hlt,?_⟩;exact(hown'.lt g rfl).1
theorem qa{i?:Option TypeInfo}{z:Value}{size cr:Nat}(h:i?.map (fun i=>(i.zero,i.size,i.bytes))=some (some z,size,cr)):∃i,i?=some i∧i.zero=some z∧i.size=size∧i.bytes=cr:=by
 cases hi:i? with
 |none=>rw[hi]at h;cases h
 |some i=>rw[hi]at h;simp at h;exact⟨i,rfl,h.1,h.2.1,h.2.2⟩
theorem au{w w':World}{base:Nat}{e:TypeId}{sz n:Nat}{v:Value}{xs:List Value}(h:w.ownsRow base e sz v n xs)(hb:Below w.heap.size w w'):w'.ownsRow base e sz v n xs:=
 h.kept (row:=none) ⟨hb.os,hb.tape,hb.output,hb.size,fun k hk _=>hb.block k hk⟩ (by cases v.ownBlock<;>simp)
theorem an{w:World}{base:Nat}{e:TypeId}{sz n:Nat}{v:Value}{xs:List Value}(h:w.ownsRow base e sz v n xs):∃A c,v=.slice A n c:=by
 rcases h.2 with⟨h0,h1⟩ |⟨g,cap,cur,hv,_⟩
 ·exact⟨none,0,by rw[h0,h1]⟩
 ·exact⟨_,_,hv⟩
end
