/- For WholeGone: contracts of functions and plain laws. -/
import Derived.Test.YtfgfbacnkpeneaaGreatDoorZAq
import Derived.Maps.RangeWalk
set_option maxRecDepth 100000
set_option maxHeartbeats 4000000
set_option linter.unusedVariables false
set_option linter.unusedSimpArgs false
namespace Go.Proofs.YtfgfbacnkpeneaaGreatDoor
open Go.Proofs.Tryz Go.ChangeShapes Go.WideShapes Go.ChangeAt Go.RowKit Go.Deep Go.MapKept Go.ChangeMaps
section
section
variable{P:Program}{k e t:TypeId}{κ β:Type}{enc:κ→Value}{ok:κ→Prop}{venc:β→Value}{w w':World}{M r cnt:Nat}{g:κ→Option β}{done:List κ}
structure fD(enc:κ→Value)(ok:κ→Prop)(venc:β→Value)(w:World)(M r:Nat)(g:κ→Option β)(done:List κ)(cnt:Nat):Prop where
 ex:∃es clock since seen c0,w.heap[M]?=some (.map es clock)∧Stamped es clock∧(∀x∈es.toList,∃a b,ok a∧x.key=enc a∧x.val=venc b∧g a=some b)∧(∀a b,g a=some b→∃x∈es.toList,x.key=enc a∧x.val=venc b)∧
  w.heap[r]?=some (.mapIter (some M) since seen c0)∧(∀x∈es.toList,x.born<since)∧since≤c0∧since≤clock∧(leftOf es seen).size=cnt∧done.Nodup∧(∀x∈es.toList,∀a,x.key=enc a→(a∈done↔seen.contains x.born=true))∧(∀a∈done,g a≠none)∧cnt+done.length≤es.size
theorem fD.kept(h:fD enc ok venc w M r g done cnt)(h1:w'.heap[M]?=w.heap[M]?)(h2:w'.heap[r]?=w.heap[r]?):fD enc ok venc w' M r g done cnt:=by
 obtain⟨es,clock,since,seen,c0,a1,a2,a3,a4,a5,a6⟩:=h.ex;exact⟨es,clock,since,seen,c0,h1.trans a1,a2,a3,a4,h2.trans a5,a6⟩
theorem fD.lt(h:fD enc ok venc w M r g done cnt):M<w.heap.size∧r<w.heap.size∧M≠r:=by
 obtain⟨es,clock,since,seen,c0,a1,a2,a3,a4,a5,a6⟩:=h.ex;exact⟨am a1,am a5,fun e=>by rw[e,a5]at a1;cases a1⟩
theorem fD.nodup(h:fD enc ok venc w M r g done cnt):done.Nodup∧∀a∈done,g a≠none:=by
 obtain⟨es,clock,since,seen,c0,a1,a2,a3,a4,a5,a6,a7,a8,a9,b1,b2,b3,b4⟩:=h.ex;exact⟨b1,b3⟩
def Cv(w:World)(M r:Nat):Nat:=match w.heap[M]?,w.heap[r]? with |some (.map es _),some (.mapIter _ _ seen _)=>(leftOf es seen).size |_,_=>0
theorem fD.left(h:fD enc ok venc w M r g done cnt):Cv w M r=cnt:=by
 obtain⟨es,clock,since,seen,c0,a1,a2,a3,a4,a5,a6,a7,a8,a9,b1⟩:=h.ex;unfold Cv;rw[a1,a5];exact a9
theorem cF.walk(ht:P.underlying t=some (.map k e))(h:cF P k enc ok venc w M g):∃n,(Instr.range t (.map (some M))).run P w=.ok (.pointer (some ⟨w.heap.size,0,none⟩)) (w.alloc (.mapIter (some M) n #[] n))∧∃cnt,fD enc ok venc (w.alloc (.mapIter (some M) n #[] n)) M w.heap.size g [] cnt:=by
 obtain⟨es,clock,hb,h2,h3,h4⟩:=h.ex;refine⟨clock,run_range_map w t k e M es clock ht hb,es.size,es,clock,clock,#[],clock,ar hb _,h2,h3,h4,Up _ _,h2.1,Po _,Po _,by simp[leftOf],by simp,by simp,by simp,by simp⟩
theorem fD.next(hin:∀a b,enc a=enc b→a=b)(h:fD enc ok venc w M r g done cnt)(ty:TypeId):
  ((∀a,g a≠none→a∈done)∧(Instr.next (.pointer (some ⟨r,0,none⟩)) false ty).run P w=.ok (.tuple #[.bool false]) w)∨
  ∃a b w' cnt',ok a∧g a=some b∧a∉done∧(Instr.next (.pointer (some ⟨r,0,none⟩)) false ty).run P w=.ok (.tuple #[.bool true,enc a,venc b]) w'∧fD enc ok venc w' M r g (done++[a]) cnt'∧cnt'<cnt∧Km (fun x=>x=r) w w'∧w'.heap.size=w.heap.size∧
   ∀W:World,W.heap[M]?=w'.heap[M]?→W.heap[r]?=w'.heap[r]?→(Instr.entry (.pointer (some ⟨r,0,none⟩))).run P W=.ok (.tuple #[enc a,venc b]) W:=by
 have hne:=h.lt.2.2;obtain⟨es,clock,since,seen,c0,hb,hst,h3,h4,hr,hold,hsc,hsk,hcnt,hdn,hdone,hdg,hle⟩:=h.ex;rcases run_next_at (P:=P) w ty r M since c0 seen es clock hr hb hold hsc with⟨h0,hrun⟩ |⟨x,hx,w1,hal,hrun⟩
 ·refine .inl ⟨fun a ha=>?_,hrun⟩;cases hg:g a with
  |none=>exact absurd hg ha
  |some b=>
   obtain⟨x,hx,hk,_⟩:=h4 a b hg;exact(hdone x hx a hk).2 (Go.all_seen es seen h0 x hx)
 ·obtain⟨hem,hes⟩:=Go.mem_left hx;obtain⟨a,b,hoa,hk,hv,hg⟩:=h3 x hem;have hr1:w1.heap[r]?=some (.mapIter (some M) since seen c0):=by rcases hal with rfl |rfl<;>exact hr
  have hb1:w1.heap[M]?=some (.map es clock):=by rcases hal with rfl |rfl<;>exact hb
  have hset:=Go.MapKept.heap_set (o':=.mapIter (some M) since (seen.push x.born) clock) hr1;have hb':(setBlock w1 r (.mapIter (some M) since (seen.push x.born) clock)).heap[M]?=some (.map es clock):=(hset.2 M hne).trans hb1;have hnd:a∉done:=fun hd=>by
   have:=(hdone x hem a hk).1 hd;rw[hes]at this;cases this
  have hlt:=Go.left_shrinks es seen x hx;have hborn:∀y∈es.toList,y.born=x.born→y=x:=fun y hy e=>Go.born_inj hst.2.1 hy hem e;refine .inr ⟨a,b,_,_,hoa,hg,hnd,by rw[←hk,←hv];exact hrun,⟨es,clock,since,seen.push x.born,clock,hb',hst,h3,h4,hset.1,hold,hsk,hsk,rfl,?_,fun y hy a2 hk2=>?_,fun a2 ha2=>?_,?_⟩,by rw[←hcnt];exact hlt,?_,?_,fun W e1 e2=>?_⟩
  ·rw[PW];exact⟨hdn,by simp,fun u hu v hv2 e=>by rw[Ql]at hv2;subst hv2;subst e;exact hnd hu⟩
  ·rw[Px,Ql,hdone y hy a2 hk2,Go.contains_push,Bool.or_eq_true];refine or_congr Iff.rfl ?_;rw[RV];constructor
   ·intro e;rw[e,←hk]at hk2;have hpw:=((stamped_iff es clock).1 hst).2.2;rw[Go.entry_eq_of_key hpw hy hem hk2]
   ·intro e;have:=hborn y hy e;rw[this,hk]at hk2;exact hin _ _ hk2.symm
  ·rcases Px.1 ha2 with h5 |h5
   ·exact hdg a2 h5
   ·rw[Ql]at h5;rw[h5,hg];simp
  ·rw[Pu,List.length_singleton];omega
  ·refine⟨by rcases hal with rfl |rfl<;>rfl,by rcases hal with rfl |rfl<;>rfl,by rcases hal with rfl |rfl<;>rfl,by rcases hal with rfl |rfl<;>simp[setBlock],fun i _ hi=>?_⟩;refine(hset.2 i hi).trans ?_;rcases hal with rfl |rfl<;>rfl
  ·rcases hal with rfl |rfl<;>simp[setBlock]
  ·rw[←hk,←hv];exact run_entry_at W r M since seen es clock x (e2.trans hset.1) (e1.trans hb') hem hst.2.1
variable{ops:Array Oper}{rest:List Oper}{o:Oper}{a:Act}{Q:Exit→Act→World→Prop}
theorem lk(hg:o.guard=none)(m:Operand)(hop:o.op=Op.range t m)(ht:P.underlying t=some (.map k e))(hm:a.eval m=.map (some M))(h:cF P k enc ok venc w M g)
  (hK:∀n cnt,fD enc ok venc (w.alloc (.mapIter (some M) n #[] n)) M w.heap.size g [] cnt→wpList P ops Q rest (a.put o.dst (.pointer (some ⟨w.heap.size,0,none⟩))) (w.alloc (.mapIter (some M) n #[] n))):wpList P ops Q (o::rest) a w:=by
 refine wpList_plain hg fun K' hK'=>?_;obtain⟨n,hrun,cnt,hw⟩:=h.walk ht;unfold Oper.wp;simp[execOp,hop,hm,hrun,Result.andThen];exact hK' _ _ (hK n cnt hw)
theorem mu(hg:o.guard=none)(it:Operand)(hop:o.op=Op.next it false)(hin:∀a b,enc a=enc b→a=b)(hit:a.eval it=.pointer (some ⟨r,0,none⟩))(h:fD enc ok venc w M r g done cnt)
  (hDone:(∀a,g a≠none→a∈done)→wpList P ops Q rest (a.put o.dst (.tuple #[.bool false])) w)
  (hMore:∀x b w' cnt',ok x→g x=some b→x∉done→fD enc ok venc w' M r g (done++[x]) cnt'→cnt'<cnt→Km (fun z=>z=r) w w'→w'.heap.size=w.heap.size→
   (∀W:World,W.heap[M]?=w'.heap[M]?→W.heap[r]?=w'.heap[r]?→(Instr.entry (.pointer (some ⟨r,0,none⟩))).run P W=.ok (.tuple #[enc x,venc b]) W)→wpList P ops Q rest (a.put o.dst (.tuple #[.bool true,enc x,venc b])) w'):
  wpList P ops Q (o::rest) a w:=by
 refine wpList_plain hg fun K' hK'=>?_;unfold Oper.wp;rcases h.next (P:=P) hin o.type with⟨h0,hrun⟩ |⟨x,b,w',cnt',h1,h2,h3,hrun,h4,h5,h6,h7,h8⟩
 ·simp[execOp,hop,hit,hrun,Result.andThen];exact hK' _ _ (hDone h0)
 ·simp[execOp,hop,hit,hrun,Result.andThen];exact hK' _ _ (hMore x b w' cnt' h1 h2 h3 h4 h5 h6 h7 h8)
end
end
