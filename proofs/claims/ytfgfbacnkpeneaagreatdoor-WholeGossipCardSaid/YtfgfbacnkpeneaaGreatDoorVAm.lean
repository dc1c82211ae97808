/- For WholeGossip: contracts of functions and plain laws. -/
import Derived.Test.YtfgfbacnkpeneaaGreatDoorVAk
import Derived.RangeFuncWrites
set_option maxRecDepth 100000
set_option maxHeartbeats 4000000
set_option linter.unusedVariables false
set_option linter.unusedSimpArgs false
namespace Go.Proofs.YtfgfbacnkpeneaaGreatDoor
open Go.Proofs.Tryz
abbrev QP:=@Go.World.putObj_heap_other
section
open Go.RowKit AvlP
def Dc(T:TypeId→Prop)(m:Nat)(W W':World):Prop:=∀b cs t fr,T t→m≤b→W.heap[b]?=some (.cells cs t fr)→W'.heap[b]?=some (.cells cs t fr)
structure Fc(F:Nat→Prop)(T:TypeId→Prop)(m:Nat)(W W':World):Prop where
 f:cu F W W'
 t:Dc T m W W'
 o:KeepsFrom m W W'
section
variable{F:Nat→Prop}{T:TypeId→Prop}{m l:Nat}{U V W:World}
theorem Fc.trans(h:Fc F T m U V)(k:Fc F T m V W):Fc F T m U W:=⟨fh h.f k.f,fun b cs ty fr ht hm hb=>k.t b cs ty fr ht hm (h.t b cs ty fr ht hm hb),h.o.trans k.o⟩
theorem Fc.put(hF:∀b,F b→b<l)(hl:l<m)(o:Obj):Fc F T m W (W.putObj l o):=
 ⟨fun b hb=>QP (by have:=hF b hb;omega),fun b cs ty fr ht hm hb=>(QP (by omega)).trans hb,⟨by simp,fun k o' hm hk _=>(QP (by omega)).trans hk⟩⟩
end
def BH{α:Type}(n:Nat)(P:Program)(g:Nat)(lb:Array Value)(Bf:α→Array Value)(F:Nat→Prop)(T:TypeId→Prop)(S Sp:List α→Prop)(N:Nat)(w:World):Prop:=
 ∀(l:Nat) (J Jx:List α→World→Prop) (W:World),Below w.heap.size w W→OwnFrom W.heap.size J→OwnFrom W.heap.size Jx→
  (∀pre x W1,J pre W1→pre.length<N→YieldAt Fence.wide (n - 1) P l (Bf x) W1 fun e W'=>
   (e=.returned (.bool true)∧J (pre++[x]) W'∧Fc F T W.heap.size W1 W')∨(e=.returned (.bool false)∧Jx (pre++[x]) W'∧KeepsFrom W.heap.size W1 W'))→
  J [] W→
  CallsIn Fence.wide n P g (#[.func (.yield l) #[] #[]]++lb) W fun e W'=>(∃v,e=.returned v)∧((∃ys,S ys∧J ys W')∨(∃pre,Sp pre∧Jx pre W'))
def Ni(F:Nat→Prop)(T:TypeId→Prop)(m:Nat)(W W':World):Prop:=cu F W W'∧Dc T m W W'
theorem sD{w:World}{b:Nat}{o:Obj}(h:w.heap[b]?=some o):b<w.heap.size:=(Rj.1 h).1
theorem OwnFrom.alloc'{β:Type}{B:Nat}{I:β→World→Prop}(hI:OwnFrom B I){s:β}{w W:World}(hb:Below w.heap.size w W)(h:I s w):I s W:=
 hI s w W none h ⟨hb.os,hb.tape,hb.output,hb.size,fun k hk _=>hb.block k hk⟩ (by simp)
theorem pq{α:Type}{n:Nat}{P:Program}{g:Operand}{ps:Array Tmp}{assign body:Code}{Q:Exit→Act→World→Prop}{a:Act}{w:World}
  (h1:1≤n){gf:Nat}{lb:Array Value}(hg:a.eval g=.func (.func gf) #[] lb)(eg:∀args w,(callFunc gf args).run P w=.ok (.enter gf args) w)
  {Bf:α→Array Value}{F:Nat→Prop}{T:TypeId→Prop}{S Sp:List α→Prop}{N:Nat}{w0:World}(hseq:BH (n - 1) P gf lb Bf F T S Sp N w0)(hF:∀b,F b→b<w.heap.size)(hb0:Below w0.heap.size w0 w)(hps:∀x,(Bf x).size=ps.size)
  (I:List α→World→Prop)(Ix:Code→List α→World→Prop)(hI:OwnFrom w.heap.size I)(hIx:∀c,OwnFrom w.heap.size (Ix c))(h0:I [] w)(a₁:α→Act)
  (hassign:∀(l:Nat) (x:α) (W:World) (K:Act→World→Prop),K (a₁ x) W→assign.wpIn (Fence.wide.inRound l) (n - 1 - 1) P (Exit.then K (fun _ _ _=>False)) {tmps:=(ps.zip (Bf x)).foldl (fun t (p,v)=>t.setIfInBounds p v) a.tmps,defers:=[]} W)
  (hbody:∀(l:Nat) (pre:List α) (x:α) (W:World),I pre W→pre.length<N→body.wpIn (Fence.wide.inRound l) (n - 1 - 1) P (ownPostG w.heap.size (Ni F T w.heap.size) I Ix (pre++[x]) W) (a₁ x) W)
  (hdone:∀(D:Nat) (xs:List α) (W:World),w.heap.size≤D→S xs→I xs W→W.heap[D]?=some (.deferred (some []))→Q .normal {a with defers:={target:=.collected D,args:=#[]}::a.defers} W)
  (hstop:∀(D:Nat) (c:Code) (pre:List α) (W:World),w.heap.size≤D→Sp pre→Ix c pre W→W.heap[D]?=some (.deferred (some []))→c.wpIn Fence.wide n P Q {a with defers:={target:=.collected D,args:=#[]}::a.defers} W):
  (Code.rangeFunc g ps assign body).wpIn Fence.wide n P Q a w:=by
 refine wpIn_rangeFunc fun fn hfn=>?_;have hn:=run_enterLoop_outer (P:=P) (w:=w) fn a.tmps ps assign body;generalize hrec:(fun(st:LoopState) (pe:Option Code)=>({state:=st,pending:=pe,fn,tmps:=a.tmps,params:=ps,assign,body,defers:=w.heap.size}:Loop))=rc;have e0:({state:=.ready,pending:=none,fn,tmps:=a.tmps,params:=ps,assign,body,defers:=w.heap.size}:Loop)=rc .ready none:=by rw[←hrec]
 rw[e0]at hn;have ep:∀st pe,(rc st pe).pending=pe:=fun st pe=>by rw[←hrec]
 have es:∀st pe,(rc st pe).state=st:=fun st pe=>by rw[←hrec]
 have ex:∀st pe,({({rc .ready none with state:=.busy}:Loop)with state:=st,pending:=pe}:Loop)=rc st pe:=fun st pe=>by rw[←hrec]
 generalize hW1:(w.alloc (.deferred (some []))).alloc (.loop (rc .ready none))=W1 at hn;have s1:W1.heap.size=w.heap.size+2:=by rw[←hW1,Pq,Pq]
 have bw:Below w.heap.size w W1:=by rw[←hW1];exact((Pk _ w).alloc (Po _) _).alloc (by simp) _
 have hL:W1.heap[w.heap.size+1]?=some (.loop (rc .ready none)):=by
  have:=World.alloc_heap_new (w.alloc (.deferred (some []))) (.loop (rc .ready none))
  rwa [Pq,hW1]at this
 have hD:W1.heap[w.heap.size]?=some (.deferred (some [])):=by
  rw[←hW1];exact(Sf _ _ _ (by simp)).trans (World.alloc_heap_new w _)
 have fl:∀(st:LoopState) (W:World) (r:Loop),W.heap[w.heap.size+1]?=some (.loop r)→∀o:Obj,(W.putObj (w.heap.size+1) o).heap[w.heap.size+1]?=some o:=fun _ W r h o=>World.putObj_heap_same (sD h);refine⟨_,_,W1,{target:=.fn (.func gf) lb,args:=#[.func (.yield (w.heap.size+1)) #[] #[]]},W1,gf,#[.func (.yield (w.heap.size+1)) #[] #[]]++lb,W1,hn,?_,fun _ _=>trivial,by simp[invoke,go_sem,eg],fun _=>h1,?_⟩
 ·simp only[resolve,hg];simp[go_sem]
 have key:=hseq (w.heap.size+1)
  (fun pre W=>I pre W∧W.heap[w.heap.size+1]?=some (.loop (rc .ready none))∧W.heap[w.heap.size]?=some (.deferred (some [])))
  (fun pre W=>∃c,Ix c pre W∧W.heap[w.heap.size+1]?=some (.loop (rc .done (some c)))∧W.heap[w.heap.size]?=some (.deferred (some [])))
  W1 (hb0.trans (bw.mono hb0.size))
  (fun s A B row hs hgr hr=>⟨hI s A B row hs.1 hgr fun r e=>⟨by have:=(hr r e).1;omega,(hr r e).2⟩,(hgr.block _ (sD hs.2.1) fun e=>by have:=(hr _ e.symm).1;omega).trans hs.2.1,(hgr.block _ (sD hs.2.2) fun e=>by have:=(hr _ e.symm).1;omega).trans hs.2.2⟩)
  (fun s A B row hs hgr hr=>by
   obtain⟨c,h1,h2,h3⟩:=hs;exact⟨c,hIx c s A B row h1 hgr fun r e=>⟨by have:=(hr r e).1;omega,(hr r e).2⟩,(hgr.block _ (sD h2) fun e=>by have:=(hr _ e.symm).1;omega).trans h2,(hgr.block _ (sD h3) fun e=>by have:=(hr _ e.symm).1;omega).trans h3⟩)
  ?_ ⟨OwnFrom.alloc' hI bw h0,hL,hD⟩
 ·refine key.mono ?_;rintro e W2 ⟨⟨v,rfl⟩,⟨ys,hS,hi,hl,hd⟩ |⟨pre,hS,c,hi,hl,hd⟩⟩
  ·have hr:=run_endLoop (P:=P) hl (by rw[es];simp);rw[ep]at hr;refine⟨none,_,hr,hdone _ ys _ (Po _) hS (hI.putObj _ hi (by omega) hl rfl) ((QP (by omega)).trans hd)⟩
  ·have hr:=run_endLoop (P:=P) hl (by rw[es];simp);rw[ep]at hr;refine⟨some c,_,hr,hstop _ c pre _ (Po _) hS ((hIx c).putObj _ hi (by omega) hl rfl) ((QP (by omega)).trans hd)⟩
 ·rintro pre x W ⟨hi,hl,hd⟩ hlen;have hy:=run_yield (P:=P) (args:=Bf x) hl (by rw[←hrec];exact hps x);have hbg:=run_beginRound (P:=P) hl (es _ _);have hl2:=fl .busy W _ hl (.loop {rc .ready none with state:=.busy});have hd2:(W.putObj (w.heap.size+1) (.loop {rc .ready none with state:=.busy})).heap[w.heap.size]?=some (.deferred (some [])):=(QP (by omega)).trans hd;have hi2:=hI.putObj (.loop {rc .ready none with state:=.busy}) hi (by omega) hl rfl;have hk2:Fc F T W1.heap.size W (W.putObj (w.heap.size+1) (.loop {rc .ready none with state:=.busy})):=Fc.put (fun b hb=>by have:=hF b hb;omega) (by omega) _;rw[←hrec]at hy;refine⟨fn,_,assign,body,hy,roundIn_of_wpIn hfn (hassign _ x W _ ⟨_,hbg,?_⟩)⟩;generalize W.putObj (w.heap.size+1) (.loop {rc .ready none with state:=.busy})=V at hl2 hd2 hi2 hk2⊢;have fin:∀(jump:Option Code) (V3:World),KeepsFrom w.heap.size V V3→(Instr.endRound (w.heap.size+1) jump).run P V3=.ok (.bool jump.isNone) (V3.putObj (w.heap.size+1) (.loop (rc (if jump.isNone then .ready else .done) jump)))∧V3.heap[w.heap.size+1]?=some (.loop {rc .ready none with state:=.busy})∧
    (V3.putObj (w.heap.size+1) (.loop (rc (if jump.isNone then .ready else .done) jump))).heap[w.heap.size+1]?=some (.loop (rc (if jump.isNone then .ready else .done) jump))∧(V3.putObj (w.heap.size+1) (.loop (rc (if jump.isNone then .ready else .done) jump))).heap[w.heap.size]?=some (.deferred (some [])):=fun jump V3 hk=>by
   have l3:=hk.same _ _ (by omega) hl2 rfl;have hr:=run_endRound (P:=P) jump l3;rw[ex]at hr;refine⟨hr,l3,fl .busy V3 _ l3 _,(QP (by omega)).trans (hk.same _ _ (Po _) hd2 rfl)⟩
  refine wpIn_mono (hbody _ pre x _ hi2 hlen) fun e a3 V3 hp=>?_;cases e with
  |normal=>
   obtain⟨h3,h4,h5⟩:=hp;obtain⟨r1,r2,r3,r4⟩:=fin none V3 h3;refine⟨_,_,r1,.inl ⟨rfl,⟨hI.putObj _ h5 (by omega) r2 rfl,r3,r4⟩,(hk2.trans ⟨h4.1,fun b cs ty fr ht hm hb=>h4.2 b cs ty fr ht (by omega) hb,⟨h3.size,fun k o hm hk ho=>h3.same k o (by omega) hk ho⟩⟩).trans (Fc.put (fun b hb=>by have:=hF b hb;omega) (by omega) _)⟩⟩
  |ret=>
   obtain⟨h3,h5⟩:=hp;obtain⟨r1,r2,r3,r4⟩:=fin (some .ret) V3 h3;exact⟨_,_,r1,.inr ⟨rfl,⟨.ret,(hIx _).putObj _ h5 (by omega) r2 rfl,r3,r4⟩,(hk2.o.trans ⟨h3.size,fun k o hm hk ho=>h3.same k o (by omega) hk ho⟩).trans (Fc.put (F:=F) (T:=T) (fun b hb=>by have:=hF b hb;omega) (by omega) _).o⟩⟩
  |exit id=>
   obtain⟨h3,h5⟩:=hp;obtain⟨r1,r2,r3,r4⟩:=fin (some (.exit id)) V3 h3;exact⟨_,_,r1,.inr ⟨rfl,⟨.exit id,(hIx _).putObj _ h5 (by omega) r2 rfl,r3,r4⟩,(hk2.o.trans ⟨h3.size,fun k o hm hk ho=>h3.same k o (by omega) hk ho⟩).trans (Fc.put (F:=F) (T:=T) (fun b hb=>by have:=hF b hb;omega) (by omega) _).o⟩⟩
  |goto q=>
   obtain⟨h3,h5⟩:=hp;obtain⟨r1,r2,r3,r4⟩:=fin (some (.goto q)) V3 h3;exact⟨_,_,r1,.inr ⟨rfl,⟨.goto q,(hIx _).putObj _ h5 (by omega) r2 rfl,r3,r4⟩,(hk2.o.trans ⟨h3.size,fun k o hm hk ho=>h3.same k o (by omega) hk ho⟩).trans (Fc.put (F:=F) (T:=T) (fun b hb=>by have:=hF b hb;omega) (by omega) _).o⟩⟩
  |panic ch=>exact hp.elim
  |outgrown=>exact hp.elim
end
