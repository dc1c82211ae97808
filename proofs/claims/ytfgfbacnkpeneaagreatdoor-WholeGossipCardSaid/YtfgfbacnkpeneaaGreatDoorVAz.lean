/- For WholeGossip: contracts of functions and plain laws. -/
import Derived.Test.YtfgfbacnkpeneaaGreatDoorVAx
import Derived.WideKeyEntry
set_option maxRecDepth 100000
set_option maxHeartbeats 4000000
set_option linter.unusedVariables false
set_option linter.unusedSimpArgs false
namespace Go.Proofs.YtfgfbacnkpeneaaGreatDoor
open Go.Proofs.Tryz Go.ChangeShapes Go.WideShapes Go.ChangeAt Go.RowKit Go.Deep Go.MapKept Go.ChangeMaps
abbrev TC:=@Go.Proofs.Tryz.underlying341
abbrev We:=@Array.length_toList
theorem OA{P:Prop}(h:P:=by
 simp[Instr.entryStore,QQ hw2,asInt,asIntOf,goInt,hidx,hmod,Q8 _ hw2,Result.andThen,setBlock]):P:=h
section
section
variable{P:Program}{k e t:TypeId}{κ β:Type}{enc:κ→Value}{ok:κ→Prop}{venc:β→Value}{w w':World}{M:Nat}{g:κ→Option β}
theorem cF.entry[DecidableEq κ](K:MK P k enc ok)(ht:P.underlying t=some (.map k e))(h:cF P k enc ok venc w M g){a:κ}(ha:ok a){zbq:β}(hz:∀u:World,(zeroValue e).run P u=.ok (venc zbq) u):
  ∃(st:Nat) (w1:World),(Instr.mapEntry t (.map (some M)) (enc a)).run P w=.ok (.tuple #[venc ((g a).getD zbq),goInt st]) w1∧cF P k enc ok venc w1 M (fun x=>if x=a then some ((g a).getD zbq)else g x)∧Km (fun b=>b=M) w w1∧w1.heap.size=w.heap.size∧
   ∀(w2:World) (b:β),w2.heap[M]?=w1.heap[M]?→∃w',(Instr.entryStore t (.map (some M)) (goInt st) (venc b)).run P w2=.ok () w'∧cF P k enc ok venc w' M (fun x=>if x=a then some b else g x)∧Km (fun b=>b=M) w2 w'∧w'.heap.size=w2.heap.size:=by
 obtain⟨st,es1,clock1,e1,e2,e3⟩:∃(st:Nat) (es1:Array MapEntry) (clock1:Nat),(Instr.mapEntry t (.map (some M)) (enc a)).run P w=.ok (.tuple #[venc ((g a).getD zbq),goInt st]) (setBlock w M (.map es1 clock1))∧
   (Instr.mapUpdate t (.map (some M)) (enc a) (venc ((g a).getD zbq))).run P w=.ok () (setBlock w M (.map es1 clock1))∧
   ∀(w2:World) (val:Value),w2.heap[M]?=some (.map es1 clock1)→∃es' clock',(Instr.entryStore t (.map (some M)) (goInt st) val).run P w2=.ok () (setBlock w2 M (.map es' clock'))∧
    (Instr.mapUpdate t (.map (some M)) (enc a) val).run P w=.ok () (setBlock w M (.map es' clock')):=by
  obtain⟨l,hl⟩:=K.lit a ha;obtain⟨es,clock,hb,hst,h1,h2,⟨hg,hno,h3⟩ |⟨j,x,b0,hg,hj,hk,hv,h3⟩⟩:=h.find K ha
  ·obtain⟨s1,s2,_⟩:=hst;refine⟨clock,es.push ⟨enc a,venc zbq,clock⟩,clock+1,?_,?_,fun w2 val hw2=>⟨es.push ⟨enc a,val,clock⟩,clock+1,?_,?_⟩⟩
   ·rw[hg];simp[Instr.mapEntry,Qu ht,QQ hb,K.keyed.check w false hl,h3 w,hz,Q8 _ hb,Result.andThen,setBlock]
   ·rw[hg];simp[Instr.mapUpdate,Qu ht,QQ hb,K.keyed.check w false hl,h3 w,Q8 _ hb,Result.andThen,setBlock]
   ·have hidx:(es.push ⟨enc a,venc zbq,clock⟩).findIdx? (fun e=>((e.born:Nat):Int)==((clock:Nat):Int))=some es.size:=by
     rw[WideElems.findIdx_arr];exact WideElems.findIdx_born (l:=(es.push ⟨enc a,venc zbq,clock⟩).toList) (j:=es.size) (e0:=⟨enc a,venc zbq,clock⟩) (by
      simp only[SR,PU,UA,UV];refine PW.2 ⟨s2,by simp,fun a ha c hc e1=>?_⟩;simp only[Ql]at hc;obtain⟨x,hx,rfl⟩:=Uu.1 ha;have:=s1 x hx;omega) (by simp)
    have hmod:(es.push ⟨enc a,venc zbq,clock⟩).modify es.size (fun e=>{e with val:=val})=es.push ⟨enc a,val,clock⟩:=by
     apply SJ;rw[SS,SR,SR,←We,WideElems.modify_last]
    exact OA
   ·simp[Instr.mapUpdate,Qu ht,QQ hb,K.keyed.check w false hl,h3 w,Q8 _ hb,Result.andThen,setBlock]
  ·obtain⟨s1,s2,_⟩:=hst;have hj':es[j]?=some x:=by simpa using hj
   have hsame:∀f:MapEntry→MapEntry,f x=x→es.modify j f=es:=fun f hf=>by
    apply SJ;rw[SS,modify_eq_set _ _ _ _ hj,hf];exact WideElems.set_self _ _ _ hj
   have hs1:=hsame (fun e=>{e with key:=enc a}) (by rw[←hk]);have hs2:=hsame (fun e=>{e with key:=enc a,val:=venc b0}) (by rw[←hk,←hv]);refine⟨x.born,es,clock,?_,?_,fun w2 val hw2=>⟨es.modify j (fun e'=>{e' with key:=enc a,val:=val}),clock,?_,?_⟩⟩
   ·rw[hg];simp[Instr.mapEntry,Qu ht,QQ hb,K.keyed.check w false hl,h3 w,hj',hk,hv,K.keyed.stays w hl,hs1,Q8 _ hb,Result.andThen,setBlock]
   ·rw[hg];simp[Instr.mapUpdate,Qu ht,QQ hb,K.keyed.check w false hl,h3 w,hj',hk,K.keyed.stays w hl,hs2,Q8 _ hb,Result.andThen,setBlock]
   ·have hidx:es.findIdx? (fun e=>((e.born:Nat):Int)==((x.born:Nat):Int))=some j:=by
     rw[WideElems.findIdx_arr];exact WideElems.findIdx_born s2 hj
    have hmod:es.modify j (fun e=>{e with val:=val})=es.modify j (fun e'=>{e' with key:=enc a,val:=val}):=by
     apply SJ;rw[SS,SS,modify_eq_set _ _ _ _ hj,modify_eq_set _ _ _ _ hj,←hk]
    exact OA
   ·simp[Instr.mapUpdate,Qu ht,QQ hb,K.keyed.check w false hl,h3 w,hj',hk,K.keyed.stays w hl,Q8 _ hb,Result.andThen,setBlock]
 obtain⟨es0,clock0,hb0,_⟩:=h.ex;obtain⟨w1,p1,p2,p3,p4⟩:=h.put K ht ha ((g a).getD zbq);rw[e2]at p1;cases p1;refine⟨st,_,e1,p2,p3,p4,fun w2 b hw2=>?_⟩;obtain⟨es',clock',q1,q2⟩:=e3 w2 (venc b) (hw2.trans (heap_setBlock_same hb0 _));obtain⟨w3,r1,r2,r3,r4⟩:=h.put K ht ha b;rw[q2]at r1;cases r1;have hb2:=hw2.trans (heap_setBlock_same hb0 _);exact⟨_,q1,r2.at ((heap_setBlock_same hb2 _).trans (heap_setBlock_same hb0 _).symm),lB hb2 _,by simp[setBlock]⟩
end
abbrev Kd:Type:=Int×Int×Int
abbrev Ej(a:Kd):Value:=.agg #[.int .i64 a.1,.int .i64 a.2.1,.int .i64 a.2.2]
abbrev AJ(a:Kd):Prop:=Mc a.1∧Mc a.2.1∧Mc a.2.2
theorem Cx:laidOutB prog=true:=by kernel_rfl
theorem LH:prog.keyType 341=true:=by kernel_rfl
theorem yb:prog.cellsOf 341=3:=by kernel_rfl
theorem LI:prog.cellsOf 3=1:=by kernel_rfl
theorem Cw:∃m,prog.types.size=m+2:=⟨prog.types.size - 2,by kernel_rfl⟩
theorem LC:(341:TypeId)<prog.types.size:=Wd (by kernel_rfl)
theorem JS:prog.keyTypeAt 2 341=true:=by kernel_rfl
theorem LG:WideMaps.KeyLaw prog 341:=deep_law_laid Cx (m:=2) (by omega) LC JS (by rw[TC])
theorem GH(a:Kd)(h:AJ a):∃l,keyOf prog 341 (Ej a)=some l:=by
 obtain⟨m,hm⟩:=Cw;obtain⟨h1,h2,h3⟩:=h;refine⟨.string (keyBytes [.int .i64 a.1,.int .i64 a.2.1,.int .i64 a.2.2]),?_⟩;unfold keyOf;simp only[TC];rw[Pj (by simp[LH,Value.formed,TC,yb]),hm];unfold Program.keyLits;simp only[TC,Value.cells];rw[Pj ⟨by rw[yb];rfl,by simp⟩];simp[LI,Program.keyLits,U7,h1,h2,h3]
theorem Gl:MK prog 341 Ej AJ:=⟨Maps.Keyed.of_law LG,GH,fun a b h=>by
 obtain⟨a1,a2,a3⟩:=a;obtain⟨b1,b2,b3⟩:=b;simp only[Ej,Value.agg.injEq]at h;simpa using h⟩
end
