/- For WholeGone: contracts of functions and plain laws. -/
import Derived.Test.YtfgfbacnkpeneaaGreatDoorZAi
import Derived.Maps.Keyed
import Derived.Maps.RangeRun
import Derived.WideKeyArgs2
import Derived.Carry
import Derived.StringKeys
import Derived.DeepKeys4
set_option maxRecDepth 100000
set_option maxHeartbeats 4000000
set_option linter.unusedVariables false
set_option linter.unusedSimpArgs false
namespace Go.Proofs.YtfgfbacnkpeneaaGreatDoor
open Go.Proofs.Tryz Go.ChangeShapes Go.WideShapes Go.ChangeAt Go.RowKit Go.Deep Go.ChangeMaps Go.MapKept
abbrev Pv:=@List.mem_of_getElem?
abbrev Qh:=@List.getElem?_eq_some_iff
abbrev Ql:=@List.mem_singleton
abbrev Qu:=@Go.run_underlying
abbrev QQ:=@Go.MapKept.run_getObj_map
abbrev Q8:=@Go.MapKept.run_setObj_map
abbrev Ry:=@List.mem_iff_getElem?
abbrev SR:=@Array.toList_push
abbrev SS:=@Array.toList_modify
abbrev TT:=@List.getElem?_set_self
section
open Go.Maps (Keyed)
structure MK(P:Program)(k:TypeId){κ:Type}(enc:κ→Value)(ok:κ→Prop):Prop where
 keyed:Keyed P k
 lit:∀a,ok a→∃l,keyOf P k (enc a)=some l
 inj:∀a b,enc a=enc b→a=b
theorem gT{es:Array MapEntry}{clock:Nat}(h:Stamped es clock){i j:Nat}{x y:MapEntry}(hi:es.toList[i]?=some x)(hj:es.toList[j]?=some y)(e:x.key=y.key):i=j:=by
 have hil:=(Qh.1 hi).1;exact(List.getElem?_inj (l:=es.toList.map (·.key)) (by simpa using hil) h.2.2).1 (by rw[UT,UT,hi,hj];simp[e])
section
variable{P:Program}{k e t:TypeId}{κ β:Type}{enc:κ→Value}{ok:κ→Prop}{venc:β→Value}{w w':World}{M:Nat}{g:κ→Option β}
structure cF(P:Program)(k:TypeId){κ β:Type}(enc:κ→Value)(ok:κ→Prop)(venc:β→Value)(w:World)(M:Nat)(g:κ→Option β):Prop where
 ex:∃es clock,w.heap[M]?=some (.map es clock)∧Stamped es clock∧(∀x∈es.toList,∃a b,ok a∧x.key=enc a∧x.val=venc b∧g a=some b)∧∀a b,g a=some b→∃x∈es.toList,x.key=enc a∧x.val=venc b
theorem cF.lt(h:cF P k enc ok venc w M g):M<w.heap.size:=by
 obtain⟨es,clock,hb,_⟩:=h.ex;exact am hb
theorem gy(w:World):cF P k enc ok venc (w.alloc (.map #[] 0)) w.heap.size (fun _=>none):=
 ⟨#[],0,Up _ _,stamped_empty 0,by simp,by simp⟩
theorem cF.at(h:cF P k enc ok venc w M g)(hb:w'.heap[M]?=w.heap[M]?):cF P k enc ok venc w' M g:=by
 obtain⟨es,clock,hb',h2,h3,h4⟩:=h.ex;exact⟨es,clock,hb.trans hb',h2,h3,h4⟩
theorem cF.kp{F:Nat→Prop}(h:cF P k enc ok venc w M g)(hk:Km F w w')(hf:¬F M):cF P k enc ok venc w' M g:=h.at (hk.block M h.lt hf)
theorem cF.below(h:cF P k enc ok venc w M g)(hb:Below w.heap.size w w'):cF P k enc ok venc w' M g:=h.at (hb.block M h.lt)
theorem cF.congr{g':κ→Option β}(h:cF P k enc ok venc w M g)(e:∀a,g' a=g a):cF P k enc ok venc w M g':=by
 rw[show g'=g from funext e];exact h
def ov(venc:β→Value)(z:Value)(c:Bool):Option β→Value
 |some b=>if c then .tuple #[venc b,.bool true]else venc b
 |none=>if c then .tuple #[z,.bool false]else z
theorem cF.find(K:MK P k enc ok)(h:cF P k enc ok venc w M g){a:κ}(ha:ok a):
  ∃es clock,w.heap[M]?=some (.map es clock)∧Stamped es clock∧(∀x∈es.toList,∃a b,ok a∧x.key=enc a∧x.val=venc b∧g a=some b)∧(∀a b,g a=some b→∃x∈es.toList,x.key=enc a∧x.val=venc b)∧
   ((g a=none∧(∀x∈es.toList,x.key≠enc a)∧∀W:World,(Instr.findKey k (enc a) es.toList).run P W=.ok none W)∨
    ∃j x b,g a=some b∧es.toList[j]?=some x∧x.key=enc a∧x.val=venc b∧∀W:World,(Instr.findKey k (enc a) es.toList).run P W=.ok (some (j,x.val)) W):=by
 obtain⟨es,clock,hb,hst,h1,h2⟩:=h.ex;refine⟨es,clock,hb,hst,h1,h2,?_⟩;obtain⟨l,hl⟩:=K.lit a ha;have hks:∀x∈es.toList,∃l,keyOf P k x.key=some l:=fun x hx=>by
  obtain⟨a',_,ha',e1,_⟩:=h1 x hx;rw[e1];exact K.lit a' ha'
 have huniq:∀(x y:MapEntry),x∈es.toList→y∈es.toList→x.key=y.key→x=y:=fun x y hx hy exy=>by
  obtain⟨i,hi⟩:=Ry.1 hx;obtain⟨j,hj⟩:=Ry.1 hy;have:=gT hst hi hj exy;subst this;exact UC (hi.symm.trans hj)
 rcases hg:g a with _ |b
 ·left;have hno:∀x∈es.toList,x.key≠enc a:=fun x hx e=>by
   obtain⟨a',b',_,e1,_,e3⟩:=h1 x hx;have:=K.inj _ _ (e1.symm.trans e);rw[this,hg]at e3;cases e3
  refine⟨rfl,hno,fun W=>?_⟩;rcases K.keyed.find W hl es.toList hks with⟨h3,_⟩ |⟨j,x,_,hj,hk⟩
  ·exact h3
  ·exact absurd hk (hno x (Pv hj))
 ·right;obtain⟨x,hx,e1,e2⟩:=h2 a b hg;obtain⟨j,hj⟩:=Ry.1 hx;refine⟨j,x,b,rfl,hj,e1,e2,fun W=>?_⟩;rcases K.keyed.find W hl es.toList hks with⟨_,hno⟩ |⟨i,y,h3,hi,hk⟩
  ·exact absurd e1 (hno x hx)
  ·have hxy:y=x:=huniq y x (Pv hi) hx (hk.trans e1.symm);have hij:i=j:=gT hst hi hj (by rw[hxy]);rw[h3,hij,hxy]
theorem cF.look(K:MK P k enc ok)(ht:P.underlying t=some (.map k e))(h:cF P k enc ok venc w M g){a:κ}(ha:ok a){z:Value}(hz:(zeroValue e).run P w=.ok z w)(c:Bool):
  (Instr.lookup t (.map (some M)) (enc a) c).run P w=.ok (ov venc z c (g a)) w:=by
 obtain⟨l,hl⟩:=K.lit a ha;obtain⟨es,clock,hb,_,_,_,⟨hg,_,h3⟩ |⟨j,x,b,hg,_,_,hv,h3⟩⟩:=h.find K ha
 ·rw[hg];cases c<;>simp[ov,Instr.lookup,Qu ht,QQ hb,K.keyed.check w _ hl,h3 w,hz,Result.andThen]
 ·rw[hg];cases c<;>simp[ov,Instr.lookup,Qu ht,QQ hb,K.keyed.check w _ hl,h3 w,hv,Result.andThen]
theorem Gu(K:MK P k enc ok)(ht:P.underlying t=some (.map k e)){a:κ}(ha:ok a){z:Value}(hz:(zeroValue e).run P w=.ok z w)(c:Bool):
  (Instr.lookup t (.map none) (enc a) c).run P w=.ok (ov venc z c none) w:=by
 obtain⟨l,hl⟩:=K.lit a ha;have hf:(Instr.findKey k (enc a) []).run P w=.ok none w:=by
  rcases K.keyed.find w hl [] (by simp)with⟨h3,_⟩ |⟨j,x,_,hj,hk⟩
  ·exact h3
  ·simp at hj
 cases c<;>simp[ov,Instr.lookup,Qu ht,K.keyed.check w _ hl,hf,hz,Result.andThen]
theorem lB{es:Array MapEntry}{clock:Nat}(hb:w.heap[M]?=some (.map es clock))(o:Obj):Km (fun b=>b=M) w (setBlock w M o):=
 ⟨rfl,rfl,rfl,by simp[setBlock],fun i _ hi=>heap_setBlock_other hb _ (fun e=>hi e)⟩
theorem xN{α:Type}{l:List α}{j:Nat}{x e0 y:α}(hj:l[j]?=some e0)(hx:x∈l)(hne:x≠e0):x∈l.set j y:=by
 obtain⟨i,hi,ei⟩:=List.getElem_of_mem hx;refine Pv (i:=i) ?_;rw[List.getElem?_set,Pm (fun e=>hne ?_),PT hi,ei];subst e;rw[PT hi,ei]at hj;exact UC hj
theorem cF.put[DecidableEq κ](K:MK P k enc ok)(ht:P.underlying t=some (.map k e))(h:cF P k enc ok venc w M g){a:κ}(ha:ok a)(b:β):
  ∃w',(Instr.mapUpdate t (.map (some M)) (enc a) (venc b)).run P w=.ok () w'∧cF P k enc ok venc w' M (fun x=>if x=a then some b else g x)∧Km (fun b=>b=M) w w'∧w'.heap.size=w.heap.size:=by
 obtain⟨l,hl⟩:=K.lit a ha;obtain⟨es,clock,hb,hst,h1,h2,⟨hg,hno,h3⟩ |⟨j,x,b0,hg,hj,hk,hv,h3⟩⟩:=h.find K ha
 ·refine⟨setBlock w M (.map (es.push ⟨enc a,venc b,clock⟩) (clock+1)),by simp[Instr.mapUpdate,Qu ht,QQ hb,K.keyed.check w false hl,h3 w,Q8 _ hb,Result.andThen,setBlock],?_,lB hb _,by simp[setBlock]⟩;refine⟨_,_,heap_setBlock_same hb _,stamped_push hst hno,?_,?_⟩
  ·intro x hx;simp only[SR,Px,Ql]at hx;rcases hx with hx |rfl
   ·obtain⟨a',b',ha',e1,e2,e3⟩:=h1 x hx;refine⟨a',b',ha',e1,e2,?_⟩;rw[Pm (fun e4=>hno x hx (e1.trans (by rw[e4])))];exact e3
   ·exact⟨a,b,ha,rfl,rfl,Pj rfl⟩
  ·intro a' b' hab;simp only[SR,Px,Ql];by_cases he:a'=a
   ·rw[Pj he]at hab;cases hab;exact⟨_,.inr rfl,by rw[he],rfl⟩
   ·rw[Pm he]at hab;obtain⟨x,hx,e1,e2⟩:=h2 a' b' hab;exact⟨x,.inl hx,e1,e2⟩
 ·have hj':es[j]?=some x:=by simpa using hj
  have hkeyf:∀e',es[j]?=some e'→({e' with key:=enc a,val:=venc b}:MapEntry).key=e'.key:=fun e' he'=>by rw[hj']at he';cases he';exact hk.symm
  have hlist:(es.modify j (fun e'=>{e' with key:=enc a,val:=venc b})).toList=es.toList.set j {x with key:=enc a,val:=venc b}:=by rw[SS,ChangeMaps.modify_eq_set _ _ _ _ hj]
  refine⟨setBlock w M (.map (es.modify j (fun e'=>{e' with key:=enc a,val:=venc b})) clock),by simp[Instr.mapUpdate,Qu ht,QQ hb,K.keyed.check w false hl,h3 w,hj',hk,K.keyed.stays w hl,Q8 _ hb,Result.andThen,setBlock],?_,lB hb _,by simp[setBlock]⟩;have huniq:∀y∈es.toList,y.key=enc a→y=x:=fun y hy ey=>by
   obtain⟨i,hi⟩:=Ry.1 hy;have:=gT hst hi hj (ey.trans hk.symm);subst this;exact UC (hi.symm.trans hj)
  refine⟨_,_,heap_setBlock_same hb _,stamped_modify hst _ _ (fun _ _=>rfl) (fun e' _ he'=>hkeyf e' he'),?_,?_⟩
  ·rw[hlist];intro y hy;by_cases hyk:y.key=enc a
   ·rcases List.mem_or_eq_of_mem_set hy with hy' |rfl
    ·obtain⟨i,hi⟩:=Ry.1 hy;obtain⟨hjl,_⟩:=Qh.1 hj;by_cases hij:j=i
     ·rw[←hij,TT hjl]at hi;cases hi;exact⟨a,b,ha,rfl,rfl,Pj rfl⟩
     ·rw[List.getElem?_set,Pm hij]at hi;exact absurd (gT hst hj hi (hk.trans hyk.symm)) hij
    ·exact⟨a,b,ha,rfl,rfl,Pj rfl⟩
   ·rcases List.mem_or_eq_of_mem_set hy with hy' |rfl
    ·obtain⟨a',b',ha',e1,e2,e3⟩:=h1 y hy';exact⟨a',b',ha',e1,e2,by rw[Pm (fun e4=>hyk (e1.trans (by rw[e4])))];exact e3⟩
    ·exact absurd rfl hyk
  ·rw[hlist];intro a' b' hab;by_cases he:a'=a
   ·rw[Pj he]at hab;cases hab;obtain⟨hjl,_⟩:=Qh.1 hj;exact⟨_,Pv (i:=j) (by rw[TT hjl]),by rw[he],rfl⟩
   ·rw[Pm he]at hab;obtain⟨y,hy,e1,e2⟩:=h2 a' b' hab;refine⟨y,xN hj hy (fun e3=>he (K.inj _ _ ?_)),e1,e2⟩;rw[←e1,e3,hk]
theorem cF.del[DecidableEq κ](K:MK P k enc ok)(ht:P.underlying t=some (.map k e))(h:cF P k enc ok venc w M g){a:κ}(ha:ok a)(ty:TypeId):
  ∃w',(Builtin.delete_ #[t,k] ty #[.map (some M),enc a]).run P w=.ok (.tuple #[]) w'∧cF P k enc ok venc w' M (fun x=>if x=a then none else g x)∧Km (fun b=>b=M) w w'∧w'.heap.size=w.heap.size:=by
 obtain⟨l,hl⟩:=K.lit a ha;obtain⟨es,clock,hb,hst,h1,h2,⟨hg,hno,h3⟩ |⟨j,x,b0,hg,hj,hk,hv,h3⟩⟩:=h.find K ha
 ·refine⟨setBlock w M (.map es clock),by simp[Builtin.delete_,Qu ht,QQ hb,K.keyed.check w _ hl,h3 w,Q8 _ hb,Result.andThen,setBlock],?_,lB hb _,by simp[setBlock]⟩;refine⟨_,_,heap_setBlock_same hb _,hst,?_,?_⟩
  ·intro x hx;obtain⟨a',b',ha',e1,e2,e3⟩:=h1 x hx;exact⟨a',b',ha',e1,e2,by rw[Pm (fun e4=>hno x hx (e1.trans (by rw[e4])))];exact e3⟩
  ·intro a' b' hab;by_cases he:a'=a
   ·rw[Pj he]at hab;cases hab
   ·rw[Pm he]at hab;exact h2 a' b' hab
 ·obtain⟨hjl,ejl⟩:=Qh.1 hj;have hjs:j<es.size:=by simpa using hjl
  have hsub:(es.eraseIdxIfInBounds j).toList=es.toList.eraseIdx j:=by
   unfold Array.eraseIdxIfInBounds;rw[dif_pos hjs];simp
  refine⟨setBlock w M (.map (es.eraseIdxIfInBounds j) clock),by simp[Builtin.delete_,Qu ht,QQ hb,K.keyed.check w _ hl,h3 w,Q8 _ hb,Result.andThen,setBlock],?_,lB hb _,by simp[setBlock]⟩;refine⟨_,_,heap_setBlock_same hb _,stamped_erase hst j,?_,?_⟩
  ·rw[hsub];intro y hy;obtain⟨i,hne,hi⟩:=List.mem_eraseIdx_iff_getElem?.1 hy;obtain⟨a',b',ha',e1,e2,e3⟩:=h1 y (Pv hi);refine⟨a',b',ha',e1,e2,?_⟩;rw[Pm (fun e4=>?_)]
   ·exact e3
   ·exact hne (gT hst hi hj (by rw[e1,hk,e4]))
  ·rw[hsub];intro a' b' hab;by_cases he:a'=a
   ·rw[Pj he]at hab;cases hab
   ·rw[Pm he]at hab;obtain⟨y,hy,e1,e2⟩:=h2 a' b' hab;refine⟨y,?_,e1,e2⟩;obtain⟨i,hi,ei⟩:=List.getElem_of_mem hy;refine List.mem_eraseIdx_iff_getElem?.2 ⟨i,fun e3=>he (K.inj _ _ ?_),by rw[PT hi,ei]⟩;subst e3;rw[←e1,←ei,ejl,hk]
end
section
variable{P:Program}{k:TypeId}
theorem Lr(hk:P.underlying k=some (.int .i64)):MK P k (fun a:Int=>Value.int .i64 a) (fun a=>(Lit.int .i64 a).wf=true):=
 ⟨Maps.int_keyed hk,fun a ha=>⟨_,Maps.keyOf_int_mk hk ha⟩,fun a b h=>by cases h;rfl⟩
theorem Lp(hk:P.underlying k=some .string):MK P k (fun a:ByteArray=>Value.string a) (fun a=>a.size≤maxLen):=
 ⟨Maps.string_keyed hk,fun a ha=>⟨_,WideMaps.keyOf_string_mk hk ha⟩,fun a b h=>by cases h;rfl⟩
end
end
