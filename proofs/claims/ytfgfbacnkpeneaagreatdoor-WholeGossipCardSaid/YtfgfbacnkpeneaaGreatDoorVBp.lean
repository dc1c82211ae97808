/- For WholeGossip: contracts of functions and plain laws. -/
import Derived.Test.YtfgfbacnkpeneaaGreatDoorVBm
import Derived.Test.YtfgfbacnkpeneaaGreatDoorVBn
set_option maxRecDepth 100000
set_option maxHeartbeats 4000000
set_option linter.unusedVariables false
set_option linter.unusedSimpArgs false
namespace Go.Proofs.YtfgfbacnkpeneaaGreatDoor
open Go.Proofs.Tryz Go.ChangeShapes Go.WideShapes Go.ChangeAt Go.RowKit Go.Deep Go.Shelf AvlP
abbrev Tn:=@Nat.add_sub_cancel_left
theorem IS{P:Prop}(h:P:=by
 (refine zu hK trivial ?_;clear hK K;try simp only[zp]);refine aE 5 (by kernel_rfl) rfl (fun K hK=>?_);rw[Pj (by rfl)];refine iT (.tmp 15) (.tmp 19) 84 rfl w.heap.size 169 i0 (.agg #[.string ⟨#[]⟩,.string ⟨#[]⟩,.int .i64 0,.int .i64 0,.int .i64 0,.slice none 0 0]) 6 80 underlying84 hi hz0 hz1 hz2 rfl (by decide) v ls.length _ (by rfl) (hN1.row.alloc _) ⟨w1.heap.size,0,none⟩ 1 1 (je (mS cg z.1.1 (D z.1.1)) (.slice uA (mS cg z.1.1 (D z.1.1)).bk.length uc)) (by rfl) rfl (cJ w1 _ _) (by simp[je,Value.oneCell']) (by unfold maxLen;omega) (by omega) (by simp;omega) ?_;intro v' w2 hown' hgrow hlies;obtain⟨g',cap',rfl⟩:=Qv hown';obtain⟨hv1,hv2,hr2,hk2,hb2⟩:=hvb1.appended (by decide) hN1.row hb1 (Po _) hown' hgrow;have hc1:=hv1.cell;have hf1:=hv1.frozen;(refine zu hK trivial ?_;clear hK K;try simp only[zp]);(refine zo 6 rfl fun K hK=>?_;go_simp);(refine zu hK trivial ?_;clear hK K;try simp only[zp]);(refine ze ?_);exact HFIN.out _ _ _ _ _ _ o1 b1 hown' hgrow hlies hv1 hv2 hk2 hb2):P:=h
theorem Uj{P:Prop}(h:P:=by
 (refine zu hK (ar hwd _) ?_;clear hK K;try simp only[zp]);refine aE 9 (by kernel_rfl) rfl (fun K hK=>?_);rw[Pj (by rfl)];refine iT (.tmp 24) (.tmp 32) 86 rfl w.heap.size 178 i0 (.agg #[.string ⟨#[]⟩,.string ⟨#[]⟩,.slice none 0 0]) 3 56 underlying86 hi hz0 hz1 hz2 rfl (by decide) v ls.length _ (by rfl) (hN3.row.alloc _) ⟨W3.drew.heap.size,0,none⟩ 1 1 (jX ⟨s0,s1,[]⟩ (.slice none 0 0)) (by rfl) rfl (cJ W3.drew _ _) (by simp[jX,Value.oneCell']) (by unfold maxLen;omega) (by omega) (by simp;omega) ?_;intro v' w5 hown' hgrow hlies;obtain⟨g',cap',rfl⟩:=Qv hown';obtain⟨k1,k2,k3,k4,k5,k6,k7⟩:=Hr (x:=⟨s0,s1,[]⟩) hN3 hv3 (by omega) rfl hown' hgrow hlies;have hc1:=k1.cell;have hf1:=k1.frozen;(refine zu hK (k2 (by decide) hwd) ?_;clear hK K;try simp only[zp]);(refine zo 10 rfl fun K hK=>?_;go_simp);(refine zu hK (k5 (by omega) (by decide) hwd) ?_;clear hK K;try simp only[zp]);(refine ze ?_);have q1:=k5 (by omega) (by decide) hs3;have q2:=k5 (by omega) (by decide) hy3;generalize w5.setCell ⟨w.heap.size,0,none⟩ (.slice (some ⟨g',0,none⟩) (ls.length+1) cap')=w6 at k3 k4 k6 k7 q1 q2⊢;exact HG g' cap' w6 ⟨k3,k4,q1,q2,k6,k7⟩):P:=h
section
theorem GO:(prog.info? 9).map (fun i=>(i.zero,i.size,i.bytes))=some (some (.string ByteArray.empty),1,16):=by kernel_rfl
theorem EF(s:ByteArray)(hs:s.size≤1000000)(w:World):
  Calls prog 82 #[.string s,.string gQ] w fun e w'=>e=.returned (.slice (some ⟨w.heap.size,0,none⟩) (CG s).length (CG s).length)∧w'=w.alloc (.cells ((CG s).map Value.string).toArray 9):=by
 have h1:1≤gQ.size:=by decide
 have hle:=Lib.countB_le gQ h1 s.size s (Po _);have hlen:=Lib.splitB_all gQ h1 0 _ s rfl;have hone:∀x:ByteArray,Lib.countB x gQ=Lib.countByte x.data.toList 0:=fun x=>by
  show Lib.count x.data.toList [0]=_;rw[Lib.count_one];rfl
 have c:=Any.strings_genSplit_core Tryz.lays221 GO s gQ 0 (-1) (Lib.countB s gQ+1) w (by omega) h1 (QZ _)
  (fun x c hx=>(Tryz.strings_Index_one x 0 _).mono fun e w' ⟨he,hw⟩=>⟨by rw[he];show _=Ending.returned (.int .i64 (Lib.index x.data.toList [0]));rw[Lib.index_one],hw⟩)
  ((Tryz.strings_Count_one s 0 w).mono fun e w' ⟨he,hw⟩=>⟨by rw[he,hone],hw⟩) (by decide) (by decide) (by rw[Pj (by decide)];omega)
 rw[Nat.add_sub_cancel,hlen]at c;have e2:Lib.cellsOf (Lib.splitB gQ 0 (Lib.countB s gQ) s) (Lib.countB s gQ+1)=((Lib.splitB gQ 0 (Lib.countB s gQ) s).map Value.string).toArray:=by rw[←hlen];exact Lib.cellsOf_full _
 rw[e2]at c;have hL:(CG s).length=Lib.countB s gQ+1:=hlen;rw[hL];unfold CG;have HC:=zH c;clear c hone hlen hL e2 hle;go_enter func82,ntmps82;go_wp2_with (go_at_call 141;go_loud (refine(HC.out).mono ?_);rintro e w1 ⟨rfl,rfl⟩);go_ret;exact⟨rfl,rfl⟩
theorem EG(k:ByteArray)(h1:16≤k.size)(h2:k.size≤1000000)(w:World):
  Calls prog 81 #[.string k] w fun e w'=>e=.returned (.tuple #[.string (mr k),.int .i64 (J7 k)])∧Below w.heap.size w w':=by
 have HK:=zH (fun w1=>lD (k.extract (k.size - 16) k.size) w1);go_enter func81,ntmps81;go_wp2_with (go_at_call 140;(with_reducible refine(HK.out _).mono ?_);rintro e w1 ⟨rfl,b1⟩);go_ret2;exact⟨rfl,b1⟩
theorem Hq(B q:Nat)(k:ByteArray)(w:World):
  Calls prog 80 #[.pointer (some ⟨B,q,none⟩),.string k] w fun e w'=>e=.returned (.func (.func 215) #[] #[.pointer (some ⟨w.heap.size,0,none⟩),.pointer (some ⟨w.heap.size+1,0,none⟩)])∧w'=(w.alloc (.cells #[.pointer (some ⟨B,q,none⟩)] 252)).alloc (.cells #[.string k] 9):=by
 have HF:=zH (fun w1=>MF ⟨B,q,none⟩ k w1);go_enter func80,ntmps80;go_wp2_with (go_at_call 139;(with_reducible refine(HF.out _).mono ?_);rintro e w1 ⟨rfl,rfl⟩);go_ret;exact⟨rfl,rfl⟩
section
variable{α:Type}{W W1:World}{n₀ g cap j:Nat}{T E:TypeId}{sz isz:Nat}{oc:α→Value→List Value}{ic:α→List Value}{il:α→Nat}{l:List (α×Value)}{x x':α}{u u':Value}{tmp:Obj}
theorem fV.last(h:fV W n₀ T E sz isz oc ic il (.slice (some ⟨g,0,none⟩) (l.length+1) cap) (l++[(x,u)]))(hsz:(oc x u).length=sz)(hj:j<sz)(hoc:oc x' u'=(oc x u).set j u')
  (hown:W1.ownsRow n₀ E isz u' (il x') (ic x'))(hg:(W.alloc tmp).grownBy W1 u.ownBlock)(hl:∀k,u'.ownBlock=some k→u.ownBlock=some k∨(W.alloc tmp).heap.size≤k):
  fV (W1.setCell ⟨g,l.length*sz+j,none⟩ u') n₀ T E sz isz oc ic il (.slice (some ⟨g,0,none⟩) (l.length+1) cap) (l++[(x',u')]):=by
 obtain⟨hr,hi,hp⟩:=h;obtain⟨hp1,_,hp3⟩:=Sc.1 hp;have hz:W.heap.size≤(W.alloc tmp).heap.size:=by rw[Pq];exact UE _
 have hux:=hi (x,u) (by simp);have hlt:=fun k hk=>(hr.lt k hk).2;have hag:u'.ownBlock≠some g:=fun e=>by
  rcases hl g e with e2 |e2
  ·exact hux.2 g e2 rfl
  ·have:=hlt g rfl;omega
 have hug:u.ownBlock≠some g:=fun e=>hux.2 g e rfl;have hro:=bO (tmp:=tmp) (w1:=W1) (show gb u (.slice (some ⟨g,0,none⟩) (l.length+1) cap)from hux.2) hr hg;rw[Pu,U5,UX]at hro;have key:∀{e:TypeId} {s n:Nat} {xs:List Value} {v:Value},W1.ownsRow n₀ e s v n xs→v.ownBlock≠some g→(W1.setCell ⟨g,l.length*sz+j,none⟩ u').ownsRow n₀ e s v n xs:=fun {e s n xs v} ho hne=>
  ho.kept (row:=some g) ⟨rfl,rfl,rfl,by rw[PK];exact Po _,fun k _ hk=>QF W1 ⟨g,l.length*sz+j,none⟩ k u' (fun e=>hk (by rw[show k=g from e]))⟩ (.inr hne)
 have hap:∀y∈l,gb y.2 u':=fun y hy k h1 h2=>by
  rcases hl k h2 with h3 |h3
  ·exact hp3 y hy (x,u) (by simp) k h1 h3
  ·have:=((hi y (by simp[hy])).1.lt k h1).2;omega
 refine⟨?_,fun y hy=>?_,?_⟩
 ·obtain⟨hlen,e0 |⟨g2,cap2,cur,e1,hb,hcells,c1,c2,c3,c4⟩⟩:=hro
  ·exact absurd e0.1 (by simp)
  ·cases e1;have e5:(l++[(x',u')]).length=l.length+1:=by simp
   have e6:List.flatMap (fun x=>oc x.1 x.2) [(x,u)]=oc x u:=by simp
   have e7:List.flatMap (fun x=>oc x.1 x.2) [(x',u')]=(oc x u).set j u':=by simp[hoc]
   rw[e6]at hlen c4;rw[Pu,hsz,RL]at hlen;have hfl:(l.flatMap fun y=>oc y.1 y.2).length=l.length*sz:=by omega
   rw[e5,UX,e7];refine⟨by rw[Pu,TG,hsz,RL];omega,.inr ⟨g,cap,_,rfl,hb,aq hcells _ _,c1,c2,by simp[c3],?_⟩⟩;rw[VZ,List.take_set,c4,List.set_append_right _ _ (by omega),hfl,Tn]
 ·rcases Px.1 hy with hy |hy
  ·have h1:=hi y (by simp[hy]);exact⟨key (bO (tmp:=tmp) (w1:=W1) (fun k h2 h3=>hp3 y hy (x,u) (by simp) k h3 h2) h1.1 hg) (fun e=>h1.2 g e rfl),h1.2⟩
  ·rw[Ql]at hy;subst hy;exact⟨key hown hag,fun k h1 h2=>by cases h2;exact hag h1⟩
 ·refine Sc.2 ⟨hp1,by simp,fun a ha b hb=>?_⟩;rw[Ql]at hb;subst hb;exact hap a ha
end
theorem AL:(prog.info? 178).map (fun i=>(i.zero,i.size,i.bytes))=some (some (.agg #[.string ⟨#[]⟩,.string ⟨#[]⟩,.slice none 0 0]),3,56):=by kernel_rfl
theorem Eo:(prog.info? 3).map (fun i=>(i.zero,i.size,i.bytes))=some (some (.int .i64 0),1,8):=by kernel_rfl
def jX(x:oZ)(u:Value):List Value:=[.string x.sv,.string x.op,u]
def EI(x:oZ):List Value:=x.trs.map (Value.int .i64)
abbrev lN(W:World)(n:Nat)(v:Value)(l:List (oZ×Value)):Prop:=fV W n 178 3 3 1 jX EI (fun x=>x.trs.length) v l
theorem sJ:∀(l:List oZ) (t:Int),(∀x∈cO l t,∃y∈l,x.trs.length≤y.trs.length+1)∧(cO l t).length=l.length
 |[],_=>⟨fun _ h=>absurd h (by simp[cO]),rfl⟩
 |[a],t=>⟨fun x h=>by
   rw[cO,Ql]at h;subst h;exact⟨a,by simp,by simp⟩,rfl⟩
 |a::b::r,t=>by
  obtain⟨h1,h2⟩:=sJ (b::r) t;refine⟨fun x h=>?_,by rw[cO,PC,h2];rfl⟩;rw[cO]at h;rcases Pz.1 h with rfl |h
  ·exact⟨x,by simp,by omega⟩
  ·obtain⟨y,hy,hl⟩:=h1 x h;exact⟨y,Qf _ hy,hl⟩
theorem yz:∀(K:List ByteArray) (a:List oZ×ByteArray) (m:Nat),(∀x∈a.1,x.trs.length≤m)→a.1.length≤m→(∀x∈(K.foldl gE a).1,x.trs.length≤m+K.length)∧(K.foldl gE a).1.length≤m+K.length
 |[],_,_,h1,h2=>⟨h1,h2⟩
 |k::K,a,m,h1,h2=>by
  have hl:∀l:List oZ,(∀x∈l,x.trs.length≤m)→l.length≤m+1→(∀x∈cO l (J7 k),x.trs.length≤m+1)∧(cO l (J7 k)).length≤m+1:=fun l g1 g2=>by
   obtain⟨i1,i2⟩:=sJ l (J7 k);refine⟨fun x hx=>?_,by omega⟩;obtain⟨y,hy,he⟩:=i1 x hx;have:=g1 y hy;omega
  obtain⟨s1,s2⟩:=hl (if mr k=a.2 then a.1 else a.1++[⟨(CG (mr k)).getD 0 ⟨#[]⟩,(CG (mr k)).getD 1 ⟨#[]⟩,[]⟩]) (fun x hx=>by
   split at hx
   ·exact h1 x hx
   ·rcases Px.1 hx with hx |hx
    ·exact h1 x hx
    ·rw[Ql]at hx;subst hx;exact QZ _) (by
   split
   ·omega
   ·simp;omega)
  have:=yz K (gE a k) (m+1) s1 s2;rw[UK,PC,show m+(K.length+1)=m+1+K.length from by omega];exact this
def jF(K:List ByteArray):List oZ×ByteArray:=K.foldl gE ([],⟨#[]⟩)
theorem qf(K:List ByteArray)(k:ByteArray):jF (K++[k])=gE (jF K) k:=by simp[jF]
theorem BF:∀{l:List oZ} (t:Int),l≠[]→cO l t≠[]
 |[],_,h=>absurd rfl h
 |[_],_,_=>by simp[cO]
 |_::_::_,_,_=>by simp[cO]
theorem EJ{K:List ByteArray}(hk:∀k∈K,mr k≠⟨#[]⟩)(h:(jF K).2≠⟨#[]⟩):(jF K).1≠[]:=by
 have key:∀(K:List ByteArray) (a:List oZ×ByteArray),(∀k∈K,mr k≠⟨#[]⟩)→(a.2≠⟨#[]⟩→a.1≠[])→(K.foldl gE a).2≠⟨#[]⟩→(K.foldl gE a).1≠[]:=by
  intro K;induction K with
  |nil=>exact fun a _ h1 h2=>h1 h2
  |cons k K ih=>
   intro a hk h1 h2;refine ih (gE a k) (fun x hx=>hk x (Qf _ hx)) (fun _=>?_) h2;unfold gE;refine BF _ ?_;by_cases e:mr k=a.2
   ·rw[Pj e];exact h1 (by rw[←e];exact hk k (UI ..))
   ·rw[Pm e];simp
 exact key K _ hk (fun h=>absurd rfl h) h
def Nt{M:List (ByteArray×Int)}(n:Nat)(w:World)(pre:List {z // z∈M})(W:World):Prop:=
 ∃v ls,Boxed W n 86 v∧Boxed W (n+1) 9 (.string (jF (pre.map (·.1.1))).2)∧Boxed W (n+1+1+1) 9 (.string ⟨#[]⟩)∧lN W n v ls∧ls.map (·.1)=(jF (pre.map (·.1.1))).1∧Below n w W
theorem J8{M:List (ByteArray×Int)}{n:Nat}{w:World}(hs:n<w.heap.size+1){B0:Nat}(hB:n+3<B0)(hb:w.heap.size=n):OwnFrom B0 (Nt (M:=M) n w):=fun s W W' row h hg hr=>by
 obtain⟨v,ls,h1,h1',h1'',h2,h3,h4⟩:=h;refine⟨v,ls,aW h1 hg hr,aW h1' hg hr,aW h1'' hg hr,h2.nc hg hr,h3,h4.grown hg (by have:=h4.size;omega) fun r e=>by have:=(hr r e).1;omega⟩
section
variable{W w3:World}{n g cap:Nat}{ls:List (oZ×Value)}{x:oZ}{u u':Value}{tmp:Obj}{t:Int}{S:Nat→Prop}
theorem vY:∀ls:List (oZ×Value),(ls.flatMap fun x=>jX x.1 x.2).length=ls.length*3
 |[]=>rfl
 |x::l=>by
  rw[UR,Pu,vY l,PC,RL,Tt];rfl
theorem CF(hN:lN W n (.slice (some ⟨g,0,none⟩) (ls.length+1) cap) (ls++[(x,u)])):W.cell? ⟨g,ls.length*3+2,none⟩=some u:=by
 have hcell:=hN.row.cells (g:=g) rfl (ls.length*3+2) u (by
  rw[UX,Vg (by rw[vY];omega),vY,Tn];rfl)
 simpa[Addr.add]using hcell
theorem Hs(hN:lN W n (.slice (some ⟨g,0,none⟩) (ls.length+1) cap) (ls++[(x,u)]))(hn:n≤W.heap.size)
  (h1:w3.ownsRow n 3 1 u' (x.trs.length+1) (EI x++[.int .i64 t]))(h2:(W.alloc tmp).grownBy w3 u.ownBlock)(h3:∀k,u'.ownBlock=some k→u.ownBlock=some k∨(W.alloc tmp).heap.size≤k):
  w3.cell? ⟨g,ls.length*3+2,none⟩=some u∧w3.frozen? ⟨g,ls.length*3+2,none⟩=false∧lN (w3.setCell ⟨g,ls.length*3+2,none⟩ u') n (.slice (some ⟨g,0,none⟩) (ls.length+1) cap) (ls++[({x with trs:=x.trs++[t]},u')])∧
   (∀{b T z},T≠3→T≠178→Boxed W b T z→Boxed (w3.setCell ⟨g,ls.length*3+2,none⟩ u') b T z)∧Below n W (w3.setCell ⟨g,ls.length*3+2,none⟩ u')∧KeepsOthers W (w3.setCell ⟨g,ls.length*3+2,none⟩ u'):=by
 have hux:=hN.inn (x,u) (by simp);have hr3:=bO (tmp:=tmp) (w1:=w3) (show gb u (.slice (some ⟨g,0,none⟩) (ls.length+1) cap)from hux.2) hN.row h2;have hlen:=vY ls;have hcell:=hr3.cells (g:=g) rfl (ls.length*3+2) u (by
  rw[UX,Vg (by omega),hlen,Tn];rfl)
 have hgg:=(hN.row.lt g rfl).1;refine⟨by simpa[Addr.add]using hcell,?_,?_,fun {b T z} t1 t2 hb=>?_,?_,?_⟩
 ·obtain⟨cur,hcur⟩:=dx hr3 (r:=g) rfl;exact ak hcur _
 ·refine fV.last (tmp:=tmp) hN rfl (by decide) rfl ?_ h2 h3;simp only[EI,PU,Pu,UA,UV,PC,Qe]at h1⊢;exact h1
 ·have h5:=(hb.alloc tmp).kept h2 (hb.not_row t1 hux.1);have hne:=hb.not_row t2 hN.row;exact aw h5 (fun e=>hne (by rw[e];rfl)) _
 ·exact(((Pk n W).alloc hn tmp).grown h2 (by simp;omega) (fun k e=>(hux.1.lt k e).1)).setCell (p:=⟨g,ls.length*3+2,none⟩) hgg u'
 ·refine((TD W tmp).trans (KeepsOthers.of_grownBy h2 fun j o ej hj=>?_)).trans (Vm _ _ _);obtain⟨cur,hcur⟩:=dx (hux.1.alloc tmp) ej;rw[hcur]at hj;cases hj;rfl
theorem Hr{v v':Value}(hN:lN W n v ls)(hv:Boxed W n 86 v)(hn:n≤W.heap.size)(hx:x.trs=[])
  (h1:w3.ownsRow n 178 3 v' (ls.length+1) ((ls.flatMap fun x=>jX x.1 x.2)++jX x (.slice none 0 0)))(h2:(W.alloc tmp).grownBy w3 v.ownBlock)(h3:∀k,v'.ownBlock=some k→v.ownBlock=some k∨(W.alloc tmp).heap.size≤k):
  Boxed w3 n 86 v∧(∀{b:Nat} {T:TypeId} {cs:Array Value},T≠178→W.heap[b]?=some (.cells cs T (0,0))→w3.heap[b]?=some (.cells cs T (0,0)))∧lN (w3.setCell ⟨n,0,none⟩ v') n v' (ls++[(x,.slice none 0 0)])∧Boxed (w3.setCell ⟨n,0,none⟩ v') n 86 v'∧
   (∀{b:Nat} {T:TypeId} {cs:Array Value},b≠n→T≠178→W.heap[b]?=some (.cells cs T (0,0))→(w3.setCell ⟨n,0,none⟩ v').heap[b]?=some (.cells cs T (0,0)))∧Below n W (w3.setCell ⟨n,0,none⟩ v')∧KeepsOthers W (w3.setCell ⟨n,0,none⟩ v'):=by
 obtain⟨a1,a2,a3,a4,a5⟩:=hv.appended (by decide) hN.row hn (Po _) h1 h2;have hs:=hN.snoc (x:=x) (u:=.slice none 0 0) (H:=W.heap.size) (by rw[show x.trs.length=0 from by rw[hx];rfl,show EI x=[]from by unfold EI;rw[hx];rfl];exact PS _ _ _ _) hn hN.lt.1 hN.lt.2 h1 h2 h3;have hbx:=hs.box a1 (by decide) (by decide);have key:∀{b:Nat} {T:TypeId} {cs:Array Value},T≠178→W.heap[b]?=some (.cells cs T (0,0))→w3.heap[b]?=some (.cells cs T (0,0)):=fun {b T cs} ht h=>by
  have hlt:=am h;refine(h2.block b (by rw[Pq];omega) fun e=>?_).trans (ar h tmp);obtain⟨cur,hcur⟩:=dx hN.row e.symm;rw[hcur]at h;cases h;exact ht rfl
 exact⟨a1,key,hs.setCell hbx.1 hbx.2 0 _,a2,fun {b T cs} hb ht h=>aw (key ht h) hb _,a5,a4⟩
theorem ug{W W4:World}{n By:Nat}{T:TypeId}{v:Value}(h1:Boxed W By T v)(h2:Boxed W4 By T v)(hb:Below n W W4)(hT:∀b,S b→b<n):cu (fun b=>b=By∨S b) W W4:=fun b hf=>by
 rcases hf with rfl |hf
 ·exact(show W4.heap[b]?=_ from h2).trans (show W.heap[b]?=_ from h1).symm
 ·exact hb.block b (hT b hf)
end
end
section
attribute [local go_sem] QA
theorem Gt(a:ByteArray):oS.lt a ⟨#[]⟩=false:=by
 show Op.bytesLess a.toList (⟨#[]⟩:ByteArray).toList=false;rw[Tk ⟨#[]⟩];cases a.toList<;>rfl
theorem EB{V:Type}(L:List (ByteArray×V)):aQ oS (some ⟨#[]⟩) L=L:=VE.2 fun z _=>by
 show(!oS.lt z.1 ⟨#[]⟩)=true;rw[Gt];rfl
theorem Mz{C G:Nat→Nat→World→Prop}{H:Prop}(hH:(∀g c W,C g c W→G g c W)→H)(hG:∀g c W,C g c W→G g c W):H:=hH hG
section
variable{own:Nat→Nat}{t:Nat}{w:World}{B q:Nat}{cs:Array Value}{ty:TypeId}{p:Option Addr}{L:List (ByteArray×Int)}{R:List Sp}
theorem J4(h:qm own t w B q cs ty p L R)(hk:∀x∈R,x.few)(hl:R.length≤40000):
  Calls prog 39 #[.pointer (some ⟨B,q,none⟩)] w fun e w'=>∃v,e=.returned v∧(∃l,lN w' w.heap.size v l∧l.map (·.1)=MH (L.map (·.1)))∧Below w.heap.size w w':=by
 refine(PE (n:=9)).1 ?_;refine QR func39 rfl trivial ?_ rfl;simp only[ntmps39,UH,PC,Qe,Nat.reduceAdd,Nat.reduceSub,QH,QI,QJ,QK,PQ,PN];obtain⟨T,hp,hTl,hT,hTn,hTs⟩:=h.tr;have hc:=(aa h.box q).trans h.c0;have hbw:=am h.box;have HFR:=zH (fun w1=>Hq B q ⟨#[]⟩ w1);refine Q6.2 ?_;go_wp2_with (go_at_call 80;(with_reducible refine(HFR.out _).mono ?_);rintro e w1 ⟨rfl,rfl⟩);obtain⟨W1,hW1⟩:∃W1,W1=w.alloc (.cells #[.slice none 0 0] 86):=⟨_,rfl⟩;obtain⟨W2,hW2⟩:∃W2,W2=W1.alloc (.cells #[.string ⟨#[]⟩] 9):=⟨_,rfl⟩;obtain⟨W3,hW3⟩:∃W3,W3=W2.alloc (.cells #[.pointer (some ⟨B,q,none⟩)] 252):=⟨_,rfl⟩;obtain⟨W0,hW0⟩:∃W0,W0=W3.alloc (.cells #[.string ⟨#[]⟩] 9):=⟨_,rfl⟩;have s1:W1.heap.size=w.heap.size+1:=by rw[hW1,Pq]
 have s2:W2.heap.size=w.heap.size+1+1:=by rw[hW2,Pq,s1]
 have s3:W3.heap.size=w.heap.size+1+1+1:=by rw[hW3,Pq,s2]
 have hsz:W0.heap.size=w.heap.size+1+1+1+1:=by rw[hW0,Pq,s3]
 have hb1:Below w.heap.size w W0:=by
  rw[hW0,hW3,hW2,hW1];exact zb
 have hbox:Boxed W0 w.heap.size 86 (.slice none 0 0):=by
  rw[hW0,hW3,hW2,hW1];exact(((R0 w _ _).alloc _).alloc _).alloc _
 have hbox2:Boxed W0 (w.heap.size+1) 9 (.string ⟨#[]⟩):=by
  rw[hW0,hW3,hW2,←s1];exact((R0 W1 _ _).alloc _).alloc _
 have hx:W0.cell? ⟨w.heap.size+1+1,0,none⟩=some (.pointer (some ⟨B,q,none⟩)):=by
  rw[hW0,hW3,←s2];exact aa (ar (Up _ _) _) 0
 have hy:W0.cell? ⟨w.heap.size+1+1+1,0,none⟩=some (.string ⟨#[]⟩):=by
  rw[hW0,←s3];exact aa (Up _ _) 0
 have hbox3:Boxed W0 (w.heap.size+1+1+1) 9 (.string ⟨#[]⟩):=by
  rw[hW0,←s3];exact Up _ _
 rw[←hW1,←hW2,←hW3,←hW0];clear hW0 hW1 hW2 hW3 s1 s2 s3;have hst:=yn (own:=own) (t:=t) 8 (w.heap.size+1+1) (w.heap.size+1+1+1) B q ⟨#[]⟩ T W0 hx hy ((hb1.cell (p:=⟨B,q,none⟩) hbw).trans (hp▸hc)) (hT.below hb1) (hTl▸hTs);obtain⟨i0,hi,hz0,hz1,hz2⟩:=Qm AL;obtain⟨j0,gi,gz0,gz1,gz2⟩:=Qm Eo;have hkeys:∀z∈T.toL,18≤z.1.size∧z.1.size≤1000∧mr z.1≠⟨#[]⟩∧2≤(CG (mr z.1)).length:=fun z hz=>by
  have hm:z.1∈L.map (·.1):=Uu.2 ⟨z,by rw[←hTl];exact hz,rfl⟩;obtain⟨x,hx,e⟩:=Uu.1 ((h.tl.keys.2 z.1).1 hm);have hf:=hk x (Uz.1 hx).1;have h1:=hf.1;have h2:=hf.2;rw[←e];have h3:=yA x;exact⟨by omega,by omega,LO x,J6 x⟩
 have HKY:=zH hkeys;have HH:=zH h;clear hkeys;refine(Q6 (n:=9)).1 ?_;refine TV rfl (by omega) (gf:=215) (lb:=#[.pointer (some ⟨w.heap.size+1+1,0,none⟩),.pointer (some ⟨w.heap.size+1+1+1,0,none⟩)]) rfl trivial (QS func215 (by kernel_rfl) rfl) hst
  (fun h k=>fh h k) (fun W l o o' hl' hW h1 h2=>gP (w:=W0) (fun b hb=>by rcases hb with rfl |hb;omega;exact Ut (hT.at b hb).2 (by omega)) W l o o' hl' hW h1 h2) (Pk _ _) (fun _=>rfl)
  (Nt (M:=T.toL) w.heap.size w)
  (fun _ _ _=>False) ?hI ?hIx ?h0 ?_ ?assign ?body ?done ?stop
 case assign=>
  intro l z W K hK;gi_wp2;exact hK
 case hIx=>exact fun _=>fun _ _ _ _ hs _ _=>hs
 case stop=>
  exact NT
 case h0=>exact⟨_,[],hbox,hbox2,hbox3,ot _ _ _ _ _ _ _ _ _,rfl,hb1⟩
 case hI=>exact J8 (by omega) (by omega) rfl
 case body=>
  rintro l pre z W ⟨v,ls,hv,hs,hy,hN,hmap,hbW⟩ hlen;obtain⟨y1,y2,y3,y4⟩:=HKY.out z.1 z.2;obtain⟨a0,ha0⟩:∃a,jF (pre.map (·.1.1))=a:=⟨_,rfl⟩;rw[ha0]at hs hmap;have hvc:=hv.cell;have hsc:=hs.cell;have hbs:=hbW.size;have HSP:=zH (EG z.1.1 (by omega) (by omega) W);have hTlen:T.toL.length≤40000:=by
   have h1:T.toL.length=L.length:=congrArg _ hTl;have h2:=HH.out.tl.len;have h3:=vZ R;omega
  have hbd:=yz (pre.map (·.1.1)) ([],⟨#[]⟩) 0 (fun x hx=>by cases hx) (Po _);rw[show(pre.map (·.1.1)).foldl gE ([],⟨#[]⟩)=a0 from ha0,Ur]at hbd;have hne:a0.2≠⟨#[]⟩→a0.1≠[]:=fun h=>by
   rw[←ha0]at h⊢;exact EJ (fun k hk=>by
    obtain⟨y,_,rfl⟩:=Uu.1 hk;exact(HKY.out y.1 y.2).2.2.1) h
  by_cases hq:mr z.1.1=a0.2
  ·have hq2:((mr z.1.1).toList==a0.2.toList)=true:=by rw[hq];simp
   obtain⟨ls0,⟨x,u⟩,rfl⟩:∃ls0 y,ls=ls0++[y]:=by
    rcases List.eq_nil_or_concat ls with e |⟨l0,y,e⟩
    ·subst e;exact absurd hmap.symm (hne (by rw[←hq];exact y3))
    ·exact⟨l0,y,by rw[e];simp⟩
   have hx1:x.trs.length≤50000:=by
    have:=hbd.1 x (by rw[←hmap];simp);omega
   have hx2:ls0.length+1≤50000:=by
    have:=hbd.2;rw[←hmap]at this;simp at this;omega
   obtain⟨g,cap,rfl⟩:=Qv (by have:=hN.row;rw[Pu,U5]at this;exact this);have hNN:=zH hN;have HQ:=zH hq;have HMP:=zH hmap;have hi1:(ls0.length:Int)< ((ls0.length+1:Nat):Int):=by omega
   clear hq hN hmap;gi_wp2_with (first
    |(refine⟨trivial,?_⟩;gi_at_call 81;refine(UG l (PE.2 HSP.out)).mono ?_;rintro e W2 ⟨rfl,b2⟩;have hN2:=zH (hNN.out.below b2);have hv2:Boxed W2 w.heap.size 86 _:=af hv b2;have hs2:Boxed W2 (w.heap.size+1) 9 _:=af hs b2;have hvc2:=hv2.cell;have hsc2:=hs2.cell;have hcu:=CF hN2.out;have hz2:=b2.size)
    |(gi_at_builtin;go_loud (refine cw rfl _ _ 176 rfl w.heap.size 3 j0 (.int .i64 0) 1 8 V5 gi gz0 gz1 gz2 rfl (by decide) u x.trs.length (EI x) rfl ((hN2.out.inn (x,u) (by simp)).1.alloc _) ⟨W2.heap.size,0,none⟩ 1 1 [.int .i64 (J7 z.1.1)] rfl rfl (cJ W2 _ _) (by simp[Value.oneCell']) (by unfold maxLen;omega) (by omega) (by rw[Pq];omega) ?_);intro u' w3 h1 h2 h3;obtain⟨uA,uc,rfl⟩:=an h1;obtain⟨f1,f2,f3,f4,f5,f6⟩:=Hs hN2.out (by omega) h1 h2 h3))
   have hq2':=HQ.out;have hmap':=HMP.out;have hsE:jF ((pre++[z]).map (·.1.1))=(cO a0.1 (J7 z.1.1),a0.2):=by
    rw[PU,UA,UV,qf,ha0];unfold gE;rw[Pj hq2',hq2']
   refine⟨(Kp.of_below (fun _=>False) b2).others.trans f6,ug hy (f4 (by decide) (by decide) (af hy b2)) ((b2.mono hbs).trans f5) (fun b hb=>(hT.at b hb).2),_,_,f4 (by decide) (by decide) hv2,?_,f4 (by decide) (by decide) (af hy b2),f3,?_,hbW.trans ((b2.mono hbs).trans f5)⟩
   ·rw[hsE];exact f4 (by decide) (by decide) hs2
   ·rw[hsE,PU,←hmap',PU];exact(kN _ x _).symm
  ·have hq2:((mr z.1.1).toList==a0.2.toList)=false:=by
    rw[Qz];exact fun e=>hq (Vs (Array.toList_inj.1 (by rw[←Tk,←Tk];exact e)))
   obtain⟨s0,s1,sr,hsw⟩:∃s0 s1 sr,CG (mr z.1.1)=s0::s1::sr:=by
    rcases hw:CG (mr z.1.1)with _ |⟨s0,_ |⟨s1,sr⟩⟩
    ·rw[hw]at y4;simp at y4
    ·rw[hw]at y4;simp at y4
    ·exact⟨s0,s1,sr,rfl⟩
   have hx2:ls.length≤50000:=by
    have:=hbd.2;rw[←hmap]at this;simp at this;omega
   have HWD:=zH (fun w1=>show Calls prog 82 #[.string (mr z.1.1),.string ⟨#[0]⟩] w1 fun e w'=>e=.returned (.slice (some ⟨w1.heap.size,0,none⟩) (sr.length+2) (sr.length+2))∧Below w1.heap.size w1 w'∧w'.heap[w1.heap.size]?=some (.cells (.string s0:: .string s1::sr.map Value.string).toArray 9 (0,0))from(EF (mr z.1.1) (by unfold mr;rw[VB];omega) w1).mono fun e w' ⟨he,hw⟩=>by
    rw[hsw]at he hw;subst hw;exact⟨he,ae _ (Pk _ _),Up _ _⟩)
   have hNN:=zH hN;have HQ:=zH hq;have HMP:=zH hmap;have HS0:=zH hsw;clear hq hN hmap hsw;gi_wp2_with (first
    |(refine⟨trivial,?_⟩;gi_at_call 81;refine(UG l (PE.2 HSP.out)).mono ?_;rintro e W2 ⟨rfl,b2⟩;have hs2:Boxed W2 (w.heap.size+1) 9 _:=af hs b2;have hsc2:=hs2.cell)
    |(refine⟨trivial,?_⟩;gi_at_call 82;refine(UG l (PE.2 (HWD.out _))).mono ?_;rintro e W3 ⟨rfl,b3,hw3⟩))
   have b3':Below W.heap.size W W3.drew:=(b2.trans (b3.mono b2.size)).trans ((Pk _ W3).drew.mono (Pt b2.size b3.size));have hN3:=hNN.out.below b3';have hv3:Boxed W3.drew w.heap.size 86 v:=af hv b3';have hs3:Boxed W3.drew (w.heap.size+1) 9 _:=af hs b3';have hy3:Boxed W3.drew (w.heap.size+1+1+1) 9 _:=af hy b3';have hz3:w.heap.size≤W3.drew.heap.size:=Pt hbs b3'.size;have hz3':w.heap.size≤W3.heap.size:=hz3;have hzz:=b2.size;have hzy:=am hy;have hv3':Boxed W3 w.heap.size 86 v:=hv3;have hvc3:=hv3.cell;have hwd:W3.drew.heap[W2.heap.size]?=some (.cells (.string s0:: .string s1::sr.map Value.string).toArray 9 (0,0)):=hw3;apply Mz (C:=fun g c W4=>lN W4 w.heap.size (.slice (some ⟨g,0,none⟩) (ls.length+1) c) (ls++[(⟨s0,s1,[]⟩,.slice none 0 0)])∧Boxed W4 w.heap.size 86 (.slice (some ⟨g,0,none⟩) (ls.length+1) c)∧Boxed W4 (w.heap.size+1) 9 (.string a0.2)∧Boxed W4 (w.heap.size+1+1+1) 9 (.string ⟨#[]⟩)∧Below w.heap.size W3.drew W4∧KeepsOthers W3.drew W4)
   ·intro HG;refine iG (S:=fun V=>V.heap[W2.heap.size]?=some (.cells (.string s0:: .string s1::sr.map Value.string).toArray 9 (0,0))) (by kernel_rfl) (by kernel_rfl) (fun _ _ h=>h) hwd (fun hS0=>?_);(refine zh hS0 4 7 1 ?_;simp only[zd];((iterate 7 (refine zt (fun W hW=>by have c0:=aa hW 0;have c1:=aa hW 1;have h01:(0:Int)< (sr.length:Int)+2:=(by omega);have h11:(1:Int)< (sr.length:Int)+2:=(by omega);exact zq) ?_;simp only[zp]));refine ac ?_));refine aU 0 8 (by kernel_rfl) rfl rfl (fun K hK=>?_) (fun K hK=>?_)
    ·rw[Pj (by rfl)];go_simp;(refine zu hK hwd ?_;clear hK K;try simp only[zp]);(refine zo 8 rfl fun K hK=>?_;go_simp);exact Uj
    ·rw[Pj (by rfl)];go_simp;(refine zu hK (ar hwd _) ?_;clear hK K;try simp only[zp]);refine zo 0 rfl fun K hK=>?_;have hvc1:=(hv3'.alloc (.cells (jX ⟨s0,s1,[]⟩ (.slice none 0 0)).toArray 178)).cell;simp only[jX]at hvc1;go_simp;exact Uj
   ·rintro g c W4 ⟨hN4,hv4,hs4,hy4,b4,o4⟩;have hvc4:=hv4.cell;have hsc4:=hs4.cell;have hsf4:=hs4.frozen;have hs5:=hs4.set (.string (mr z.1.1));have hvb:=hv4;have hbx:=hN4.box hs4 (by decide) (by decide);have hN5:=hN4.setCell hbx.1 hbx.2 0 (.string (mr z.1.1));have hv5:Boxed (W4.setCell ⟨w.heap.size+1,0,none⟩ (.string (mr z.1.1))) w.heap.size 86 _:=aw hv4 (by omega) _;have hy5:Boxed (W4.setCell ⟨w.heap.size+1,0,none⟩ (.string (mr z.1.1))) (w.heap.size+1+1+1) 9 _:=aw hy4 (by omega) _;have b5:=b4.setCell (p:=⟨w.heap.size+1,0,none⟩) (by show w.heap.size≤w.heap.size+1;omega) (.string (mr z.1.1));have o5:=o4.trans (Vm W4 ⟨w.heap.size+1,0,none⟩ (.string (mr z.1.1)));have hvc5:=hv5.cell;have hz4:w.heap.size≤W4.heap.size:=Pt hz3 b4.size;have hcu:=CF hN5;have hi1:(ls.length:Int)< ((ls.length+1:Nat):Int):=by omega
    have hz5:=b5.size;have hN5':=zH hN5;clear hN4 hN5 hN3 hv3 hs3 hy3 hvc3 hwd b4 o4 hbx;gi_wp2_with (gi_at_builtin;go_loud (refine cw rfl _ _ 176 rfl w.heap.size 3 j0 (.int .i64 0) 1 8 V5 gi gz0 gz1 gz2 rfl (by decide) (.slice none 0 0) 0 [] rfl (PS _ _ _ _) ⟨W4.heap.size,0,none⟩ 1 1 [.int .i64 (J7 z.1.1)] rfl rfl (bj _ _ _ _ (by simp)) (by simp[Value.oneCell']) (by unfold maxLen;omega) (by omega) (by simp;omega) ?_);intro u' w3 h1 h2 h3;obtain⟨uA,uc,rfl⟩:=an h1;obtain⟨f1,f2,f3,f4,f5,f6⟩:=Hs hN5'.out (by rw[PK];exact hz4) h1 h2 h3);have hq2':=HQ.out;have hmap':=HMP.out;have hsw:=HS0.out;have hsE:jF ((pre++[z]).map (·.1.1))=(cO (a0.1++[⟨s0,s1,[]⟩]) (J7 z.1.1),mr z.1.1):=by
     rw[PU,UA,UV,qf,ha0];unfold gE;rw[Pm hq2',hsw];rfl
    refine⟨(Kp.of_below (fun _=>False) b3').others.trans (o5.trans f6),ug hy (f4 (by decide) (by decide) hy5) ((b3'.mono hbs).trans (b5.trans f5)) (fun b hb=>(hT.at b hb).2),_,_,f4 (by decide) (by decide) hv5,?_,f4 (by decide) (by decide) hy5,f3,?_,hbW.trans ((b3'.mono hbs).trans (b5.trans f5))⟩
    ·rw[hsE];exact f4 (by decide) (by decide) hs5
    ·rw[hsE,PU,hmap'];exact(kN _ ⟨s0,s1,[]⟩ _).symm
 case done=>
  rintro DD zs W hD hS ⟨v,ls,hv,hs,hy,hN,hmap,hb⟩ hK;have hvc:=hv.cell;go_wp2_with fail;refine⟨by simp,.inl ⟨_,_,rfl,UW hK,?_⟩⟩;refine⟨_,VJ rfl _ _ _,?_⟩;refine⟨_,rfl,⟨ls,hN.nc (B:=w.heap.size) (RE W DD _) (fun r e=>by cases e;exact⟨by omega,_,hK,rfl⟩),?_⟩,hb.grown (RE W DD _) hb.size fun k e=>by cases e;omega⟩;have e1:zs.map (·.1)=L:=by
   have:=(show zs.map (·.1)=aQ oS (some ⟨#[]⟩) T.toL from hS);rw[this,EB,hTl]
  have e2:zs.map (·.1.1)=L.map (·.1):=by
   rw[←e1,UQ];rfl
  rw[hmap,e2];rfl
end
end
section
def je(x:Fj)(v:Value):List Value:=[.string x.sv,.string x.op,.int .i64 x.many,.int .i64 x.sum.hi,.int .i64 x.sum.lo,v]
section
variable{own own':Nat→Nat}{t tm th hb:Nat}{w w':World}{B q v:Nat}{cs cs':Array Value}{ty:TypeId}{p p':Option Addr}{l:List Int}{R R':List Sp}{x:Sp}
theorem LL(h:fY own t w v l):Calls prog 133 #[.pointer (some ⟨v,0,none⟩)] w fun e w'=>e=.returned (.agg #[.int .i64 (jN (kL l)).hi,.int .i64 (jN (kL l)).lo])∧Below w.heap.size w w':=by
 obtain⟨cs,p,L,h1,_⟩:=h;exact GY h1
theorem AQ(h:fY own t w v l)(hl:l.length≤90000):Calls prog 134 #[.pointer (some ⟨v,0,none⟩)] w fun e w'=>∃u,e=.returned u∧w'.ownsRow w.heap.size 237 2 u (jD (l.map cd)).length ((jD (l.map cd)).flatMap aP)∧Below w.heap.size w w':=by
 obtain⟨cs,p,L,h1,h2⟩:=h;have h3:=h2.len;rw[Ur]at h3;have h4:=h2.is (Q0 _);rw[←h4];exact oF h1 (by omega)
theorem fY.below(h:fY own t w v l)(hb:Below w.heap.size w w'):fY own t w' v l:=h.km (Km.of_below (fun _=>False) hb) id (fun _ _ _=>id) (aO.refl _ _) (h.ow.mono hb.size)
theorem Gb(k:ByteArray)(hk:k.size≤100000)(h:fY own t w v l)(hl:l.length≤90000):
  Calls prog 75 #[.string k,.pointer (some ⟨v,0,none⟩)] w fun e w'=>∃u,e=.returned (.agg #[.string (mS cg k l).sv,.string (mS cg k l).op,.int .i64 (mS cg k l).many,.int .i64 (mS cg k l).sum.hi,.int .i64 (mS cg k l).sum.lo,u])∧w'.ownsRow w.heap.size 237 2 u (mS cg k l).bk.length ((mS cg k l).bk.flatMap aP)∧Below w.heap.size w w':=by
 have HS:=zH (fun w1=>DS k w1 hk);have HL:=zH (fun w1 (b:Below w.heap.size w w1)=>G7 (h.below b));have HU:=zH (fun w1 (b:Below w.heap.size w w1)=>LL (h.below b));have HB:=zH (fun w1 (b:Below w.heap.size w w1)=>AQ (h.below b) hl);show Calls prog 75 #[.string k,.pointer (some ⟨v,0,none⟩)] w fun e w'=>∃u,e=.returned (.agg #[.string (cg k).1,.string (cg k).2,.int .i64 (l.length:Nat),.int .i64 (jN (kL l)).hi,.int .i64 (jN (kL l)).lo,u])∧w'.ownsRow w.heap.size 237 2 u (jD (l.map cd)).length ((jD (l.map cd)).flatMap aP)∧Below w.heap.size w w';generalize (jN (kL l)).hi=shi at HU⊢;generalize (jN (kL l)).lo=slo at HU⊢;generalize jD (l.map cd)=tl at HB⊢;have hb0:=zB w (.cells #[.string ⟨#[]⟩,.string ⟨#[]⟩,.int .i64 0,.int .i64 0,.int .i64 0,.slice none 0 0] 169);have n0:=Up w (.cells #[.string ⟨#[]⟩,.string ⟨#[]⟩,.int .i64 0,.int .i64 0,.int .i64 0,.slice none 0 0] 169);have HB0:=zH hb0;have HN0:=zH n0;clear h hb0 n0;go_enter func75,ntmps75;go_wp2_with (first |(go_at_call 131;(with_reducible refine(HS.out _).mono ?_);rintro e w1 ⟨rfl,b1⟩;have B1:=ah b1 HB0.out) |(go_at_call 132;(with_reducible refine(HL.out _ B1).mono ?_);rintro e w2 ⟨rfl,rfl⟩) |(go_at_call 133;(with_reducible refine(HU.out _ B1).mono ?_);rintro e w3 ⟨rfl,b3⟩;have B3:=ah b3 B1) |(go_at_call 134;(with_reducible refine(HB.out _ B3).mono ?_);rintro e w4 ⟨u,rfl,o4,b4⟩;obtain⟨uA,uc,rfl⟩:=an o4;have B4:=ah b4 B3;have n4:=af HN0.out ((b1.trans (b3.mono b1.size)).trans (b4.mono (by have:=b1.size;have:=b3.size;omega)));have f0:=ak n4;have g0:=aa n4));have z1:=b1.size;have z3:=b3.size;have hz0:w.heap.size<w1.heap.size:=by have:=am (af HN0.out b1);exact this
 have X:=aq (aq (aq (aq (aq (aq n4 0 (.string (cg k).1)) 1 (.string (cg k).2)) 2 (.int .i64 (l.length:Nat))) 3 (.int .i64 shi)) 4 (.int .i64 slo)) 5 (.slice uA tl.length uc);have x0:=aa X 0;have x1:=aa X 1;have x2:=aa X 2;have x3:=aa X 3;have x4:=aa X 4;have x5:=aa X 5;have hne:(Value.slice uA tl.length uc).ownBlock≠some w.heap.size:=fun e=>by have:=(o4.lt _ e).1;omega
 have o5:=Us (Us (Us (Us (Us (Us o4 (a:=⟨w.heap.size,0,none⟩) hne (.string (cg k).1)) (a:=⟨w.heap.size,1,none⟩) hne (.string (cg k).2)) (a:=⟨w.heap.size,2,none⟩) hne (.int .i64 (l.length:Nat))) (a:=⟨w.heap.size,3,none⟩) hne (.int .i64 shi)) (a:=⟨w.heap.size,4,none⟩) hne (.int .i64 slo)) (a:=⟨w.heap.size,5,none⟩) hne (.slice uA tl.length uc);have B5:=(((((B4.setCell (p:=⟨w.heap.size,0,none⟩) (Po _) (.string (cg k).1)).setCell (p:=⟨w.heap.size,1,none⟩) (Po _) (.string (cg k).2)).setCell (p:=⟨w.heap.size,2,none⟩) (Po _) (.int .i64 (l.length:Nat))).setCell (p:=⟨w.heap.size,3,none⟩) (Po _) (.int .i64 shi)).setCell (p:=⟨w.heap.size,4,none⟩) (Po _) (.int .i64 slo)).setCell (p:=⟨w.heap.size,5,none⟩) (Po _) (.slice uA tl.length uc);generalize (((((w4.setCell ⟨w.heap.size,0,none⟩ (.string (cg k).1)).setCell ⟨w.heap.size,1,none⟩ (.string (cg k).2)).setCell ⟨w.heap.size,2,none⟩ (.int .i64 (l.length:Nat))).setCell ⟨w.heap.size,3,none⟩ (.int .i64 shi)).setCell ⟨w.heap.size,4,none⟩ (.int .i64 slo)).setCell ⟨w.heap.size,5,none⟩ (.slice uA tl.length uc)=W5 at*;refine Ux (v:=.agg #[.string (cg k).1,.string (cg k).2,.int .i64 (l.length:Nat),.int .i64 shi,.int .i64 slo,.slice uA tl.length uc]) (by simp[results,results75,go_sem,x0,x1,x2,x3,x4,x5]) rfl ?_;exact⟨_,rfl,aI o5 (by omega),B5⟩
end
end
section
attribute [local go_sem] QA
theorem En:(prog.info? 169).map (fun i=>(i.zero,i.size,i.bytes))=some (some (.agg #[.string ⟨#[]⟩,.string ⟨#[]⟩,.int .i64 0,.int .i64 0,.int .i64 0,.slice none 0 0]),6,80):=by kernel_rfl
abbrev zx(W:World)(n:Nat)(v:Value)(l:List (Fj×Value)):Prop:=fV W n 169 237 6 2 je (fun x=>x.bk.flatMap aP) (fun x=>x.bk.length) v l
section
variable{own own':Nat→Nat}{t tm th hb:Nat}{w w':World}{B q v:Nat}{cs cs':Array Value}{ty:TypeId}{p p':Option Addr}{L:List (ByteArray×Nat)}{D:ByteArray→List Int}{R R':List Sp}{x:Sp}
def Nh{M:List (ByteArray×Nat)}(D:ByteArray→List Int)(n:Nat)(w:World)(pre:List {z // z∈M})(W:World):Prop:=
 ∃v ls,Boxed W n 84 v∧zx W n v ls∧ls.map (·.1)=pre.map (fun z=>mS cg z.1.1 (D z.1.1))∧Below n w W
theorem JF{M:List (ByteArray×Nat)}{n:Nat}(hs:n<w.heap.size+1){B0:Nat}(hB:n<B0)(hb:w.heap.size=n):OwnFrom B0 (Nh (M:=M) D n w):=fun s W W' row h hg hr=>by
 obtain⟨v,ls,h1,h2,h3,h4⟩:=h;refine⟨v,ls,aW h1 hg hr,h2.nc hg hr,h3,h4.grown hg (by have:=h4.size;omega) fun r e=>by have:=(hr r e).1;omega⟩
theorem JE(h:dE own tm th hb w B q cs ty p L D)(hk:∀z∈L,z.1.size≤100000∧(D z.1).length≤90000)(hl:L.length≤100000):
  Calls prog 35 #[.pointer (some ⟨B,q,none⟩)] w fun e w'=>∃v,e=.returned v∧(∃l,zx w' w.heap.size v l∧l.map (·.1)=L.map fun z=>mS cg z.1 (D z.1))∧Below w.heap.size w w':=by
 refine(PE (n:=9)).1 ?_;refine QR func35 rfl trivial ?_ rfl;simp only[ntmps35,UH,PC,Qe,Nat.reduceAdd,Nat.reduceSub,QH,QI,QJ,QK,PQ,PN];obtain⟨T,hp,hTl,hT,hTn,hTs⟩:=h.tr;have hTlen:T.toL.length=L.length:=congrArg _ hTl;have hc:=(aa h.box q).trans h.c0;have hbw:=am h.box;gi_wp2_with (refine⟨trivial,?_⟩;gi_at_call 74;refine(PE.2 (Nf ⟨B,q,none⟩ _)).mono ?_;rintro e w1 ⟨rfl,rfl⟩);have hb1:Below w.heap.size w ((w.alloc (.cells #[.slice none 0 0] 84)).alloc (.cells #[.pointer (some ⟨B,q,none⟩)] 242)):=zb;obtain⟨W0,hW0⟩:∃W0,W0=(w.alloc (.cells #[.slice none 0 0] 84)).alloc (.cells #[.pointer (some ⟨B,q,none⟩)] 242):=⟨_,rfl⟩;have hsz:W0.heap.size=w.heap.size+2:=by rw[hW0,Pq,Pq]
 have hx:W0.cell? ⟨w.heap.size+1,0,none⟩=some (.pointer (some ⟨B,q,none⟩)):=by
  have:=Up (w.alloc (.cells #[.slice none 0 0] 84)) (.cells #[.pointer (some ⟨B,q,none⟩)] 242);exact N9
 have hbox:Boxed W0 w.heap.size 84 (.slice none 0 0):=hW0▸(R0 w _ _).alloc _;rw[←hW0]at hb1⊢;have hst:=BE (own:=own) (t:=tm) 8 (w.heap.size+1) B q T W0 hx ((hb1.cell (p:=⟨B,q,none⟩) hbw).trans (hp▸hc)) (hT.below hb1) (hTl▸hTs);obtain⟨i0,hi,hz0,hz1,hz2⟩:=Qm En;have HH:=zH h;refine TV rfl (by omega) (gf:=128) (lb:=#[.pointer (some ⟨w.heap.size+1,0,none⟩)]) rfl trivial (QS func128 (by kernel_rfl) rfl) hst
  (fun h k=>fh h k) (fun W l o o' hl' hW h1 h2=>gP (w:=W0) (fun b hb=>Ut (hT.at b hb).2 (by omega)) W l o o' hl' hW h1 h2) (Pk _ _) (fun _=>rfl)
  (Nh (M:=T.toL) D w.heap.size w)
  (fun _ _ _=>False) ?hI ?hIx ?h0
  (fun z=>{tmps:=#[.pointer (some ⟨B,q,none⟩),undef,.slice none 0 0,.pointer (some ⟨w.heap.size,0,none⟩),.string z.1.1,.pointer (some ⟨z.1.2,0,none⟩),.pointer (some ⟨B,q,none⟩),.bool false,undef,.pointer (some ⟨B,q,none⟩),.pointer (some ⟨B,q,none⟩),.pointer (some ⟨B,q,none⟩),.func (.func 128) #[] #[.pointer (some ⟨w.heap.size+1,0,none⟩)],.string z.1.1,.pointer (some ⟨z.1.2,0,none⟩),undef,undef,undef,undef,undef,undef,undef],defers:=[]}) ?assign ?body ?done ?stop
 case assign=>
  intro l z W K hK;gi_wp2;exact hK
 case hIx=>exact fun _=>fun _ _ _ _ hs _ _=>hs
 case stop=>
  exact NT
 case h0=>exact⟨_,[],hbox,ot _ _ _ _ _ _ _ _ _,rfl,hb1⟩
 case hI=>exact JF (by omega) (by omega) rfl
 case body=>
  rintro l pre z W ⟨v,ls,hv,hN,hmap,hbW⟩ hlen;have hvc:=hv.cell;have hbs:=hbW.size;have hpl:ls.length<100000:=by
   have:=congrArg List.length hmap;rw[Ur,Ur]at this;omega
  have hzL:z.1∈L:=by rw[←hTl];exact z.2
  have hgz:=(ax oS HH.out.tr.srt (k:=z.1.1) (v:=z.1.2)).2 hzL;have hdr:Below W.heap.size W W.drew:=(Pk _ _).drew;have HO:=zH (fun w1 (b:Below W.heap.size W w1)=>Gb z.1.1 (hk z.1 hzL).1 (((HH.out.below hbW).below b).held _ _ hgz).2 (hk z.1 hzL).2);have HFIN:=zH (fun(w1 w2:World) (uA:Option Addr) (uc g' cap':Nat) (o1:w1.ownsRow W.drew.heap.size 237 2 (.slice uA (mS cg z.1.1 (D z.1.1)).bk.length uc) (mS cg z.1.1 (D z.1.1)).bk.length ((mS cg z.1.1 (D z.1.1)).bk.flatMap aP)) (b1:Below W.drew.heap.size W.drew w1)
    (hown':w2.ownsRow w.heap.size 169 6 (.slice (some ⟨g',0,none⟩) (ls.length+1) cap') (ls.length+1) ((ls.flatMap fun x=>je x.1 x.2)++je (mS cg z.1.1 (D z.1.1)) (.slice uA (mS cg z.1.1 (D z.1.1)).bk.length uc)))
    (hgrow:(w1.alloc (.cells (je (mS cg z.1.1 (D z.1.1)) (.slice uA (mS cg z.1.1 (D z.1.1)).bk.length uc)).toArray 169)).grownBy w2 v.ownBlock) (hlies:∀k,(Value.slice (some ⟨g',0,none⟩) (ls.length+1) cap').ownBlock=some k→v.ownBlock=some k∨(w1.alloc (.cells (je (mS cg z.1.1 (D z.1.1)) (.slice uA (mS cg z.1.1 (D z.1.1)).bk.length uc)).toArray 169)).heap.size≤k)
    (hv1:Boxed w2 w.heap.size 84 v) (hv2:Boxed (w2.setCell ⟨w.heap.size,0,none⟩ (.slice (some ⟨g',0,none⟩) (ls.length+1) cap')) w.heap.size 84 (.slice (some ⟨g',0,none⟩) (ls.length+1) cap'))
    (hk2:KeepsOthers w1 (w2.setCell ⟨w.heap.size,0,none⟩ (.slice (some ⟨g',0,none⟩) (ls.length+1) cap'))) (hb2:Below w.heap.size w1 (w2.setCell ⟨w.heap.size,0,none⟩ (.slice (some ⟨g',0,none⟩) (ls.length+1) cap')))=>by
   have bw:Below W.heap.size W w1:=hdr.trans b1;have hn2:=(hN.below bw).snoc o1 (by show w.heap.size≤W.heap.size;omega) hN.lt.1 hN.lt.2 hown' hgrow hlies;have hbx:=hn2.box hv1 (by decide) (by decide);have fin:KeepsOthers W (w2.setCell ⟨w.heap.size,0,none⟩ (.slice (some ⟨g',0,none⟩) (ls.length+1) cap'))∧cu (fun b=>b∈T.blocks) W (w2.setCell ⟨w.heap.size,0,none⟩ (.slice (some ⟨g',0,none⟩) (ls.length+1) cap'))∧Nh (M:=T.toL) D w.heap.size w (pre++[z]) (w2.setCell ⟨w.heap.size,0,none⟩ (.slice (some ⟨g',0,none⟩) (ls.length+1) cap')):=
    ⟨(Kp.of_below (fun _=>False) bw).others.trans hk2,bG (fun b hb=>(hT.at b hb).2) ((bw.mono hbs).trans hb2),_,_,hv2,hn2.setCell hbx.1 hbx.2 0 _,by rw[PU,PU,hmap];rfl,hbW.trans ((bw.mono hbs).trans hb2)⟩
   exact fin)
  have hvd:=hv;gi_wp2_with fail;refine iG (S:=fun _=>True) (by kernel_rfl) (by kernel_rfl) (fun _ _ h=>h) trivial (fun _=>?_);(refine zh trivial 5 2 1 ?_;simp only[zd];((iterate 2 (refine zU ?_;simp only[zp]));refine ac ?_));refine aU 0 3 (by kernel_rfl) rfl rfl (fun K hK=>?_) (fun K hK=>?_)
  ·rw[Pj (by rfl)];go_simp;(refine zu hK trivial ?_;clear hK K;try simp only[zp]);(refine zo 3 rfl fun K hK=>?_;go_simp);go_at_call 75;(with_reducible refine(HO.out _ hdr).mono ?_);rintro e1 w1 ⟨u,rfl,o1,b1⟩;obtain⟨uA,uc,rfl⟩:=an o1;have bw:Below W.heap.size W w1:=hdr.trans b1;have hN1:=hN.below bw;have hvb1:Boxed w1 w.heap.size 84 v:=af hv bw;have hb1:w.heap.size≤w1.heap.size:=by have:=bw.size;omega
   (refine zu hK trivial ?_;clear hK K;try simp only[zp]);(refine zo 4 rfl fun K hK=>?_;go_simp);exact IS
  ·rw[Pj (by rfl)];go_simp;go_at_call 75;(with_reducible refine(HO.out _ hdr).mono ?_);rintro e1 w1 ⟨u,rfl,o1,b1⟩;obtain⟨uA,uc,rfl⟩:=an o1;have bw:Below W.heap.size W w1:=hdr.trans b1;have hN1:=hN.below bw;have hvb1:Boxed w1 w.heap.size 84 v:=af hv bw;have hb1:w.heap.size≤w1.heap.size:=by have:=bw.size;omega
   (refine zu hK trivial ?_;clear hK K;try simp only[zp]);refine aU 0 4 (by kernel_rfl) rfl rfl (fun K hK=>?_) (fun K hK=>?_)
   ·rw[Pj (by rfl)];have hvc1:=hvb1.cell;go_simp;(refine zu hK trivial ?_;clear hK K;try simp only[zp]);(refine zo 4 rfl fun K hK=>?_;go_simp);exact IS
   ·rw[Pj (by rfl)];go_simp;(refine zu hK trivial ?_;clear hK K;try simp only[zp]);refine zo 0 rfl fun K hK=>?_;have hvc1:=(hvb1.alloc (.cells (je (mS cg z.1.1 (D z.1.1)) (.slice uA (mS cg z.1.1 (D z.1.1)).bk.length uc)).toArray 169)).cell;simp only[je]at hvc1;go_simp;exact IS
 case done=>
  rintro DD zs W hD hS ⟨v,ls,hv,hN,hmap,hb⟩ hK;have hvc:=hv.cell;gi_wp2;refine⟨by simp,.inl ⟨_,_,rfl,UW hK,?_⟩⟩;refine⟨_,VJ rfl _ _ _,?_⟩;refine⟨_,rfl,⟨ls,hN.nc (B:=w.heap.size) (RE W DD _) (fun r e=>by cases e;exact⟨by omega,_,hK,rfl⟩),?_⟩,hb.grown (RE W DD _) hb.size fun k e=>by cases e;omega⟩;have e:=congrArg (List.map fun z:ByteArray×Nat=>mS cg z.1 (D z.1)) (hS.trans hTl);rw[UQ]at e;rw[hmap];exact e
end
end
