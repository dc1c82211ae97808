/- For WholeGossip: contracts of functions and plain laws. -/
import Derived.Test.YtfgfbacnkpeneaaGreatDoorVBm
import Derived.Test.YtfgfbacnkpeneaaGreatDoorVBo
set_option maxRecDepth 100000
set_option maxHeartbeats 4000000
set_option linter.unusedVariables false
set_option linter.unusedSimpArgs false
namespace Go.Proofs.YtfgfbacnkpeneaaGreatDoor
open Go.Proofs.Tryz Go.ChangeShapes Go.WideShapes Go.ChangeAt Go.RowKit Go.Deep Go.Shelf AvlP BigP
section
theorem Ep:(prog.info? 173).map (fun i=>(i.zero,i.size,i.bytes))=some (some (.agg #[.string ⟨#[]⟩,.string ⟨#[]⟩,.int .i64 0]),3,40):=by kernel_rfl
def eP(f:Pr→Int)(a:Pr):wC:=⟨a.1,a.2,f a⟩
theorem FX{w w':World}{M r cnt base n sz:Nat}{g:Pr→Option Int}{done:List Pr}{e:TypeId}{v:Value}{xs:List Value}(hW:fD Fg jP iV w M r g done cnt)(h:w.ownsRow base e sz v n xs)(hk:Km (fun z=>z=r) w w'):w'.ownsRow base e sz v n xs:=by
 refine⟨h.1,h.2.imp id fun⟨g2,cap,cur,e1,hb,hg,rest⟩=>⟨g2,cap,cur,e1,hb,hk.at hg fun e2=>?_,rest⟩⟩;obtain⟨es,clock,since,seen,c0,a1,a2,a3,a4,a5,a6⟩:=hW.ex;rw[←e2,hg]at a5;cases a5
theorem Jv{w:World}{M r cnt base n sz:Nat}{g:Pr→Option Int}{done:List Pr}{e:TypeId}{v:Value}{xs:List Value}(hW:fD Fg jP iV w M r g done cnt)(h:w.ownsRow base e sz v n xs):v.ownBlock≠some M∧v.ownBlock≠some r:=by
 obtain⟨es,clock,since,seen,c0,a1,a2,a3,a4,a5,a6⟩:=hW.ex;rcases h.2 with⟨rfl,_⟩ |⟨g2,cap,cur,rfl,_,hg,_⟩
 ·simp[Value.ownBlock]
 ·refine⟨fun e2=>?_,fun e2=>?_⟩
  ·have:g2=M:=by simpa[Value.ownBlock]using e2
   rw[this,a1]at hg;cases hg
  ·have:g2=r:=by simpa[Value.ownBlock]using e2
   rw[this,a5]at hg;cases hg
instance:Inhabited wC:=⟨⟨⟨#[]⟩,⟨#[]⟩,0⟩⟩
theorem vN{f:Pr→Int}{E done:List Pr}{O:List wC}(hf:∀t,f t=(E.count t:Nat))(hn:done.Nodup)(h1:∀a,f a≠0→a∈done)(h2:∀a∈done,f a≠0)(hp:O.Perm (done.map (eP f)))(hs:∀i j (hj:j<O.length) (hij:i<j),jG O[j] O[i]=false):oU E O:=by
 have hinj:∀a b,eP f a=eP f b→a=b:=fun a b e=>by
  obtain⟨a1,a2⟩:=a;obtain⟨b1,b2⟩:=b;simp only[eP,wC.mk.injEq]at e;rw[e.1,e.2.1]
 have hnd:O.Nodup:=hp.symm.nodup (List.Pairwise.map _ (fun a b hne e=>hne (hinj a b e)) hn);have hmem:∀a,a∈O↔a.n=(E.count (a.f,a.t):Nat)∧a.n≠0:=fun a=>by
  rw[hp.mem_iff,Uu];constructor
  ·rintro⟨t,ht,rfl⟩;exact⟨hf t,h2 t ht⟩
  ·rintro⟨e1,e2⟩;rw[←hf]at e1;refine⟨(a.f,a.t),h1 _ (by rw[←e1];exact e2),?_⟩;unfold eP;rw[←e1]
 refine⟨V4.2 fun i j hi hj hij=>?_,hmem⟩;have h:=hs i j hj hij;rcases sq O[i] O[j]with e |e |e
 ·exact e
 ·have e1:=(hmem _).1 (List.getElem_mem hi);have e2:=(hmem _).1 (List.getElem_mem hj);have:O[i]=O[j]:=by
   have en:O[i].n=O[j].n:=by rw[e1.1,e2.1,e.1,e.2]
   generalize O[i]=x at*;generalize O[j]=y at*;obtain⟨x1,x2,x3⟩:=x;obtain⟨y1,y2,y3⟩:=y;obtain⟨rfl,rfl⟩:=e;cases en;rfl
  exact absurd this ((V4.1 hnd) i j hi hj hij)
 ·rw[h]at e;cases e
theorem zP{w:World}{base:Nat}{v:Value}{l:List wC}(h:w.ownsRow base 173 3 v l.length (l.flatMap tu))(hl:l.length≤100000):
  Calls prog 76 #[v,.func (.func 77) #[] #[]] w fun e w'=>(∃u,e=.returned u)∧∃O:List wC,O.Perm l∧(∀i j (hj:j<O.length) (hij:i<j),jG O[j] O[i]=false)∧w'.ownsRow base 173 3 v O.length (O.flatMap tu)∧w.grownBy w' v.ownBlock:=by
 rcases h.2 with⟨rfl,h0⟩ |⟨g,cap,cur,rfl,hbase,hb,g1,g2,g3,g4⟩
 ·have:l=[]:=QW h0;subst this;refine(AnyF.slices_SortFunc_none Tryz.sortE none 0 _ w).mono ?_;rintro e w' ⟨rfl,rfl⟩;exact⟨⟨_,rfl⟩,[],.refl _,fun i j hj=>by simp at hj,⟨rfl,.inl ⟨rfl,rfl⟩⟩,⟨rfl,rfl,rfl,Po _,fun _ _ _=>rfl⟩⟩
 ·have hk:∀x,(tu x).length=3:=fun _=>rfl;have hH:=AN (l:=l) (by omega:0<3) hk hb g4;have hc:=AnyQ.slices_SortFunc Tryz.sortE 3 (fun _=>by kernel_rfl) (fun _=>by kernel_rfl) tu hk (fun x v hv=>by simp only[tu,Pz,List.not_mem_nil,or_false]at hv;rcases hv with rfl |rfl |rfl<;>rfl) qh LP 77 #[] g 0 cap l.toArray w (fun _ _=>by kernel_rfl)
   (fun m os dk _ x y=>(Kb x y _).mono fun e w' ⟨he,q,os',hw⟩=>⟨he,q,os',hw⟩) hH (am hb) (by simp;omega)
  refine hc.mono ?_;rintro e w' ⟨rfl,d',n,os,⟨p1,p2,p3⟩,hs,rfl⟩;obtain⟨O⟩:=d';have hz:O.length=l.length:=by simpa using p1
  refine⟨⟨_,rfl⟩,O,?_,fun i j hj hij=>?_,?_,tt _⟩
  ·have h3:(O.take l.length).Perm l:=by simpa[hz]using p3
   rw[←hz,PM]at h3;exact h3
  ·have:=hs i j (QZ _) hij (by simpa[←hz]using hj);rw[yF,getElem!_pos O.toArray j (by simpa using hj),getElem!_pos O.toArray i (by simp;omega)]at this;exact this
  ·have:=sZ (enc:=tu) (base:=base) (n:=n) (os:=os) (m:=O) (l:=l) (by omega:0<3) hk hz hbase hb g1 g2 g3;rw[hz];exact this
section
variable{w w':World}{B q M:Nat}{f:Pr→Int}{E:List Pr}
theorem LS(hf:∀t,f t=(E.count t:Nat))(hE:∀t∈E,jP t)(hl:E.length≤40000)(hc:w.cell? ⟨B,q+6,none⟩=some (.map (some M)))(h:fF w M f):
  Calls prog 37 #[.pointer (some ⟨B,q,none⟩)] w fun e w'=>∃v O,e=.returned v∧w'.ownsRow w.heap.size 173 3 v O.length (O.flatMap tu)∧oU E O∧Below w.heap.size w w':=by
 obtain⟨i0,hi,hz0,hz1,hz2⟩:=Qm Ep;obtain⟨g,hm,hg⟩:=h.ex;have HM:=zH hm;have hcl:=Uy w _ hc;have HG:=zH hg;have HF:=zH hf;have HE:=zH hE;clear hm h hg hf hE;go_enter func37,ntmps37;go_wp2_with (at_range;refine lk rfl _ rfl Vh rfl HM.out ?_;intro n cnt hwk);clear HM hc;go_loopw [3] (fun u wr=>∃v done cnt,v=u∧fD Fg jP iV wr M w.heap.size g done cnt∧Below w.heap.size w wr∧wr.ownsRow w.heap.size 173 3 v done.length ((done.map (eP f)).flatMap tu)) (fun _ wr=>Cv wr M w.heap.size)
 case atStart=>exact⟨_,[],cnt,rfl,hwk,ae _ (Pk _ _),⟨rfl,.inl ⟨rfl,rfl⟩⟩⟩
 case round=>
  obtain⟨v,done,cnt,hu,hW,hb,hrow⟩:=hrel;subst hu;have hle:=zH hW.left;have hM:=hW.lt;go_wp2_with (at_next;refine mu rfl _ rfl tX.inj rfl hW ?_ ?_)
  ·intro hall;have hD:=eU (hW.nodup.1) (m:=E) (fun a ha=>by
    have:=hW.nodup.2 a ha;rw[HG.out,HF.out]at this;refine VN.1 ?_;unfold zz at this;by_cases e:((E.count a:Nat):Int)=0
    ·rw[Pj e]at this;exact absurd rfl this
    ·omega)
   have HA:=zH hall;have HB:=zH hb;have HS:=zH (zP (l:=done.map (eP f)) (by rw[Ur];exact hrow) (by rw[Ur];omega));have HN:=zH hW.nodup;have hlow:=zH (fun k e=>(hrow.lt k e).1);clear hrow hall hb;go_wp2_with (go_at_call 76;(with_reducible refine(HS.out).mono ?_);rintro e w3 ⟨⟨u,rfl⟩,O,o1,o2,o3,o4⟩);go_ret;exact⟨_,O,rfl,o3,vN HF.out HN.out.1 (fun a ha=>HA.out a.1 a.2 (by rw[HG.out];unfold zz;rw[Pm ha];simp)) (fun a ha e=>HN.out.2 a ha (by rw[HG.out,e];rfl)) o1 o2,HB.out.grown o4 HB.out.size hlow.out⟩
  ·intro x1 x2 b w' cnt' h1a h1b h2 h3 h4 h5 h6 h7 h8;have hen:=h8 w' rfl rfl;have hb':Below w.heap.size w w':=hb.trans (h6.below (fun z hz e=>by omega) hb.size);have hl4:=zH h4.left;have bn:=ae (.cells #[.string x1,.string x2] 189) hb';have nn:=Up w' (.cells #[.string x1,.string x2] 189);have p0:=aa nn;have hD:=eU (h4.nodup.1) (m:=E) (fun a ha=>by
    have:=h4.nodup.2 a ha;rw[HG.out,HF.out]at this;refine VN.1 ?_;unfold zz at this;by_cases e:((E.count a:Nat):Int)=0
    ·rw[Pj e]at this;exact absurd rfl this
    ·omega)
   rw[Pu,U5]at hD;have HR:=zH (((FX hW hrow h6).alloc (.cells #[.string x1,.string x2] 189)).alloc (.cells #[.string x1,.string x2,iV b] 173));go_wp2_with (at_builtin;go_loud (refine aM rfl _ _ 85 rfl w.heap.size 173 i0 (.agg #[.string ⟨#[]⟩,.string ⟨#[]⟩,.int .i64 0]) 3 40 underlying85 hi hz0 hz1 hz2 rfl (by decide) v done.length _ rfl HR.out ⟨wr.heap.size+1,0,none⟩ 1 1 [.string x1,.string x2,iV b] rfl rfl (bj _ _ _ _ (by simp[h7])) (by simp[iV,Value.oneCell']) (by unfold maxLen;omega) (by omega) (by simp;omega) ?_);intro v' w2 h20 h21 h22);have hrn:=Jv hW hrow;have hb2:=ae (.cells #[.string x1,.string x2,iV b] 173) (ae (.cells #[.string x1,.string x2] 189) (Pk w'.heap.size w'));have hst:∀k,k<w'.heap.size→v.ownBlock≠some k→w2.heap[k]?=w'.heap[k]?:=fun k hk hne=>(h21.5 k (Ut hk hb2.size) (Qj hne)).trans (hb2.block k hk);have h9:=h4.kept (hst M (by omega) hrn.1) (hst _ (by omega) hrn.2);have hbz:b=f (x1,x2):=by
    rw[HG.out]at h2;unfold zz at h2;split at h2
    ·cases h2
    ·exact(UC h2).symm
   refine⟨⟨_,_,_,rfl,h9,(hb'.trans (hb2.mono hb'.size)).grown h21 (Pt hb'.size hb2.size) (fun k e=>(hrow.lt k e).1),?_⟩,?_⟩
   ·rw[Pu,U5,PU,UX];have:[.string x1,.string x2,iV b]=List.flatMap tu (List.map (eP f) [(x1,x2)]):=by
     rw[hbz];rfl
    rw[←this];exact h20
   ·rw[h9.left,hle.out];exact h5
end
end
