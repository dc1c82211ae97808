/- For WholeGossip: contracts of functions and plain laws. -/
import Derived.Test.YtfgfbacnkpeneaaGreatDoorVBh
set_option maxRecDepth 100000
set_option maxHeartbeats 4000000
set_option linter.unusedVariables false
set_option linter.unusedSimpArgs false
namespace Go.Proofs.YtfgfbacnkpeneaaGreatDoor
open Go.Proofs.Tryz Go.ChangeShapes Go.WideShapes Go.ChangeAt Go.RowKit Go.Deep AvlP BigP PlcP
theorem Wm{P:Prop}(h:P:=by
 (with_reducible refine(HQ.out).mono ?_);rintro e7 w7 ⟨⟨c7,rfl⟩,D7⟩;have n7:=D7.stand nn (by omega) (by omega) hw1 hb;have m7:=D7.stand fb (by omega) (by omega) ofb hb;go_wp2_with fail;(refine zu hK ⟨m7,n7⟩ ?_;clear hK K;try simp only[zp]);(refine ze ?_);gi_wp2_with fail;refine⟨?_,by simp[intOf];omega⟩;(repeat apply Exists.intro);refine⟨?_,rfl⟩;refine⟨k+1,by omega,by go_num,?_⟩;rw[HTK.out];exact az.after (q1.below bn.drew) near1 (kp1.trans (Kp.of_below _ bn.drew)) ext1 D7):P:=h
section
structure Fa(A:List (ByteArray×Int))(C:List (ByteArray×Unit))(k:ByteArray)(v:Pl)(st:Prop):Prop where
 key:k=kk v.tr v.id
 tr:aB v.tr
 id:aB v.id
 pl:gL (fX A v.tr) v.id (v.cl,v.de,v.to)
 fan:v.fa=(aH C v.tr v.id).length∨st
structure Fe(A:List (ByteArray×Int))(C:List (ByteArray×Unit))(P:List (ByteArray×Pl)):Prop where
 k:kt A C
 sp:aX oS P
 pa:∀k,ag oS A k≠none→ag oS P k≠none
 ok:∀k v,ag oS P k=some v→Fa A C k v False
theorem J2:Fe [] [] []:=⟨Cy,fH _,(fun k h=>absurd rfl h),(fun k v h=>by cases h)⟩
section
variable{A A':List (ByteArray×Int)}{C C':List (ByteArray×Unit)}{P:List (ByteArray×Pl)}{k:ByteArray}{v:Pl}{st:Prop}{tr i x:Int}
theorem Fa.present(h:Fa A C k v st):ag oS A k≠none:=by rw[h.key];exact oC h.pl
theorem Fa.cl(h:Fa A C k v st):v.cl≠0:=by have:=rU h.pl;simp only at this;omega
theorem Kr(h:kt A C)(hi:aB i):∀n,kY (fX A tr) n i=some x→aB x:=by
 intro n;induction n generalizing i with
 |zero=>intro hx;simp[kY]at hx;exact hx▸hi
 |succ n ih=>
  intro hx;rw[dV]at hx;cases hp:fX A tr i with
  |none=>rw[hp]at hx;cases hx
  |some e=>
   rw[hp]at hx;obtain⟨_,_,_,_,he,_⟩:=h.a _ _ hp;exact ih he hx
theorem ry(h:kt A C)(hi:aB i){p:Int×Int×Int}(hp:gL (fX A tr) i p):0≤p.2.1∧p.2.1≤A.length:=by
 have:=rT hp (A.map fun z=>wE z.1) fun n y hy hn=>by
  have hy64:=Kr h hi n hy;cases hq:ag oS A (kk tr y)with
  |none=>exact absurd hq hn
  |some e=>exact Uu.2 ⟨_,(ax oS h.sa).1 hq,gB _ _ hy64⟩
 simpa using this
theorem xV{α:Type}[DecidableEq α]{l m:List α}(hl:l.Nodup)(hm:m.Nodup)(h:∀x,x∈l↔x∈m):l.length=m.length:=
 Nat.le_antisymm (eU hl fun x hx=>(h x).1 hx) (eU hm fun x hx=>(h x).2 hx)
theorem jw{V W:Type}{L:List (ByteArray×V)}{M:List ByteArray}(h:aX oS L)(hs:∀k,ag oS L k≠none→k∈M):L.length≤M.length:=by
 have:=eU (lU h) (m:=M) fun k hk=>hs k ((eX h).2 hk);simpa using this
theorem dH{V:Type}{L:List (ByteArray×V)}(h:aX oS L){k:ByteArray}(hk:ag oS L k≠none):k∈L.map (·.1):=(eX h).1 hk
theorem kt.clen(h:kt A C):C.length≤A.length:=by
 have hn:(C.map fun z=>kk (sX z.1) (wE (mC z.1))).Nodup:=by
  rw[Vk,Q9];have hs:=h.sc;unfold aX at hs;refine hs.imp_of_mem fun {a b} ha hb hlt e=>?_;have na:ag oS C a.1≠none:=by rw[(ax oS h.sc).2 (show(a.1,a.2)∈C from ha)];simp
  have nb:ag oS C b.1≠none:=by rw[(ax oS h.sc).2 (show(b.1,b.2)∈C from hb)];simp
  obtain⟨t,q,j,ht,hq,hj,ea⟩:=h.z _ na;obtain⟨t',q',j',ht',hq',hj',eb⟩:=h.z _ nb;rw[ea,eb,jb _ _ ht (aY _ _),jb _ _ ht' (aY _ _),ja _ _ (aY _ _),ja _ _ (aY _ _),gB _ _ hj,gB _ _ hj']at e;obtain⟨rfl,rfl⟩:=bS ht hj ht' hj' e;rw[ea]at na;rw[eb]at nb;have h1:=(h.c _ _ _ ht hq hj).1 na;have h2:=(h.c _ _ _ ht hq' hj).1 nb;rw[h1]at h2;cases h2;exact oS.ne hlt (ea.trans eb.symm)
 have:=eU hn (m:=A.map (·.1)) fun k hk=>by
  obtain⟨z,hz,rfl⟩:=Uu.1 hk;have na:ag oS C z.1≠none:=by rw[(ax oS h.sc).2 (show(z.1,z.2)∈C from hz)];simp
  obtain⟨t,q,j,ht,hq,hj,ea⟩:=h.z _ na;rw[ea,jb _ _ ht (aY _ _),ja _ _ (aY _ _),gB _ _ hj];rw[ea]at na;exact dH h.sa (by rw[(h.c _ _ _ ht hq hj).1 na];simp)
 simpa using this
end
structure mK(s0 s:WS)(ks:List Sp):Prop where
 a:s.A=s0.A
 c:s.C=s0.C
 g:∀k v,ag oS s.G k=some v→(∃i,aB v∧aB i∧k=kk v i)∧((∃x∈ks,k=aj x)∨ag oS s0.A k≠none)
 pr:∀x∈ks,ag oS s.G (aj x)≠none
 cl:∀tr i,aB tr→aB i→ag oS s.G (kk tr i)≠none→∀j∈aH s0.C tr i,ag oS s.G (kk tr j)≠none
 p:∀k,ag oS s.P k=if ag oS s.G k=none then ag oS s0.P k else none
 u:∀k,ag oS s.U k=if ag oS s.G k=none then none else some ((ag oS s0.P k).getD ku)
section
variable{s0 s s':WS}{ks:List Sp}
theorem xT(h1:s0.U=[])(h2:s0.G=[]):mK s0 s0 []:=
 ⟨rfl,rfl,(fun k v h=>by rw[h2]at h;cases h),(fun x hx=>by simp at hx),(fun tr i _ _ h=>by rw[h2]at h;exact absurd rfl h),(fun k=>by rw[h2];rfl),(fun k=>by rw[h1,h2];rfl)⟩
theorem mK.gOk(h:mK s0 s ks):Nj s.G:=fun k v hv=>(h.g k v hv).1
theorem mK.step(h:mK s0 s ks){x:Sp}(hx:x.Ok)(h':jq s x.tr x.id s' []):mK s0 s' (ks++[x]):=by
 have hmono:∀k,ag oS s.G k≠none→ag oS s'.G k≠none:=fun k hk=>by
  cases hq:ag oS s.G k with
  |none=>exact absurd hq hk
  |some v=>rw[h'.mono k v hq];simp
 refine⟨h'.a.trans h.a,h'.c.trans h.c,fun k v hv=>?_,fun y hy=>?_,fun tr i ht hi hg j hj=>?_,fun k=>?_,fun k=>?_⟩
 ·rcases h'.new k v hv with h1 |⟨rfl,i,hi,rfl,h1⟩
  ·obtain⟨h2,h3⟩:=h.g k v h1;exact⟨h2,h3.imp (fun⟨y,hy,e⟩=>⟨y,U0 _ hy,e⟩) id⟩
  ·refine⟨⟨i,hx.1,hi,rfl⟩,?_⟩;rcases h1 with rfl |h1
   ·exact .inl ⟨x,by simp,rfl⟩
   ·rw[h.a]at h1;exact .inr h1
 ·rcases Px.1 hy with hy |hy
  ·exact hmono _ (h.pr y hy)
  ·rw[Ql.1 hy];exact h'.start.elim id fun h=>by simp at h
 ·by_cases hs:ag oS s.G (kk tr i)=none
  ·cases hq:ag oS s'.G (kk tr i)with
   |none=>exact absurd hq hg
   |some v=>
    rcases h'.new _ _ hq with h1 |⟨rfl,i',hi',e,_⟩
    ·rw[hs]at h1;cases h1
    ·obtain⟨rfl,rfl⟩:=bS ht hi hx.1 hi' e;have hj':j∈aH s.C x.tr i:=by rw[h.c];exact hj
     exact(h'.closed i hi hs hg j hj').elim id fun h=>by simp at h
  ·exact hmono _ (h.cl tr i ht hi hs j hj)
 ·rw[h'.p k,h.p k];by_cases h1:ag oS s.G k=none
  ·by_cases h2:ag oS s'.G k=none
   ·rw[Pm (fun h=>h.2 h2),Pj h1,Pj h2]
   ·rw[Pj ⟨h1,h2⟩,Pm h2]
  ·rw[Pm (fun h=>h1 h.1),Pm h1,Pm (hmono k h1)]
 ·rw[h'.u k,h.u k,h.p k];by_cases h1:ag oS s.G k=none
  ·rw[Pj h1,Pj h1,Pm (by simp)];by_cases h2:ag oS s'.G k=none
   ·rw[Pm (fun h=>h.2 h2),Pj h2]
   ·rw[Pj ⟨h1,h2⟩,Pm h2]
  ·rw[Pm h1,Pj (by simp),Pm (hmono k h1)]
theorem mK.sizes(h:mK s0 s ks)(ho:s.Ord)(h0:s0.Ord):s.G.length≤ks.length+s0.A.length∧s.U.length≤ks.length+s0.A.length∧s.P.length≤s0.P.length:=by
 have hg:=jw (W:=Unit) ho.g (M:=ks.map aj++s0.A.map (·.1)) fun k hk=>by
  cases hq:ag oS s.G k with
  |none=>exact absurd hq hk
  |some v=>
   rcases(h.g k v hq).2 with⟨x,hx,rfl⟩ |h1
   ·exact U0 _ (Uu.2 ⟨x,hx,rfl⟩)
   ·exact Vy _ (dH h0.a h1)
 have hu:=jw (W:=Unit) ho.u (M:=s.G.map (·.1)) fun k hk=>by
  rw[h.u k]at hk;split at hk
  ·exact absurd rfl hk
  ·rename_i h1;exact dH ho.g h1
 have hp:=jw (W:=Unit) ho.p (M:=s0.P.map (·.1)) fun k hk=>by
  rw[h.p k]at hk;split at hk
  ·exact dH h0.p hk
  ·exact absurd rfl hk
 simp at hg hu hp;omega
end
def aZ(z:List (ByteArray×Int)×List (ByteArray×Unit))(l:List Sp):List (ByteArray×Int)×List (ByteArray×Unit):=l.foldl (fun z x=>cp z.1 z.2 x.tr x.id) z
def dL(z:List (ByteArray×Int)×List (ByteArray×Unit))(l:List Sp):List (ByteArray×Int)×List (ByteArray×Unit):=l.foldl (fun z x=>gp z.1 z.2 x) z
theorem uH{l:List Sp}:∀{z:List (ByteArray×Int)×List (ByteArray×Unit)},kt z.1 z.2→(∀x∈l,x.Ok)→kt (aZ z l).1 (aZ z l).2∧(∀x∈l,ag oS (aZ z l).1 (aj x)=none)∧(∀k,(∀x∈l,aj x≠k)→ag oS (aZ z l).1 k=ag oS z.1 k)∧∀k,ag oS z.1 k=none→ag oS (aZ z l).1 k=none:=by
 induction l with
 |nil=>exact fun h _=>⟨h,by simp,fun _ _=>rfl,fun _ h=>h⟩
 |cons x r ih=>
  intro z h hl;obtain⟨k1,k2⟩:=h.drop (hl x (by simp)).1 (hl x (by simp)).2.1;obtain⟨h1,h2,h3,h4⟩:=ih k1 fun y hy=>hl y (by simp[hy]);refine⟨h1,fun y hy=>?_,fun k hk=>?_,fun k hk=>h4 k ?_⟩
  ·rcases Pz.1 hy with rfl |hy
   ·exact h4 _ (by rw[k2,Pj rfl])
   ·exact h2 y hy
  ·exact(h3 k fun y hy=>hk y (by simp[hy])).trans (by rw[k2,Pm (fun e=>hk x (by simp) e.symm)])
  ·rw[k2];split
   ·rfl
   ·exact hk
theorem F3{l:List Sp}:∀{z:List (ByteArray×Int)×List (ByteArray×Unit)},kt z.1 z.2→(∀x∈l,x.Ok)→(l.Pairwise fun a b=>aj a≠aj b)→kt (dL z l).1 (dL z l).2∧(∀x∈l,ag oS (dL z l).1 (aj x)=some x.pa)∧(∀k,(∀x∈l,aj x≠k)→ag oS (dL z l).1 k=ag oS z.1 k):=by
 induction l with
 |nil=>exact fun h _ _=>⟨h,by simp,fun _ _=>rfl⟩
 |cons x r ih=>
  intro z h hl hp;obtain⟨k1,k2⟩:=h.put x (hl x (by simp));obtain⟨p1,p2⟩:=QL.1 hp;obtain⟨h1,h2,h3⟩:=ih k1 (fun y hy=>hl y (by simp[hy])) p2;refine⟨h1,fun y hy=>?_,fun k hk=>?_⟩
  ·rcases Pz.1 hy with rfl |hy
   ·exact(h3 _ fun u hu e=>p1 u hu e.symm).trans (by rw[k2,Pj rfl])
   ·exact h2 y hy
  ·exact(h3 k fun y hy=>hk y (by simp[hy])).trans (by rw[k2,Pm (fun e=>hk x (by simp) e.symm)])
structure L7(A0 A:List (ByteArray×Int))(C:List (ByteArray×Unit))(out inn:List Sp):Prop where
 k:kt A C
 i:∀x∈inn,ag oS A (aj x)=some x.pa
 o:∀x∈out,(∀y∈inn,aj y≠aj x)→ag oS A (aj x)=none
 r:∀k,(∀x∈out++inn,aj x≠k)→ag oS A k=ag oS A0 k
theorem GW{A0:List (ByteArray×Int)}{C0:List (ByteArray×Unit)}{out inn:List Sp}(h:kt A0 C0)(ho:∀x∈out,x.Ok)(hi:∀x∈inn,x.Ok)(hp:inn.Pairwise fun a b=>aj a≠aj b):
  L7 A0 (dL (aZ (A0,C0) out) inn).1 (dL (aZ (A0,C0) out) inn).2 out inn:=by
 obtain⟨d1,d2,d3,_⟩:=uH (z:=(A0,C0)) h ho;obtain⟨p1,p2,p3⟩:=F3 d1 hi hp;exact⟨p1,p2,fun x hx hy=>(p3 _ hy).trans (d2 x hx),fun k hk=>(p3 k fun x hx=>hk x (by simp[hx])).trans (d3 k fun x hx=>hk x (by simp[hx]))⟩
theorem L7.len{A0 A:List (ByteArray×Int)}{C:List (ByteArray×Unit)}{out inn:List Sp}(h:L7 A0 A C out inn)(h0:aX oS A0):A.length≤A0.length+inn.length:=by
 have:=jw (W:=Unit) h.k.sa (M:=A0.map (·.1)++inn.map aj) fun k hk=>by
  by_cases hi:∃x∈inn,aj x=k
  ·obtain⟨x,hx,rfl⟩:=hi;exact Vy _ (Uu.2 ⟨x,hx,rfl⟩)
  ·by_cases ho:∃x∈out,aj x=k
   ·obtain⟨x,hx,rfl⟩:=ho;exact absurd (h.o x hx fun y hy e=>hi ⟨y,hy,e⟩) hk
   ·refine U0 _ (dH h0 ?_);rw[←h.r k fun x hx e=>(Px.1 hx).elim (fun hx=>ho ⟨x,hx,e⟩) fun hx=>hi ⟨x,hx,e⟩];exact hk
 simpa using this
structure FI(A:List (ByteArray×Int))(C:List (ByteArray×Unit))(P0:List (ByteArray×Pl))(X:ByteArray→Prop)(s:WS):Prop where
 a:s.A=A
 c:s.C=C
 k:kt A C
 ok:∀k v,ag oS s.P k=some v→Fa A C k v (X k)
 un:∀k,ag oS A k≠none→ag oS s.P k=none→ag oS s.G k≠none
 u1:∀k v,ag oS s.U k=some v→v=(ag oS P0 k).getD ku
 u2:∀k,ag oS s.U k=none→ag oS s.P k=ag oS P0 k
 gu:∀k,ag oS s.G k≠none→ag oS s.U k≠none
 uk:∀k,ag oS s.U k≠none→ag oS s.G k≠none∨ag oS A k≠none
section
variable{A:List (ByteArray×Int)}{C:List (ByteArray×Unit)}{P0:List (ByteArray×Pl)}{X X':ByteArray→Prop}{s:WS}{out inn:List Sp}
theorem Hi{s0:WS}(F0:Fe s0.A s0.C s0.P)(L:mK s0 s (out++inn))(hI:L7 s0.A A C out inn)(hA:∀x∈out,ag oS s0.A (aj x)=some x.pa)(hB:∀x∈inn,ag oS s0.A (aj x)=none∨∃y∈out,aj y=aj x)(hOk:∀x∈out++inn,x.Ok):
  FI A C s0.P (fun k=>∃x∈out++inn,k=kk x.tr x.pa) {s with A:=A,C:=C}:=by
 have hGk:∀k,ag oS s.G k=none→∀x∈out++inn,aj x≠k:=fun k hk x hx e=>L.pr x hx (e▸hk);refine⟨rfl,rfl,hI.k,fun k v hv=>?_,fun k h1 h2=>?_,fun k v hv=>?_,fun k hk=>?_,fun k hk=>?_,fun k hk=>?_⟩
 ·have hv:ag oS s.P k=some v:=hv;rw[L.p k]at hv;split at hv
  ·rename_i hg;have h0:=F0.ok k v hv;have hkey:=h0.key;refine⟨h0.key,h0.tr,h0.id,?_,?_⟩
   ·refine GK (par:=fX s0.A v.tr) (D:=fun i=>ag oS s.G (kk v.tr i)≠none) (fun i e hp he=>?_) (fun i hi=>?_) (fun h=>h (by rw[←hkey];exact hg)) h0.pl
    ·obtain⟨t',i',ht',hi',hee,ek⟩:=F0.k.a _ _ hp;have et:v.tr=t':=by rw[←jj v.tr i h0.tr,ek,jj _ _ ht']
     subst et;rw[ek];refine L.cl _ _ h0.tr hee he i' ((F0.k.kids h0.tr hee).2 ⟨hi',?_⟩);rw[←ek];exact hp
    ·exact hI.r _ (hGk _ (Classical.not_not.1 hi))
   ·refine Classical.or_iff_not_imp_right.2 fun hx=>?_;have hf:=h0.fan.resolve_right id;rw[hf];congr 1;refine xV (F0.k.nodup h0.tr h0.id) (hI.k.nodup h0.tr h0.id) fun j=>?_;rw[F0.k.kids h0.tr h0.id,hI.k.kids h0.tr h0.id];refine and_congr_right fun hj=>?_;by_cases hin:∃x∈inn,aj x=kk v.tr j
    ·obtain⟨x,hx1,hx2⟩:=hin;have hxo:=hOk x (by simp[hx1]);obtain⟨e1,e2⟩:=bS hxo.1 hxo.2.1 h0.tr hj hx2;have hne:x.pa≠v.id:=fun e=>hx ⟨x,by simp[hx1],by rw[e1,e];exact hkey⟩;rw[←hx2,hI.i x hx1];constructor
     ·intro h;by_cases hou:∃y∈out,aj y=aj x
      ·obtain⟨y,hy1,hy2⟩:=hou;have hyo:=hOk y (by simp[hy1]);rw[←hy2,hA y hy1]at h;obtain⟨f1,_⟩:=bS hyo.1 hyo.2.1 hxo.1 hxo.2.1 hy2;exact absurd ⟨y,by simp[hy1],by rw[f1,e1,UC h];exact hkey⟩ hx
      ·rcases hB x hx1 with h9 |⟨y,hy1,hy2⟩
       ·rw[h9]at h;cases h
       ·exact absurd ⟨y,hy1,hy2⟩ hou
     ·intro h;exact absurd (UC h) hne
    ·by_cases hou:∃x∈out,aj x=kk v.tr j
     ·obtain⟨x,hx1,hx2⟩:=hou;have hxo:=hOk x (by simp[hx1]);obtain⟨e1,e2⟩:=bS hxo.1 hxo.2.1 h0.tr hj hx2;have hne:x.pa≠v.id:=fun e=>hx ⟨x,by simp[hx1],by rw[e1,e];exact hkey⟩;rw[←hx2,hA x hx1,hI.o x hx1 fun y hy e=>hin ⟨y,hy,e.trans hx2⟩];constructor
      ·intro h;exact absurd (UC h) hne
      ·intro h;cases h
     ·rw[hI.r _ fun x hx' e=>(Px.1 hx').elim (fun h=>hou ⟨x,h,e⟩) fun h=>hin ⟨x,h,e⟩]
  ·cases hv
 ·have h2:ag oS s.P k=none:=h2;rw[L.p k]at h2;split at h2
  ·rename_i hg;have h1:ag oS A k≠none:=h1;rw[hI.r k (hGk k hg)]at h1;exact absurd h2 (F0.pa k h1)
  ·rename_i hg;exact hg
 ·have hv:ag oS s.U k=some v:=hv;rw[L.u k]at hv;split at hv
  ·cases hv
  ·exact(UC hv).symm
 ·have hk:ag oS s.U k=none:=hk;rw[L.u k]at hk;split at hk
  ·rename_i hg;exact(L.p k).trans (Pj hg)
  ·cases hk
 ·show ag oS s.U k≠none;rw[L.u k,Pm hk];simp
 ·have hk:ag oS s.U k≠none:=hk;rw[L.u k]at hk;split at hk
  ·exact absurd rfl hk
  ·rename_i hg;exact .inl hg
theorem FI.put(h:FI A C P0 X s)(hsp:aX oS s.P){tr a:Int}{p:Pl}(h1:aB tr)(h2:aB a)(hn:ag oS s.P (kk tr a)=none)(e1:p.tr=tr)(e2:p.id=a)(hp:gL (fX A tr) a (p.cl,p.de,p.to))(hf:p.fa=(aH C tr a).length):
  FI A C P0 X {s with P:=ay oS s.P (kk tr a) p}:=by
 have hg:=el hsp (kk tr a) p;refine⟨h.a,h.c,h.k,fun k v hv=>?_,fun k hk hk'=>?_,h.u1,fun k hk=>?_,h.gu,h.uk⟩
 ·have hv:ag oS (ay oS s.P (kk tr a) p) k=some v:=hv;rw[hg]at hv;split at hv
  ·rename_i e;cases hv;exact⟨by rw[e,e1,e2],by rw[e1];exact h1,by rw[e2];exact h2,by rw[e1,e2];exact hp,.inl (by rw[e1,e2];exact hf)⟩
  ·exact h.ok k v hv
 ·have hk':ag oS (ay oS s.P (kk tr a) p) k=none:=hk';rw[hg]at hk';split at hk'
  ·cases hk'
  ·exact h.un k hk hk'
 ·show ag oS (ay oS s.P (kk tr a) p) k=_;rw[hg];split
  ·rename_i e;subst e;have:=h.gu _ (h.un _ (by exact oC hp) hn);exact absurd hk this
  ·exact h.u2 k hk
theorem J1(h:FI A C P0 X s)(hsp:aX oS s.P)(hA:A.length≤700000){tr id i bZ:Int}{l:List Int}(h1:aB tr)(hch:jH s tr id l i)(hE:KW s tr i l)(hl:l.getLast?=some bZ):
  ∀k,k≤l.length→∃u P,(List.range k).foldl (fQ tr l.reverse fun a=>(aH s.C tr a).length) (mn (ag oS s.P (kk tr i)) (fX s.A tr i).isSome i bZ,s.P)=(u,P)∧FI A C P0 X {s with P:=P}∧aX oS P∧
   (∀k,ag oS s.P k≠none→ag oS P k≠none)∧(∀a∈l.drop (l.length - k),ag oS P (kk tr a)≠none)∧(∀a∈l.take (l.length - k),ag oS P (kk tr a)=none)∧Kt (fX A tr) (l.take (l.length - k)) (u.cl,u.de,u.to)∧(∃e,PlcP.iD (fX A tr) (l.take (l.length - k)) e)∧0≤u.de∧u.de≤700000:=by
 have ha:=h.a;have hc:=h.c;have hchain:PlcP.iD (fX A tr) l i:=ha▸hch.ch;intro k;induction k with
 |zero=>
  intro _;refine⟨_,_,rfl,h,hsp,fun _ h=>h,by simp,fun a ha'=>hch.un a (by simpa using ha'),?_,⟨i,by simpa using hchain⟩,?_⟩
  ·rw[Jc,Nat.sub_zero,PM,ha];refine zA hchain (fun kn hk=>?_) (fun hn hp=>?_) hl
   ·have hx:=h.ok _ _ hk;have hi64:=hch.oi;obtain⟨e1,e2⟩:=bS h1 hi64 hx.tr hx.id hx.key;rw[e1,e2];exact hx.pl
   ·rcases hE with hE |hE |hE
    ·rw[ha]at hE;exact absurd hE hp
    ·exact absurd hn hE
    ·exact hE
  ·cases hk:ag oS s.P (kk tr i)with
   |some kn=>
    have hx:=h.ok _ _ hk;have:=ry h.k hx.id hx.pl;simp only at this;show 0≤kn.de∧kn.de≤700000;omega
   |none=>
    unfold mn;simp only;split
    ·simp
    ·split<;>simp
 |succ k ih=>
  intro hk;obtain⟨u,P,e,f1,f2,f3,f4,f5,f6,⟨e0,f7⟩,f8,f9⟩:=ih (by omega);obtain⟨m,hm⟩:∃m,l.length - k=m+1:=⟨l.length - k - 1,by omega⟩;have hm':l.length - (k+1)=m:=by omega
  obtain⟨a,ha'⟩:∃a,l[m]?=some a:=⟨_,PT (show m<l.length by omega)⟩;have hrev:l.reverse.getD k 0=a:=by
   rw[Vu,List.getElem?_reverse (by omega),show l.length - 1 - k=m by omega,ha'];rfl
  have htk:l.take (m+1)=l.take m++[a]:=by rw[PO,ha'];rfl
  rw[hm,htk]at f5 f6 f7;rw[hm]at f4;obtain⟨g1,g2,g3⟩:=Dk f7 f6;have ha64:=hch.ok a (Pv ha');have hd:=ry h.k ha64 g1;have hst:(u.cl,(if u.cl=3 then 0 else IntKind.i64.wrap (u.de+1)),u.to)=fx (u.cl,u.de,u.to):=by
   unfold fx;rw[Qp (u.de+1) (by omega)]
  have hp1:gL (fX A tr) a (u.cl,(if u.cl=3 then 0 else IntKind.i64.wrap (u.de+1)),u.to):=by rw[hst];exact g1
  have hna:=f5 a (by simp);refine⟨Fh tr a u (aH s.C tr a).length,ay oS P (kk tr a) (Fh tr a u (aH s.C tr a).length),?_,f1.put f2 h1 ha64 hna rfl rfl hp1 (show((aH s.C tr a).length:Int)=(aH C tr a).length by rw[hc]),dR oS f2 _ _,fun k' hk'=>?_,fun b hb=>?_,fun b hb=>?_,?_,⟨a,by rw[hm'];exact g3⟩,?_⟩
  ·rw[List.range_succ,RO,e];simp only[UK,List.foldl_nil,fQ,hrev]
  ·rw[el f2];split
   ·simp
   ·exact f3 k' hk'
  ·rw[el f2];split
   ·simp
   ·rename_i hne;refine f4 b ?_;rw[hm',Vr (show m<l.length by omega)]at hb;rcases Pz.1 hb with rfl |hb
    ·have:l[m]=a:=by
      have:=PT (show m<l.length by omega);rw[this]at ha';exact UC ha'
     rw[this]at hne;exact absurd rfl hne
    ·exact hb
  ·rw[hm']at hb;rw[el f2,Pm,f5 b (by simp[hb])];intro ek;have hnd:=hch.nd;rw[←VD (m+1) l,htk]at hnd;have hnd':=(PW.1 (PW.1 hnd).1).2.2;have hb64:=hch.ok b (RG hb);exact hnd' b hb a (by simp) (bS h1 hb64 h1 ha64 ek).2
  ·rw[hm'];exact hst▸g2
  ·have hd':0≤(if u.cl=3 then 0 else IntKind.i64.wrap (u.de+1))∧(if u.cl=3 then 0 else IntKind.i64.wrap (u.de+1))≤700000:=by
    have:=ry h.k ha64 hp1;simp only at this;omega
   exact hd'
theorem FI.count(h:FI A C P0 X s)(ho:s.Ord){tr i:Int}(h1:aB tr)(h2:aB i)(hX:∀k,X k→k=kk tr i∨X' k):FI A C P0 X' (iv s tr i):=by
 unfold iv;cases hq:ag oS s.P (kk tr i)with
 |none=>
  refine⟨h.a,h.c,h.k,fun k v hv=>?_,h.un,h.u1,h.u2,h.gu,h.uk⟩;have hx:=h.ok k v hv;refine⟨hx.key,hx.tr,hx.id,hx.pl,hx.fan.imp id fun hh=>?_⟩;rcases hX k hh with e |e
  ·rw[e,hq]at hv;cases hv
  ·exact e
 |some v0=>
  have hx:=h.ok _ _ hq;obtain⟨e1,e2⟩:=bS h1 h2 hx.tr hx.id hx.key;have hg:=el ho.p (kk tr i) ({v0 with fa:=(aH s.C tr i).length}:Pl);obtain⟨t1,t2,t3,t4⟩:=iE s (kk tr i);have hU:∀k,ag oS (bq s (kk tr i)).U k=if k=kk tr i then some ((ag oS s.U k).getD v0)else ag oS s.U k:=fun k=>by
   unfold bq;by_cases hu:(ag oS s.U (kk tr i)).isSome=true
   ·rw[Pj hu];split
    ·rename_i e;rw[e];cases hh:ag oS s.U (kk tr i)with
     |none=>rw[hh]at hu;cases hu
     |some y=>rfl
    ·rfl
   ·rw[Pm hu];have hn:ag oS s.U (kk tr i)=none:=by
     cases hh:ag oS s.U (kk tr i)with
     |none=>rfl
     |some y=>rw[hh]at hu;exact absurd rfl hu
    show ag oS (ay oS s.U (kk tr i) _) k=_;rw[el ho.u];split
    ·rename_i e;rw[e,hn,hq];rfl
    ·rfl
  refine⟨t1.trans h.a,t2.trans h.c,h.k,fun k v hv=>?_,fun k hk hk'=>?_,fun k v hv=>?_,fun k hk=>?_,fun k hk=>?_,fun k hk=>?_⟩
  ·have hv:ag oS (ay oS s.P (kk tr i) _) k=some v:=hv;rw[hg]at hv;split at hv
   ·rename_i e;cases hv;exact⟨by rw[e];exact hx.key,hx.tr,hx.id,hx.pl,.inl (by rw[h.c,e1,e2])⟩
   ·rename_i e;have hy:=h.ok k v hv;refine⟨hy.key,hy.tr,hy.id,hy.pl,hy.fan.imp id fun hh=>?_⟩;exact(hX k hh).resolve_left e
  ·have hk':ag oS (ay oS s.P (kk tr i) _) k=none:=hk';rw[hg]at hk';split at hk'
   ·cases hk'
   ·show ag oS (bq s (kk tr i)).G k≠none;rw[t4];exact h.un k hk hk'
  ·have hv:ag oS (bq s (kk tr i)).U k=some v:=hv;rw[hU]at hv;split at hv
   ·rename_i e;cases hh:ag oS s.U k with
    |none=>
     rw[hh]at hv;have:=h.u2 k hh;rw[e,hq]at this;rw[←UC hv,e,←this];rfl
    |some y=>
     rw[hh]at hv;exact h.u1 k v (hh.trans hv)
   ·exact h.u1 k v hv
  ·have hk:ag oS (bq s (kk tr i)).U k=none:=hk;rw[hU]at hk;split at hk
   ·cases hk
   ·rename_i e;show ag oS (ay oS s.P (kk tr i) _) k=_;rw[hg,Pm e];exact h.u2 k hk
  ·have hk:ag oS (bq s (kk tr i)).G k≠none:=hk;rw[t4]at hk;show ag oS (bq s (kk tr i)).U k≠none;rw[hU];split
   ·simp
   ·exact h.gu k hk
  ·have hk:ag oS (bq s (kk tr i)).U k≠none:=hk;show ag oS (bq s (kk tr i)).G k≠none∨_;rw[t4];rw[hU]at hk;split at hk
   ·rename_i e;rw[e];exact .inr hx.present
   ·exact h.uk k hk
end
theorem qb{V:Type}{L:List (ByteArray×V)}(h:aX oS L)(p:ByteArray→Bool)(k:ByteArray):ag oS (L.filter fun z=>p z.1) k=if p k then ag oS L k else none:=by
 have hs:aX oS (L.filter fun z=>p z.1):=h.sublist U4;cases hq:ag oS (L.filter fun z=>p z.1) k with
 |none=>
  split
  ·rename_i hp;cases hg:ag oS L k with
   |none=>rfl
   |some v=>exact absurd (Uz.2 ⟨(ax oS h).1 hg,hp⟩) ((bQ oS hs).1 hq v)
  ·rfl
 |some v=>
  have hm:=Uz.1 ((ax oS hs).1 hq);rw[Pj hm.2,(ax oS h).2 hm.1]
theorem kK{α:Type}(p:α→Bool)(l:List α):l.Perm (l.filter p++l.filter fun x=>!p x):=by
 induction l with
 |nil=>exact Q0 _
 |cons a r ih=>
  rw[US,US];cases p a with
  |true=>exact ih.cons a
  |false=>exact(ih.cons a).trans (List.perm_middle.symm)
theorem FR(P:List (ByteArray×Pl))(U:List (ByteArray×Pl)):
  ∃R:List Pl,((U.filter fun z=>z.2.cl !=0).map (·.2)).Perm (U.filterMap (dh P)++R)∧(((U.map fun z=>(z.1,qE P z)).filter fun z=>z.2.cl !=0).map (·.2)).Perm (U.filterMap (io P)++R):=by
 induction U with
 |nil=>exact⟨[],Q0 _,Q0 _⟩
 |cons z r ih=>
  obtain⟨R,h1,h2⟩:=ih;have eO:dh P z=if ol z.2 (qE P z)||z.2.cl==0 then none else some z.2:=rfl
  have eI:io P z=if ol z.2 (qE P z)||(qE P z).cl==0 then none else some (qE P z):=rfl
  rw[VI,VI,UA,US,US,eO,eI];cases he:ol z.2 (qE P z)with
  |true=>
   have e:=F7.1 he;rw[←e];cases hc:(z.2.cl==0)with
   |true=>
    have hb:(z.2.cl !=0)=false:=by rw[bne,hc];rfl
    refine⟨R,?_,?_⟩
    ·rw[Pm (by rw[hb];decide)];exact h1
    ·show(((if(z.2.cl !=0)=true then _ else _:List (ByteArray×Pl))).map (·.2)).Perm _;rw[Pm (by rw[hb];decide)];exact h2
   |false=>
    have hb:(z.2.cl !=0)=true:=by rw[bne,hc];rfl
    refine⟨z.2::R,?_,?_⟩
    ·rw[Pj hb];exact(h1.cons z.2).trans List.perm_middle.symm
    ·show(((if(z.2.cl !=0)=true then _ else _:List (ByteArray×Pl))).map (·.2)).Perm _;rw[Pj hb];exact(h2.cons z.2).trans List.perm_middle.symm
  |false=>
   refine⟨R,?_,?_⟩
   ·cases hc:(z.2.cl==0)with
    |true=>
     have hb:(z.2.cl !=0)=false:=by rw[bne,hc];rfl
     rw[Pm (by rw[hb];decide)];exact h1
    |false=>
     have hb:(z.2.cl !=0)=true:=by rw[bne,hc];rfl
     rw[Pj hb];exact h1.cons z.2
   ·show(((if((qE P z).cl !=0)=true then _ else _:List (ByteArray×Pl))).map (·.2)).Perm _;cases hc:((qE P z).cl==0)with
    |true=>
     have hb:((qE P z).cl !=0)=false:=by rw[bne,hc];rfl
     rw[Pm (by rw[hb];decide)];exact h2
    |false=>
     have hb:((qE P z).cl !=0)=true:=by rw[bne,hc];rfl
     rw[Pj hb];exact h2.cons (qE P z)
theorem xh{U P P0:List (ByteArray×Pl)}(hU:aX oS U)(hP:aX oS P)(hP0:aX oS P0)(u1:∀k v,ag oS U k=some v→v=(ag oS P0 k).getD ku)(u2:∀k,ag oS U k=none→ag oS P k=ag oS P0 k)
  (c0:∀k v,ag oS P0 k=some v→v.cl≠0)(c:∀k v,ag oS P k=some v→v.cl≠0):
  ∃R:List Pl,(P0.map (·.2)).Perm (U.filterMap (dh P)++R)∧(P.map (·.2)).Perm (U.filterMap (io P)++R):=by
 obtain⟨R,h1,h2⟩:=FR P U;have hsub:aX oS (U.filter fun z=>z.2.cl !=0):=hU.sublist U4;have hmap:aX oS (U.map fun z=>(z.1,qE P z)):=by
  unfold aX at hU⊢;rw[Q9];exact hU
 have hsub2:aX oS ((U.map fun z=>(z.1,qE P z)).filter fun z=>z.2.cl !=0):=hmap.sublist U4;have e1:P0.filter (fun z=>(ag oS U z.1).isSome)=U.filter fun z=>z.2.cl !=0:=by
  refine qw oS (hP0.sublist U4) hsub fun k v=>?_;rw[Uz,Uz];constructor
  ·rintro⟨hm,hs⟩;have hg:=(ax oS hP0).2 hm;cases hu:ag oS U k with
   |none=>rw[show(ag oS U (k,v).1)=none from hu]at hs;cases hs
   |some v'=>
    have:=u1 k v' hu;rw[hg]at this;have e:v'=v:=this;rw[e]at hu;exact⟨(ax oS hU).1 hu,bne_iff_ne.2 (c0 k v hg)⟩
  ·rintro⟨hm,hs⟩;have hu:=(ax oS hU).2 hm;have:=u1 k v hu;cases hg:ag oS P0 k with
   |none=>rw[hg]at this;rw[this]at hs;exact absurd rfl (bne_iff_ne.1 hs)
   |some y=>
    rw[hg]at this;have e:v=y:=this;rw[e];exact⟨(ax oS hP0).1 hg,by rw[show ag oS U (k,y).1=some v from hu];rfl⟩
 have e2:P.filter (fun z=>(ag oS U z.1).isSome)=(U.map fun z=>(z.1,qE P z)).filter fun z=>z.2.cl !=0:=by
  refine qw oS (hP.sublist U4) hsub2 fun k v=>?_;rw[Uz,Uz,Uu];constructor
  ·rintro⟨hm,hs⟩;have hg:=(ax oS hP).2 hm;cases hu:ag oS U k with
   |none=>rw[show(ag oS U (k,v).1)=none from hu]at hs;cases hs
   |some v'=>exact⟨⟨_,(ax oS hU).1 hu,by unfold qE;rw[show ag oS P (k,v').1=some v from hg];rfl⟩,bne_iff_ne.2 (c k v hg)⟩
  ·rintro⟨⟨⟨k',v'⟩,hm,e⟩,hs⟩;cases e;have hu:=(ax oS hU).2 hm;cases hg:ag oS P k' with
   |none=>
    have:qE P (k',v')=ku:=by unfold qE;rw[show ag oS P (k',v').1=none from hg];rfl
    rw[this]at hs;exact absurd rfl (bne_iff_ne.1 hs)
   |some y=>
    have:qE P (k',v')=y:=by unfold qE;rw[show ag oS P (k',v').1=some y from hg];rfl
    rw[this];exact⟨(ax oS hP).1 hg,by rw[show ag oS U (k',y).1=some v' from hu];rfl⟩
 have e3:P0.filter (fun z=>!(ag oS U z.1).isSome)=P.filter fun z=>!(ag oS U z.1).isSome:=by
  refine ky oS (hP0.sublist U4) (hP.sublist U4) fun k=>?_;rw[qb hP0 (fun k=>!(ag oS U k).isSome),qb hP (fun k=>!(ag oS U k).isSome)];split
  ·rename_i h;refine(u2 k ?_).symm;cases hu:ag oS U k with
   |none=>rfl
   |some y=>rw[hu]at h;cases h
  ·rfl
 refine⟨R++(P.filter fun z=>!(ag oS U z.1).isSome).map (·.2),?_,?_⟩
 ·refine((kK (fun z=>(ag oS U z.1).isSome) P0).map (·.2)).trans ?_;rw[PU,e1,e3,←Qg];exact h1.append_right _
 ·refine((kK (fun z=>(ag oS U z.1).isSome) P).map (·.2)).trans ?_;rw[PU,e2,←Qg];exact h2.append_right _
structure uU(own:Nat→Nat)(b:Nat)(w:World)(B q:Nat)(cs:Array Value)(ty:TypeId)(p1 p2 p3:Option Addr)(A:List (ByteArray×Int))(C:List (ByteArray×Unit))(P:List (ByteArray×Pl)):Prop where
 bB:w.heap[B]?=some (.cells cs ty (0,0))
 k0:cs[q]?=some (.pointer p1)
 k1:cs[q+1]?=some (.int .i64 (A.length:Nat))
 k2:cs[q+2]?=some (.pointer p2)
 k3:cs[q+3]?=some (.int .i64 (C.length:Nat))
 k4:cs[q+4]?=some (.pointer p3)
 k5:cs[q+5]?=some (.int .i64 (P.length:Nat))
 tA:dm AvI.nd oS own b w p1 A
 tC:dm AvK.nd oS own (b+1) w p2 C
 tP:dm AvP.nd oS own (b+2) w p3 P
 ow:Ow own w
 nB:own B<b∨b+5≤own B
def mL(own:Nat→Nat)(b:Nat)(w:World)(B q:Nat)(cs:Array Value)(ty:TypeId)(A:List (ByteArray×Int))(C:List (ByteArray×Unit))(P:List (ByteArray×Pl)):Prop:=∃p1 p2 p3,uU own b w B q cs ty p1 p2 p3 A C P
def FF(own:Nat→Nat)(b B:Nat)(c:Nat):Prop:=c=B∨(b≤own c∧own c<b+5)
section
variable{own:Nat→Nat}{b:Nat}{w w':World}{B q:Nat}{cs ds:Array Value}{ty:TypeId}{W:Nat}{p1 p2 p3:Option Addr}{A:List (ByteArray×Int)}{C:List (ByteArray×Unit)}{P:List (ByteArray×Pl)}{s:WS}
theorem uU.below(h:uU own b w B q cs ty p1 p2 p3 A C P)(hb:Below w.heap.size w w'):uU own b w' B q cs ty p1 p2 p3 A C P:=
 ⟨af h.bB hb,h.k0,h.k1,h.k2,h.k3,h.k4,h.k5,h.tA.below hb,h.tC.below hb,h.tP.below hb,h.ow.mono hb.size,h.nB⟩
theorem uU.work(h:uU own b w B q cs ty p1 p2 p3 A C P)(hW:w.heap[W]?=some (.cells #[.pointer (some ⟨B,q,none⟩),.pointer none,.int .i64 0,.pointer none,.int .i64 0,.int .i64 0] 292 (0,0)))(ho:own W=0)(hb:0<b)(hne:B≠W):
  be own b w B q cs ty W ⟨A,C,P,[],[]⟩:=
 ⟨_,p1,p2,p3,none,none,0,⟨h.bB,hW,h.k0,h.k1,h.k2,h.k3,h.k4,h.k5,rfl,rfl,rfl,rfl,rfl,rfl,h.tA,h.tC,h.tP,bM _ _ _ _ _,bM _ _ _ _ _,h.ow,h.nB,.inl (by omega),hne⟩⟩
theorem be.forIn(h:be own b w B q cs ty W s):mL own b w B q cs ty s.A s.C s.P:=by
 obtain⟨ds,p1,p2,p3,p4,p5,n,h⟩:=h;exact⟨p1,p2,p3,⟨h.bB,h.k0,h.k1,h.k2,h.k3,h.k4,h.k5,h.tA,h.tC,h.tP,h.ow,h.nB⟩⟩
theorem be.ord(h:be own b w B q cs ty W s):s.Ord:=by
 obtain⟨_,_,_,_,_,_,_,h9⟩:=(show be own b w B q cs ty W s from h);exact h9.ord
theorem az.ord(D:az own b w w' B q cs ty W s):s.Ord:=by
 obtain⟨_,_,h,_⟩:=D;exact h.ord
theorem Df(h:be own b w B q cs ty W s)(hs:s.Small)(tr id:Int)(h1:aB tr)(h2:aB id):
  Calls prog 155 #[.pointer (some ⟨B,q,none⟩),.int .i64 tr,.int .i64 id] w fun e w'=>(∃c,e=.returned (.bool c))∧az own b w w' B q cs ty W {s with A:=(cp s.A s.C tr id).1,C:=(cp s.A s.C tr id).2}:=by
 obtain⟨_,_,_,_,_,_,_,h9⟩:=h;exact Fw h9 hs tr id h1 h2
theorem Fu(h:be own b w B q cs ty W s)(hs:s.Small)(hb:0<b)(x:Sp)(hx:x.Ok):
  Calls prog 157 #[.pointer (some ⟨B,q,none⟩),.agg (SA x)] w fun e w'=>(∃c,e=.returned c)∧az own b w w' B q cs ty W {s with A:=(gp s.A s.C x).1,C:=(gp s.A s.C x).2}:=by
 obtain⟨_,_,_,_,_,_,_,h9⟩:=h;exact I5 h9 hs hb x hx
end
section
variable{A:List (ByteArray×Int)}{C:List (ByteArray×Unit)}{P0:List (ByteArray×Pl)}{X:ByteArray→Prop}{s:WS}
theorem FI.sizes(h:FI A C P0 X s)(ho:s.Ord):s.P.length≤A.length∧s.U.length≤s.G.length+A.length:=by
 have hp:=jw (W:=Unit) ho.p (M:=A.map (·.1)) fun k hk=>by
  cases hq:ag oS s.P k with
  |none=>exact absurd hq hk
  |some v=>exact dH h.k.sa (h.ok k v hq).present
 have hu:=jw (W:=Unit) ho.u (M:=s.G.map (·.1)++A.map (·.1)) fun k hk=>by
  rcases h.uk k hk with h1 |h1
  ·exact U0 _ (dH ho.g h1)
  ·exact Vy _ (dH h.k.sa h1)
 simp at hp hu;exact⟨hp,hu⟩
theorem FI.small(h:FI A C P0 X s)(ho:s.Ord)(hA:A.length≤5000)(hG:s.G.length≤10000):s.Small:=by
 have h1:=h.sizes ho;have h2:=h.k.clen;exact⟨by rw[h.a];omega,by rw[h.c];omega,by omega,by omega,by omega,by rw[h.a];exact h.k.vI,by rw[h.c];exact h.k.sz⟩
theorem FI.fok(h:FI A C P0 (fun _=>False) s)(ho:s.Ord)(hall:∀k,ag oS A k≠none→ag oS s.P k≠none):Fe A C s.P:=
 ⟨h.k,ho.p,hall,h.ok⟩
theorem FI.shift(h:FI A C P0 (fun _=>False) s)(ho:s.Ord){A0:List (ByteArray×Int)}{C0:List (ByteArray×Unit)}(F0:Fe A0 C0 P0):
  ∃R:List Pl,(P0.map (·.2)).Perm (s.U.filterMap (dh s.P)++R)∧(s.P.map (·.2)).Perm (s.U.filterMap (io s.P)++R):=
 xh ho.u ho.p F0.sp h.u1 h.u2 (fun k v hv=>(F0.ok k v hv).cl) fun k v hv=>(h.ok k v hv).cl
theorem zC(ho:s.Ord)(k:ByteArray):(bq s k).U.length≤s.U.length+1:=by
 unfold bq;split
 ·omega
 ·show(ay oS s.U k _).length≤_;rw[cM oS ho.u];split<;>omega
theorem yL(ho:s.Ord){tr i:Int}{k:ByteArray}(hk:ag oS s.P k≠none):ag oS (iv s tr i).P k≠none:=by
 unfold iv;cases hq:ag oS s.P (kk tr i)with
 |none=>exact hk
 |some v=>
  show ag oS (ay oS s.P (kk tr i) _) k≠none;rw[el ho.p];split
  ·simp
  ·exact hk
theorem Ie(s:WS)(tr i:Int):(iv s tr i).G=s.G:=by
 unfold iv;split
 ·rfl
 ·exact(iE s _).2.2.2
end
end
section
open Go.Shelf
attribute [local go_sem] QA
theorem rn{w:World}{B c:Nat}{A:Option Addr}{l:List Sp}(h:w.ownsRow B 93 9 (.slice A l.length c) l.length (l.flatMap bg)):cm w w.heap.size A l:=by
 obtain⟨A2,c2,e,hr,_⟩:=bE h;cases e;exact hr
section
variable{own:Nat→Nat}{b:Nat}{w w0 w':World}{B q:Nat}{cs:Array Value}{ty:TypeId}{W:Nat}{s s':WS}
theorem MV{Pr:Program}{f:FuncId}{args:Array Value}{R:Ending→WS→Prop}(D:az own b w0 w B q cs ty W s)(H:∀own1 cs1,be own1 b w B q cs1 ty W s→Calls Pr f args w fun e w'=>∃s',R e s'∧az own1 b w w' B q cs1 ty W s'):
  Calls Pr f args w fun e w'=>∃s',R e s'∧az own b w0 w' B q cs ty W s':=by
 obtain⟨own1,cs1,h1,h2,h3,h4⟩:=D;exact(H own1 cs1 h1).mono fun e w' ⟨s',a,k⟩=>⟨s',a,az.after h1 h2 h3 h4 k⟩
theorem az.blk(D:az own b w0 w B q cs ty W s){x:Nat}(hx:x<w0.heap.size)(h1:x≠B)(h2:x≠W)(h3:own x=0)(hb:0<b):w.heap[x]?=w0.heap[x]?:=by
 obtain⟨_,_,_,_,h,_⟩:=D;exact h.block x hx fun hf=>by unfold FW at hf;omega
theorem yH{l:List Sp}{k:Nat}{x:Sp}(h:l[k]?=some x)(z:List (ByteArray×Int)×List (ByteArray×Unit)):aZ z (l.take (k+1))=cp (aZ z (l.take k)).1 (aZ z (l.take k)).2 x.tr x.id:=by
 rw[PO,h];unfold aZ;rw[RO];rfl
theorem Aj{l:List Sp}{k:Nat}{x:Sp}(h:l[k]?=some x)(z:List (ByteArray×Int)×List (ByteArray×Unit)):dL z (l.take (k+1))=gp (dL z (l.take k)).1 (dL z (l.take k)).2 x:=by
 rw[PO,h];unfold dL;rw[RO];rfl
theorem Bk{A:List (ByteArray×Int)}{C:List (ByteArray×Unit)}(h:kt A C){l:List Sp}(hl:∀x∈l,x.Ok):kt (aZ (A,C) l).1 (aZ (A,C) l).2∧(aZ (A,C) l).1.length≤A.length∧(aZ (A,C) l).2.length≤A.length:=by
 obtain⟨d1,d2,d3,d4⟩:=uH (z:=(A,C)) h hl;have:=jw (W:=Unit) d1.sa (M:=A.map (·.1)) fun k hk=>by
  cases hq:ag oS A k with
  |none=>exact absurd (d4 k hq) hk
  |some v=>exact dH h.sa (by rw[hq];simp)
 have h2:=d1.clen;simp at this;exact⟨d1,this,by omega⟩
theorem FI.weaken{A:List (ByteArray×Int)}{C:List (ByteArray×Unit)}{P0:List (ByteArray×Pl)}{X X':ByteArray→Prop}(h:FI A C P0 X s)(hX:∀k,X k→X' k):FI A C P0 X' s:=
 ⟨h.a,h.c,h.k,fun k v hv=>by have:=h.ok k v hv;exact⟨this.key,this.tr,this.id,this.pl,this.fan.imp id (hX k)⟩,h.un,h.u1,h.u2,h.gu,h.uk⟩
theorem EX{l:List Sp}{k:Nat}{x:Sp}(h:l[k]?=some x):l.take (k+1)=l.take k++[x]:=by rw[PO,h];rfl
end
section
variable{own:Nat→Nat}{b:Nat}{w:World}{B q:Nat}{cs:Array Value}{ty:TypeId}{A:List (ByteArray×Int)}{C:List (ByteArray×Unit)}{P:List (ByteArray×Pl)}{out inn:List Sp}{vo vi:Value}
theorem Bm(h:mL own b w B q cs ty A C P)(hb:0<b)(F:Fe A C P)(ho:cD out)(hi:cD inn)(hd:∀x∈out,x∉inn)(hm:out.length≤300)(hm':inn.length≤300)(hA:A.length≤1000)
  (hg:∀x∈out,x.gn=false)(hg':∀x∈inn,x.gn=false)(hAo:∀x∈out,ag oS A (aj x)=some x.pa)(hAi:∀x∈inn,ag oS A (aj x)=none∨∃y∈out,aj y=aj x)
  (B1 B2:Nat)(hro:w.ownsRow B1 93 9 vo out.length (out.flatMap bg))(hri:w.ownsRow B2 93 9 vi inn.length (inn.flatMap bg))(hwo:∀g,vo.ownBlock=some g→own g=0∧g≠B)(hwi:∀g,vi.ownBlock=some g→own g=0∧g≠B):
  Calls prog 108 #[.pointer (some ⟨B,q,none⟩),.agg #[vo,vi]] w fun e w'=>∃vs vt n A' C' P' go co R,e=.returned (.tuple #[.agg #[vs,vt],.int .i64 n,.int .i64 0])∧
   w'.ownsRow w.heap.size 98 6 vs go.length (go.flatMap iq)∧w'.ownsRow w.heap.size 98 6 vt co.length (co.flatMap iq)∧(P.map (·.2)).Perm (go++R)∧(P'.map (·.2)).Perm (co++R)∧
   Fe A' C' P'∧L7 A A' C' out inn∧∃own' cs',mL own' b w' B q cs' ty A' C' P'∧aT q 6 cs cs'∧Kp (FF own b B) w w'∧aO own own' w∧∀g,vs.ownBlock=some g∨vt.ownBlock=some g→own' g=0:=by
 obtain⟨Ao,co,rfl⟩:=an hro;obtain⟨Ai,ci,rfl⟩:=an hri;obtain⟨p1,p2,p3,h0⟩:=h;have hBw:=am h0.bB;have how:=h0.ow;have hOk:∀x∈out++inn,x.Ok:=fun x hx=>(Px.1 hx).elim (fun hx=>(ho.vd x hx).ok) fun hx=>(hi.vd x hx).ok;have b0:=ae (.cells #[.slice none 0 0,.slice none 0 0] 207) (ae (.cells #[.slice Ao out.length co,.slice Ai inn.length ci] 103) (zB w (.cells #[.pointer (some ⟨B,q,none⟩)] 123)));have n1:=ar (ar (Up w (.cells #[.pointer (some ⟨B,q,none⟩)] 123)) (.cells #[.slice Ao out.length co,.slice Ai inn.length ci] 103)) (.cells #[.slice none 0 0,.slice none 0 0] 207);have n2:=ar (Up (w.alloc (.cells #[.pointer (some ⟨B,q,none⟩)] 123)) (.cells #[.slice Ao out.length co,.slice Ai inn.length ci] 103)) (.cells #[.slice none 0 0,.slice none 0 0] 207);have n3:=Up ((w.alloc (.cells #[.pointer (some ⟨B,q,none⟩)] 123)).alloc (.cells #[.slice Ao out.length co,.slice Ai inn.length ci] 103)) (.cells #[.slice none 0 0,.slice none 0 0] 207);simp only[Pq]at n2 n3;have HMAY:=zH (fun w3 (b3:Below w.heap.size w w3)=>Hx (own:=own) (t:=b) B q p1 A Ao Ai co ci out inn ho hi hd (by omega) (by omega) hg hg' hAo hAi w3 ((aa (af h0.bB b3) q).trans h0.k0) (h0.tA.below b3) (rn (au hro b3)) (rn (au hri b3)));refine(PE (n:=9)).1 ?_;refine QR func108 rfl trivial ?_ rfl;simp only[ntmps108,UH,PC,Qe,Nat.reduceAdd,Nat.reduceSub,QH,QI,QJ,QK,PQ,PN];gi_wp2;generalize ((w.alloc (.cells #[.pointer (some ⟨B,q,none⟩)] 123)).alloc (.cells #[.slice Ao out.length co,.slice Ai inn.length ci] 103)).alloc (.cells #[.slice none 0 0,.slice none 0 0] 207)=w3 at b0 n1 n2 n3⊢;have y1:=aa n1 0;have y2:=aa n2 0;have y3:=aa n2 1;have HB0:=zH b0;refine⟨trivial,?_⟩;refine(PE.2 (HMAY.out _ HB0.out)).mono ?_;rintro e4 w4 ⟨rfl,b4⟩;have B4:=b0.trans (b4.mono b0.size);have x1:=af n1 b4;have x2:=af n2 b4;have x3:=af n3 b4;have s34:=b4.size;have hz1:=am n3;have hWK:=Up w4 (.cells #[.pointer (some ⟨B,q,none⟩),.pointer none,.int .i64 0,.pointer none,.int .i64 0,.int .i64 0] 292);clear y1 y2 y3;have y1:=aa x1 0;have z2:=ar (ar x2 (.cells #[.pointer (some ⟨B,q,none⟩),.pointer none,.int .i64 0,.pointer none,.int .i64 0,.int .i64 0] 292)) (.cells #[.pointer (some ⟨w4.heap.size,0,none⟩)] 290);have y2:=aa z2 0;have y3:=aa z2 1;have hA1:=Up ((w4.alloc (.cells #[.pointer (some ⟨B,q,none⟩),.pointer none,.int .i64 0,.pointer none,.int .i64 0,.int .i64 0] 292)).alloc (.cells #[.pointer (some ⟨w4.heap.size,0,none⟩)] 290)) (.cells #[.slice Ao out.length co,.slice Ai inn.length ci] 22);have b5:=ae (.cells #[.slice Ao out.length co,.slice Ai inn.length ci] 22) (ae (.cells #[.pointer (some ⟨w4.heap.size,0,none⟩)] 290) (zB w4 (.cells #[.pointer (some ⟨B,q,none⟩),.pointer none,.int .i64 0,.pointer none,.int .i64 0,.int .i64 0] 292)));have u4:=ar (ar hWK (.cells #[.pointer (some ⟨w4.heap.size,0,none⟩)] 290)) (.cells #[.slice Ao out.length co,.slice Ai inn.length ci] 22);have u5:=ar (Up (w4.alloc (.cells #[.pointer (some ⟨B,q,none⟩),.pointer none,.int .i64 0,.pointer none,.int .i64 0,.int .i64 0] 292)) (.cells #[.pointer (some ⟨w4.heap.size,0,none⟩)] 290)) (.cells #[.slice Ao out.length co,.slice Ai inn.length ci] 22);simp only[Pq]at hA1 u5;gi_wp2;generalize ((w4.alloc (.cells #[.pointer (some ⟨B,q,none⟩),.pointer none,.int .i64 0,.pointer none,.int .i64 0,.int .i64 0] 292)).alloc (.cells #[.pointer (some ⟨w4.heap.size,0,none⟩)] 290)).alloc (.cells #[.slice Ao out.length co,.slice Ai inn.length ci] 22)=w5 at hA1 b5 u4 u5⊢;have hz5:=am hA1;have B5:=B4.trans (b5.mono B4.size);refine⟨trivial,?_⟩;refine(PE.2 (wj B1 B2 _ _ _ out inn w5 hA1 (au hro B5) (au hri B5) (by omega) (by omega))).mono ?_;rintro e6 wX ⟨vb,rfl,rb,b6⟩;obtain⟨Ab,cb,rfl⟩:=an rb;have BX:=B5.trans (b6.mono B5.size);have hX6:=b6.size;have D0:az own b wX wX B q cs ty w4.heap.size ⟨A,C,P,[],[]⟩:=((h0.below BX).work (af u4 b6) (how _ (by have:=B4.size;omega)) hb (by have:=B4.size;omega)).same (Pk _ _);have HX:=zH (show ∀wr s,az own b wX wr B q cs ty w4.heap.size s→wr.heap[w.heap.size]?=some (.cells #[.pointer (some ⟨B,q,none⟩)] 123 (0,0))∧wr.heap[w.heap.size+1]?=some (.cells #[.slice Ao out.length co,.slice Ai inn.length ci] 103 (0,0))∧wr.heap[w.heap.size+1+1]?=some (.cells #[.slice none 0 0,.slice none 0 0] 207 (0,0))∧
   wr.heap[w4.heap.size+1]?=some (.cells #[.pointer (some ⟨w4.heap.size,0,none⟩)] 290 (0,0))∧cm wr wr.heap.size Ab (out++inn)∧cm wr wr.heap.size Ao out∧cm wr wr.heap.size Ai inn∧wX.heap.size≤wr.heap.size from fun wr s D=>by
  have s4:=B4.size;have hst:∀x,w.heap.size≤x→x<wX.heap.size→x≠w4.heap.size→wr.heap[x]?=wX.heap[x]?:=fun x h1 h2 h3=>D.blk h2 (by omega) h3 (how x h1) hb;refine⟨(hst _ (by omega) (by omega) (by omega)).trans (af (af x1 b5) b6),(hst _ (by omega) (by omega) (by omega)).trans (af (af x2 b5) b6),(hst _ (by omega) (by omega) (by omega)).trans (af (af x3 b5) b6),(hst _ (by omega) (by omega) (by omega)).trans (af u5 b6),
   rn (bP rb fun g hg=>hst g (by have:=(rb.lt g hg).1;omega) (rb.lt g hg).2 (by have:=(rb.lt g hg).1;omega)),rn (bP (au hro BX) fun g hg=>D.blk ((au hro BX).lt g hg).2 (hwo g hg).2 (by have:=(hro.lt g hg).2;omega) (hwo g hg).1 hb),
   rn (bP (au hri BX) fun g hg=>D.blk ((au hri BX).lt g hg).2 (hwi g hg).2 (by have:=(hri.lt g hg).2;omega) (hwi g hg).1 hb),D.bw.2.2⟩)
 have hP0:P.length≤A.length:=by
  have:=jw (W:=Unit) F.sp (M:=A.map (·.1)) fun k hk=>by
   cases hq:ag oS P k with
   |none=>exact absurd hq hk
   |some v=>exact dH F.k.sa (F.ok k v hq).present
  simpa using this
 have hC0:=F.k.clen;have hbl:(out++inn).length≤600:=by rw[Pu];omega
 have HF:=zH (Uq F (Uq hOk (Uq hAo hAi)));have HSL:=zH (Uq ho hi);have HBX:=zH BX;have hs4:=B4.size;have HOW:=zH how;clear h0 hro hri hwo hwi hg hg' hAo hAi hOk F ho hi hd HMAY B5 b5 b6 rb u4 u5 hA1 hWK x1 x2 x3 y1 y2 y3 z2 n1 n2 n3 b4 HB0 b0 BX B4 how;gi_wp2;gi_loopw [62] (fun i wr=>∃(k:Nat) (s:WS),k≤(out++inn).length∧i=.int .i64 k∧az own b wX wr B q cs ty w4.heap.size s∧mK ⟨A,C,P,[],[]⟩ s ((out++inn).take k)) (fun i _=>(out++inn).length - (intOf i).toNat)
 case atStart=>exact⟨0,_,by omega,rfl,D0,by rw[UN];exact xT rfl rfl⟩
 case round=>
  obtain⟨k,s,hk,rfl,D,hL⟩:=hrel;obtain⟨wo,rfl⟩:∃wo,wo=wr:=⟨_,rfl⟩;obtain⟨f1,f2,f3,f4,f5,f6,f7,f8⟩:=HX.out _ _ D;have hord:=D.ord;have hsz:=hL.sizes hord ⟨HF.out.1.k.sa,HF.out.1.k.sc,HF.out.1.sp,fH _,fH _⟩;have hkl:((out++inn).take k).length≤600:=Pt (List.length_take_le _ _) (by omega);simp only at hsz;have hsm:s.Small:=⟨by rw[hL.a];show A.length≤_;omega,by rw[hL.c];show C.length≤_;omega,by have:=hsz.2.2;omega,by omega,by omega,by rw[hL.a];exact HF.out.1.k.vI,by rw[hL.c];exact HF.out.1.k.sz⟩;by_cases hlt:k< (out++inn).length
  ·obtain⟨x,hk'⟩:∃x,(out++inn)[k]?=some x:=⟨(out++inn)[k],PT hlt⟩;obtain⟨ad,rfl,hadl,c0,c1,c2,c3,c4,c5,c6,c7,c8⟩:=f5 k x hk';have hxo:=HF.out.2.1 x (Pv hk');have HTK:=zH (EX hk');have hi1:(k:Int)< ((out++inn).length:Int):=by omega
   rw[Pu]at hi1;have hi2:(k:Int)< (out.length:Int)+(inn.length:Int):=by omega
   have hln:k<out.length+inn.length:=by rw[←Pu];exact hlt
   have nn:=Up wo (.cells (SA x) 93);have bn:=zB wo (.cells (SA x) 93);have HLO:=zH (MV (D.below bn) (R:=fun e s'=>(∃c,e=.returned c)∧jq s x.tr x.id s' []) fun own1 cs1 h1=>(I2 h1 hb hsm (by have:s.A.length=A.length:=congrArg _ hL.a;omega) (by have:s.A.length=A.length:=congrArg _ hL.a;omega) (by
    have e1:s.A.length=A.length:=congrArg _ hL.a;have e2:s.C.length=C.length:=congrArg _ hL.c;rw[e1,e2];exact Pt (Nat.mul_le_mul (show A.length+2≤1002 by omega) (show C.length+2≤1002 by omega)) (by decide)) hL.gOk x.tr x.id hxo.1 hxo.2.1 (fun i hi j hj=>by
     rw[hL.c]at hj;rw[hL.a];obtain⟨j1,j2⟩:=(HF.out.1.k.kids hxo.1 hi).1 hj;exact⟨j1,by show ag oS A _≠none;rw[j2];simp⟩)).mono fun e w' ⟨h2,s',h3,h4⟩=>⟨s',⟨h2,h4⟩,h3⟩)
   have x4:=aa (af f4 bn) 0;have HLL:=zH hL;clear hk' hL D hsz hsm hlt f1 f2 f3 f5 f6 f7;gi_wp2_with (refine⟨trivial,?_⟩;gi_at_call 182;refine(PE.2 (HLO.out)).mono ?_;rintro e7 w7 ⟨s',⟨⟨c7,rfl⟩,I7⟩,D7⟩);refine⟨⟨k+1,s',by rw[Pu];omega,by go_num,D7,by rw[HTK.out];exact HLL.out.step hxo I7⟩,?_⟩;simp[intOf];omega
  ·obtain rfl:k=(out++inn).length:=by omega
   rw[PM]at hL;have HL1:=zH hL;have HSM1:=zH hsm;have HSZ1:=zH hsz;have g0:=aa f2 0;have g1:=aa f2 1;have D1:az own b wX wo B q cs ty w4.heap.size {s with A:=(aZ (A,C) (out.take 0)).1,C:=(aZ (A,C) (out.take 0)).2}:=by
    have e1:s.A=A:=hL.a;have e2:s.C=C:=hL.c;have e:({s with A:=(aZ (A,C) (out.take 0)).1,C:=(aZ (A,C) (out.take 0)).2}:WS)=s:=by
     show({s with A:=A,C:=C}:WS)=s;rw[←e1,←e2]
    rw[e];exact D
   have HDS:=zH (fun k=>Bk HF.out.1.k (l:=out.take k) fun x hx=>HF.out.2.1 x (by simp[RG hx]));clear hL D hsm hsz hord hkl f3 f4 f5 f6 f7 hlt;rw[Pu];gi_wp2;clear g0 g1;gi_loopw [76] (fun i wr=>∃k:Nat,k≤out.length∧i=.int .i64 k∧az own b wX wr B q cs ty w4.heap.size {s with A:=(aZ (A,C) (out.take k)).1,C:=(aZ (A,C) (out.take k)).2}) (fun i _=>out.length - (intOf i).toNat)
   case atStart=>exact⟨0,by omega,rfl,D1⟩
   case round=>
    obtain⟨k,hk,rfl,D⟩:=hrel;obtain⟨wo2,rfl⟩:∃wo2,wo2=wr:=⟨_,rfl⟩;obtain⟨f1,f2,f3,f4,f5,f6,f7,f8⟩:=HX.out _ _ D;obtain⟨d1,d2,d3⟩:=HDS.out k;by_cases hlt:k<out.length
    ·obtain⟨x,hk'⟩:=zg hlt;obtain⟨ad,rfl,hadl,c0,c1,c2,c3,c4,c5,c6,c7,c8⟩:=f6 k x hk';have hxo:=HF.out.2.1 x (by simp[Pv hk']);have HTK:=zH (yH hk' (A,C));have hi1:(k:Int)< (out.length:Int):=by omega
     have nn:=Up wo2 (.cells (SA x) 93);have bn:=zB wo2 (.cells (SA x) 93);have hsm:WS.Small {s with A:=(aZ (A,C) (out.take k)).1,C:=(aZ (A,C) (out.take k)).2}:=⟨by show(aZ (A,C) (out.take k)).1.length≤_;omega,by show(aZ (A,C) (out.take k)).2.length≤_;omega,HSM1.out.p,HSM1.out.u,HSM1.out.g,d1.vI,d1.sz⟩;obtain⟨own1,cs1,q1,near1,kp1,ext1⟩:=D;have hb1:=q1.bw;have hw1:own1 wo2.heap.size=0:=hb1.2.2 _ (Po _);have fb:=ar f1 (.cells (SA x) 93);have HQ:=zH (Df (q1.below bn.drew) hsm x.tr x.id hxo.1 hxo.2.1);have ofb:own1 w.heap.size=0:=(ext1 _ (by omega)).trans (HOW.out _ (Po _));have hzo:=am nn;clear hk' f2 f3 f4 f5 f6 f7 d1 d2 d3 hsm hlt;gi_wp2_with fail;refine Q6.2 ?_;refine zr (fun V=>V.heap[w.heap.size]?=some (.cells #[.pointer (some ⟨B,q,none⟩)] 123 (0,0))∧V.heap[wo2.heap.size]?=some (.cells (SA x) 93 (0,0))) ⟨fb,nn⟩ fun hS0=>?_;(refine zh hS0 1 7 0 ?_;simp only[zd];((iterate 7 (refine zt (fun W hW=>by have c0:=aa hW.1 0;have c1:=aa hW.2 0;have c2:=aa hW.2 1;exact zq) ?_;simp only[zp]));refine ac ?_));(refine zo 7 rfl fun K hK=>?_;go_simp);go_at_call 155;exact Wm
    ·obtain rfl:k=out.length:=by omega
     rw[PM]at D;have g0:=aa f2 0;have g1:=aa f2 1;have D2:az own b wX wo2 B q cs ty w4.heap.size {s with A:=(dL (aZ (A,C) out) (inn.take 0)).1,C:=(dL (aZ (A,C) out) (inn.take 0)).2}:=D;have HPS:=zH (fun k=>(show kt (dL (aZ (A,C) out) (inn.take k)).1 (dL (aZ (A,C) out) (inn.take k)).2∧(dL (aZ (A,C) out) (inn.take k)).1.length≤1300∧(dL (aZ (A,C) out) (inn.take k)).2.length≤1300 from by
      have hx:=GW (out:=out) (inn:=inn.take k) HF.out.1.k (fun x hx=>HF.out.2.1 x (by simp[hx])) (fun x hx=>HF.out.2.1 x (by simp[RG hx])) (HSL.out.2.ne.sublist (List.take_sublist _ _));have h1:=hx.len HF.out.1.k.sa;have h2:=hx.k.clen;have h3:(inn.take k).length≤inn.length:=by rw[UD];exact Nat.min_le_right _ _
      exact⟨hx.k,by omega,by omega⟩))
     clear D D1 f3 f4 f5 f6 f7 d1 d2 d3 hlt HDS;gi_wp2;clear g0 g1;gi_loopw [92] (fun i wr=>∃k:Nat,k≤inn.length∧i=.int .i64 k∧az own b wX wr B q cs ty w4.heap.size {s with A:=(dL (aZ (A,C) out) (inn.take k)).1,C:=(dL (aZ (A,C) out) (inn.take k)).2}) (fun i _=>inn.length - (intOf i).toNat)
     case atStart=>exact⟨0,by omega,rfl,D2⟩
     case round=>
      obtain⟨k,hk,rfl,D⟩:=hrel;obtain⟨wo3,rfl⟩:∃wo3,wo3=wr:=⟨_,rfl⟩;obtain⟨f1,f2,f3,f4,f5,f6,f7,f8⟩:=HX.out _ _ D;obtain⟨d1,d2,d3⟩:=HPS.out k;by_cases hlt:k<inn.length
      ·obtain⟨x,hk'⟩:=zg hlt;obtain⟨ad,rfl,hadl,c0,c1,c2,c3,c4,c5,c6,c7,c8⟩:=f7 k x hk';have hxo:=HF.out.2.1 x (by simp[Pv hk']);have HTK:=zH (Aj hk' (aZ (A,C) out));have hi1:(k:Int)< (inn.length:Int):=by omega
       have nn:=Up wo3 (.cells (SA x) 93);have bn:=zB wo3 (.cells (SA x) 93);have hsm:WS.Small {s with A:=(dL (aZ (A,C) out) (inn.take k)).1,C:=(dL (aZ (A,C) out) (inn.take k)).2}:=⟨by show(dL (aZ (A,C) out) (inn.take k)).1.length≤_;omega,by show(dL (aZ (A,C) out) (inn.take k)).2.length≤_;omega,HSM1.out.p,HSM1.out.u,HSM1.out.g,d1.vI,d1.sz⟩;obtain⟨own1,cs1,q1,near1,kp1,ext1⟩:=D;have hb1:=q1.bw;have hw1:own1 wo3.heap.size=0:=hb1.2.2 _ (Po _);have fb:=ar f1 (.cells (SA x) 93);have HQ:=zH (Fu (q1.below bn.drew) hsm hb x hxo);have ofb:own1 w.heap.size=0:=(ext1 _ (by omega)).trans (HOW.out _ (Po _));have hzo:=am nn;clear hk' f2 f3 f4 f5 f6 f7 d1 d2 d3 hsm hlt;gi_wp2_with fail;refine Q6.2 ?_;refine zr (fun V=>V.heap[w.heap.size]?=some (.cells #[.pointer (some ⟨B,q,none⟩)] 123 (0,0))∧V.heap[wo3.heap.size]?=some (.cells (SA x) 93 (0,0))) ⟨fb,nn⟩ fun hS0=>?_;(refine zh hS0 1 4 0 ?_;simp only[zd];((iterate 4 (refine zt (fun W hW=>by have c0:=aa hW.1 0;have y0:=aa hW.2 0;have y1:=aa hW.2 1;have y2:=aa hW.2 2;have y3:=aa hW.2 3;have y4:=aa hW.2 4;have y5:=aa hW.2 5;have y6:=aa hW.2 6;have y7:=aa hW.2 7;have y8:=aa hW.2 8;exact zq) ?_;simp only[zp]));refine ac ?_));(refine zo 4 rfl fun K hK=>?_;go_simp);go_at_call 157;exact Wm
      ·obtain rfl:k=inn.length:=by omega
       rw[PM]at D d1 d2 d3;have HIX:=zH (GW (out:=out) (inn:=inn) HF.out.1.k (fun x hx=>HF.out.2.1 x (by simp[hx])) (fun x hx=>HF.out.2.1 x (by simp[hx])) HSL.out.2.ne);have HFI:=zH (Hi (s0:=⟨A,C,P,[],[]⟩) HF.out.1 HL1.out HIX.out HF.out.2.2.1 HF.out.2.2.2 HF.out.2.1);generalize (dL (aZ (A,C) out) inn).1=A3 at D d1 d2 d3 HIX HFI;generalize (dL (aZ (A,C) out) inn).2=C3 at D d1 d3 HIX HFI;clear D2 HPS hlt HSM1 hm hm' hk f5 f6 f7;have hG1:s.G.length≤1600:=by have:=HSZ1.out.1;rw[PM]at this;omega
       have x4:=aa f4 0;have hwW:=D.bw;have bY:=zB wo3 (.cells #[.pointer (some ⟨w4.heap.size,3,none⟩)] 252);have nY:=Up wo3 (.cells #[.pointer (some ⟨w4.heap.size,3,none⟩)] 252);gi_wp2_with (refine⟨trivial,?_⟩;gi_at_call 138;refine(PE.2 (Nc ⟨w4.heap.size,3,none⟩ _)).mono ?_;rintro e w8 ⟨rfl,rfl⟩);obtain⟨own3,cs3,q3,near3,kp3,ext3⟩:=D;obtain⟨ds,r1,r2,r3,r4,r5,nst,h9⟩:=(show be own3 b wo3 B q cs3 ty w4.heap.size _ from q3);obtain⟨T,hp,hTl,hT,hTn,hTs⟩:=h9.tG;have hc9:=(aa h9.bW 3).trans h9.d3;have nB9:=h9.nB;have nW9:=h9.nW;have hTw:∀c∈T.blocks,c<wo3.heap.size∧c≠B∧c≠w4.heap.size∧own3 c=b+4:=fun c hc=>by
        obtain⟨z1,z2⟩:=hT.at c hc;exact⟨z2,fun e=>by rw[e]at z1;omega,fun e=>by rw[e]at z1;omega,z1⟩
       clear h9;have zY:=Pq wo3 (.cells #[.pointer (some ⟨w4.heap.size,3,none⟩)] 252);have q3':=q3.below bY;generalize wo3.alloc (.cells #[.pointer (some ⟨w4.heap.size,3,none⟩)] 252)=V at bY nY zY q3'⊢;have hVs:wo3.heap.size<V.heap.size:=by omega
       have hlen:T.toL.length≤700000:=by rw[hTl];show s.G.length≤_;omega
       have hst:=BD (own:=own3) (t:=b+4) 8 wo3.heap.size w4.heap.size 3 T V (aa nY 0) ((bY.cell (p:=⟨w4.heap.size,3,none⟩) hwW.2.1).trans (hp▸hc9)) (hT.below bY) (hTl▸hTs);have HGO:=zH HL1.out.gOk;have HSZ0:=zH (show aX oS s.G from by rw[←show T.toL=s.G from hTl];exact hTl▸hTs);have HTG:=zH (show ∀z∈T.toL,ag oS s.G z.1=some z.2 from fun z hz=>(ax oS hTs).2 (by rw[←hTl];exact hz));have HIV:=zH (show ∀own' cs' X s',be own' b X B q cs' ty w4.heap.size s'→aT q 6 cs3 cs'→Kp (FP own3 b B w4.heap.size) V X→aO own3 own' V→az own b wX X B q cs ty w4.heap.size s' from
        fun own' cs' X s' k1 k2 k3 k4=>az.after q3 near3 kp3 ext3 ⟨own',cs',k1,k2,((Kp.of_below (FP own3 b B w4.heap.size) bY).trans' k3 (fun c hc h=>h)).mono (fun c hc hf=>by unfold FP at hf;unfold FW;omega),fun x hx=>k4 x (by omega)⟩)
       clear nY zY hp hTn hTs hT hc9 f1 f2 f3 f4;refine Sa rfl (by omega) (gf:=212) (lb:=#[.pointer (some ⟨wo3.heap.size,0,none⟩)]) rfl trivial (QS func212 (by kernel_rfl) rfl) hst
        (fun h k=>fh h k) (fun W l o o' hl' hW h1 h2=>gP (w:=V) (fun b hb=>by have:=(hTw b hb).1;omega) W l o o' hl' hW h1 h2) (Pk _ _) (fun _=>rfl)
        (fun pre X=>∃own' cs' s',be own' b X B q cs' ty w4.heap.size s'∧aT q 6 cs3 cs'∧Kp (FP own3 b B w4.heap.size) V X∧aO own3 own' V∧FI A3 C3 P (fun k=>∃x∈out++inn,k=kk x.tr x.pa) s'∧s'.G=s.G∧(∀z∈pre,ag oS A3 z.1.1≠none→ag oS s'.P z.1.1≠none)∧V.heap.size≤X.heap.size)
        (fun _ _ _=>False) ?hI (fun _ _ _ _ _ h _ _=>h) ⟨own3,cs3,_,q3',aT.refl _ _ _,Kp.refl _ _,aO.refl _ _,HFI.out,rfl,by simp,Po _⟩
        (fun z a' _=>a'={tmps:=#[.pointer (some ⟨B,q,none⟩),.agg #[.slice Ao out.length co,.slice Ai inn.length ci],.pointer (some ⟨w.heap.size,0,none⟩),.pointer (some ⟨w.heap.size+1,0,none⟩),.pointer (some ⟨w.heap.size+1+1,0,none⟩),.int .i64 0,.int .i64 0,undef,.int .i64 0,.pointer (some ⟨w4.heap.size+1,0,none⟩),.slice Ab (out.length+inn.length) cb,undef,u12,undef,u14,undef,u16,.string z.1.1,.int .i64 z.1.2,undef,undef,undef,undef,undef,undef,undef,.pointer (some ⟨B,q,none⟩),.bool false,undef,undef,undef,undef,undef,undef,undef,undef,undef,undef,undef,undef,undef,undef,undef,undef,.pointer (some ⟨B,q,none⟩),.agg #[.slice Ao out.length co,.slice Ai inn.length ci],.int .i64 0,.int .i64 0,.bool false,undef,undef,.pointer (some ⟨B,q,none⟩),.agg #[.pointer (some ⟨B,q,none⟩),.pointer none,.int .i64 0,.pointer none,.int .i64 0,.int .i64 0],.pointer (some ⟨w4.heap.size,0,none⟩),.pointer (some ⟨w.heap.size+1,0,none⟩),.slice Ao out.length co,.pointer (some ⟨w.heap.size+1,1,none⟩),.slice Ai inn.length ci,.slice (some ⟨w4.heap.size+1+1,0,none⟩) 2 2,.slice Ab (out.length+inn.length) cb,.slice Ab (out.length+inn.length) cb,.int .i64 ((out.length:Int)+(inn.length:Int)),.int .i64 ((out.length:Int)+(inn.length:Int)),.bool false,u64,u65,u66,u67,u68,u69,u70,u71,u72,.pointer (some ⟨w.heap.size+1,0,none⟩),.slice Ao out.length co,.int .i64 (out.length:Nat),.int .i64 (out.length:Nat),.bool false,u78,u79,u80,u81,u82,u83,u84,u85,u86,u87,u88,.pointer (some ⟨w.heap.size+1,1,none⟩),.slice Ai inn.length ci,.int .i64 (inn.length:Nat),.int .i64 (inn.length:Nat),.bool false,u94,u95,u96,u97,u98,u99,u100,u101,.pointer (some ⟨w4.heap.size,0,none⟩),.pointer (some ⟨w4.heap.size,0,none⟩),.pointer (some ⟨w4.heap.size,3,none⟩),.func (.func 212) #[] #[.pointer (some ⟨wo3.heap.size,0,none⟩)],.string z.1.1,.int .i64 z.1.2,undef,undef,undef,undef,undef,undef,undef,undef,undef,undef,undef,undef,undef,undef,undef,undef,undef,undef,undef,undef,undef,undef,undef,undef,undef,undef,undef,undef,undef,undef,undef,undef,undef,undef,undef,undef,undef,undef,undef],defers:=[]}) (fun z a' _ X Y row hs hg hr=>hs)
        ?assign ?body ?done (fun _ _ _ _ _ _ h _=>h.elim)
       case assign=>
        rintro l0 pre z X Kk hI hK;gi_wp2;exact hK _ _ (KeepsFrom.refl _ _) (cu.refl _ _) hI rfl
       case hI=>
        rintro pre X Y row ⟨own',cs',s',i1,i2,i3,i4,i5,i6,i7,i8⟩ hgr hr;exact⟨own',cs',s',i1.cst (wh hgr hr),i2,i3.row hgr (fun r e=>(hr r e).1),i4,i5,i6,i7,Pt i8 hgr.size⟩
       case body=>
        rintro l0 pre z a' X hl0 ⟨rr,hrr⟩ ⟨own',cs',s',i1,i2,i3,i4,i5,i6,i7,i8⟩ rfl hlt;have D':=HIV.out _ _ _ _ i1 i2 i3 i4;obtain⟨f1,f2,f3,f4,_,_,_,f8⟩:=HX.out _ _ D';obtain⟨i,t64,i64',ek⟩:=HGO.out _ _ (HTG.out z.1 z.2);have e1:tk z.1.1=z.1.2:=by rw[ek,jj _ _ t64]
        have e2:wE z.1.1=i:=by rw[ek,gB _ _ i64']
        have hord:=i1.ord;have hsm:=i5.small hord (by omega) (by rw[i6];omega);have hps:=(i5.sizes hord).1;have hsp0:=lD z.1.1;rw[e1,e2]at hsp0;generalize decide (z.1.1.size=16)=dz at hsp0;have HSP:=zH hsp0;have HEK:=zH ek;clear ek e1 e2;have HGP:=zH (fun w5 (b5:Below X.heap.size X w5) r (hr:ag oS s'.P z.1.1=r)=>jJ (i1.below b5) z.1.1 r hr);have HFD:=zH (fun w5 (b5:Below X.heap.size X w5)=>I8 (i1.below b5) hb hsm (by rw[i5.a];omega) z.1.2 i t64 i64');have HFIN:=zH (show ∀X9 s9,dX own' b X X9 B q cs' ty w4.heap.size s9→FI A3 C3 P (fun k=>∃x∈out++inn,k=kk x.tr x.pa) s9→s9.G=s.G→(∀k,ag oS s'.P k≠none→ag oS s9.P k≠none)→(ag oS A3 z.1.1≠none→ag oS s9.P z.1.1≠none)→
          KeepsFrom V.heap.size X X9∧cu (fun b=>b∈T.blocks) X X9∧∃own' cs' s',be own' b X9 B q cs' ty w4.heap.size s'∧aT q 6 cs3 cs'∧Kp (FP own3 b B w4.heap.size) V X9∧aO own3 own' V∧FI A3 C3 P (fun k=>∃x∈out++inn,k=kk x.tr x.pa) s'∧s'.G=s.G∧(∀y∈pre++[z],ag oS A3 y.1.1≠none→ag oS s'.P y.1.1≠none)∧V.heap.size≤X9.heap.size from
         fun X9 s9 D9 h1 h2 h3 h4=>by
          obtain⟨own9,cs9,k1,k2,k3,k4⟩:=D9;refine⟨k3.others.from _,fun c hc=>k3.block c (by have:=(hTw c hc).1;omega) (fun hf=>?_),own9,cs9,s9,k1,i2.trans k2,i3.trans' k3 (fun c hc hf=>hf.ext i4 hc),i4.trans k4 i3.size,h1,h2,fun y hy hn=>?_,Pt i8 k3.size⟩
          ·obtain⟨z1,z2,z3,z4⟩:=hTw c hc;unfold FP at hf;rw[i4 c (by omega)]at hf;omega
          ·rcases Px.1 hy with hy |hy
           ·exact h3 _ (i7 y hy hn)
           ·rw[Ql.1 hy]at hn⊢;exact h4 hn)
        have HI5:=zH (Uq i5 (Uq i6 hord));have HI1:=zH i1;have x1:=aa f1 0;have x4:=aa f4 0;have hXw:=D'.bw.2.2;clear i1 i2 i3 i4 i5 i7 hsp0 hsm hord hps D';cases hq:ag oS s'.P z.1.1 with
        |some v=>
         have hgp:=fun w5 b5=>HGP.out w5 b5 _ hq;have HGQ:=zH hgp;have HN:=zH (show ag oS A3 z.1.1≠none→ag oS s'.P z.1.1≠none from fun _=>by rw[hq];simp);clear hgp hq;gi_wp2_with (first |(refine⟨trivial,?_⟩;gi_at_call 140;refine(UG _ (PE.2 (HSP.out _))).mono ?_;rintro e5 w5 ⟨rfl,b5⟩;have f5:=af f1 b5;have x5:=aa f5 0) |(refine⟨trivial,?_⟩;gi_at_call 183;refine(UG _ (PE.2 (HGQ.out _ b5))).mono ?_;rintro e6 w6 ⟨rfl,b6⟩;have B6:=ae (.cells (PA v) 98) (ah b6 b5)));exact HFIN.out _ s' (HI1.out.same2 B6) HI5.out.1 HI5.out.2.1 (fun _ h=>h) HN.out
        |none=>
         have hgp:=fun w5 b5=>HGP.out w5 b5 _ hq;have HGQ:=zH hgp;have HQ:=zH hq;clear hgp hq;gi_wp2_with (first |(refine⟨trivial,?_⟩;gi_at_call 140;refine(UG _ (PE.2 (HSP.out _))).mono ?_;rintro e5 w5 ⟨rfl,b5⟩;have f5:=af f1 b5;have x5:=aa f5 0) |(refine⟨trivial,?_⟩;gi_at_call 183;refine(UG _ (PE.2 (HGQ.out _ b5))).mono ?_;rintro e6 w6 ⟨rfl,b6⟩;have B6:=ae (.cells (PA ku) 98) (ah b6 b5);have f6:=ar (af (af f4 b5) b6) (.cells (PA ku) 98);have x6:=aa f6 0) |(refine⟨trivial,?_⟩;gi_at_call 184;refine(UG _ (PE.2 (HFD.out _ B6))).mono ?_;rintro e7 w7 ⟨⟨c7,rfl⟩,l7,i7,hch,hE,hD⟩));have hord:=HI5.out.2.2;have hsA:=HI5.out.1.a;rcases hD with⟨rfl,D9⟩ |⟨bZ,hlast,D9⟩
         ·have e7:i7=i:=by
           rcases hch.hd with⟨_,h⟩ |h
           ·exact h
           ·cases h
          refine HFIN.out _ s' (D9.back B6) HI5.out.1 HI5.out.2.1 (fun _ h=>h) fun hn=>?_;rw[HEK.out]at hn⊢;rcases hE with hE |hE |hE
          ·rw[hsA,e7]at hE;exact absurd hE hn
          ·rw[e7]at hE;exact hE
          ·simp at hE
         ·obtain⟨u,P',e,g1,g2,g3,g4,_⟩:=J1 HI5.out.1 hord.p (by omega) t64 hch hE hlast l7.length (Po _);rw[e]at D9;refine HFIN.out _ {s' with P:=P'} (D9.back B6) g1 HI5.out.2.1 g3 fun _=>?_;rw[HEK.out];refine g4 i ?_;rw[Nat.sub_self,Qo];rcases hch.hd with⟨h,_⟩ |h
          ·rw[h]at hlast;cases hlast
          ·exact List.mem_of_mem_head? h
       case done=>
        rintro Dd zs X hDd hS ⟨own',cs',s',i1,i2,i3,i4,i5,i6,i7,i8⟩ hKd;have D':=HIV.out _ _ _ _ i1 i2 i3 i4;have hall:∀k,ag oS A3 k≠none→ag oS s'.P k≠none:=fun k hk hn=>by
         have hg:=i5.un k hk hn;rw[i6]at hg;cases hq:ag oS s.G k with
         |none=>exact hg hq
         |some v=>
          have hm:=(ax oS HSZ0.out).1 hq;rw[←show T.toL=s.G from hTl,←hS]at hm;obtain⟨z,hz,e⟩:=Uu.1 hm;have ek:z.1.1=k:=congrArg Prod.fst e;exact i7 z hz (by rw[ek];exact hk) (by rw[ek];exact hn)
        have hXs:=D'.bw.2.2;clear i1 i2 i3 i4 i7 hst hS HTG;gi_wp2;gi_loopw [130] (fun i wr=>∃(k:Nat) (s4:WS),k≤(out++inn).length∧i=.int .i64 k∧az own b wX wr B q cs ty w4.heap.size s4∧FI A3 C3 P (fun k'=>∃x∈(out++inn).drop k,k'=kk x.tr x.pa) s4∧(∀k',ag oS A3 k'≠none→ag oS s4.P k'≠none)∧s4.G=s.G∧wr.heap[Dd]?=some (.deferred (some []))) (fun i _=>(out++inn).length - (intOf i).toNat)
        case atStart=>exact⟨0,s',by omega,rfl,D',i5,hall,i6,hKd⟩
        case round=>
         clear i5 i6 hall hKd D' hXs;obtain⟨k,s4,hk,rfl,D,i5,hall,i6,hKd⟩:=hrel;obtain⟨wo4,rfl⟩:∃wo4,wo4=wr:=⟨_,rfl⟩;obtain⟨f1,f2,f3,f4,f5,f6,f7,f8⟩:=HX.out _ _ D;have hord:=D.ord;have hsm:=i5.small hord (by omega) (by rw[i6];omega);have hus:=(i5.sizes hord).2;rw[i6]at hus;by_cases hlt:k< (out++inn).length
         ·obtain⟨x,hk'⟩:∃x,(out++inn)[k]?=some x:=⟨(out++inn)[k],PT hlt⟩;obtain⟨ad,rfl,hadl,c0,c1,c2,c3,c4,c5,c6,c7,c8⟩:=f5 k x hk';have hxo:=HF.out.2.1 x (Pv hk');have HDR:=zH (show(out++inn).drop k=x::(out++inn).drop (k+1)by
           rw[Vr hlt];have:=PT hlt;rw[this]at hk';rw[UC hk'])
          have hi2:(k:Int)< (out.length:Int)+(inn.length:Int):=by rw[Pu]at hlt;omega
          have hln:k<out.length+inn.length:=by rw[←Pu];exact hlt
          have nn:=Up wo4 (.cells (SA x) 93);have bn:=zB wo4 (.cells (SA x) 93);have HKN:=zH (ar hKd (.cells (SA x) 93));obtain⟨own1,cs1,q1,near1,kp1,ext1⟩:=D;have HCQ:=zH (Fy (q1.below bn) hb hsm x.tr x.pa (by have:=zC hord (kk x.tr x.pa);omega) hxo.1 hxo.2.2.1);have HI5:=zH (Uq i5 (Uq hall (Uq i6 hord)));have x4:=aa (af f4 bn) 0;clear hk' f1 f2 f3 f5 f6 f7 i5 hall i6 hord hsm hus hlt hKd;gi_wp2_with (refine⟨trivial,?_⟩;gi_at_call 185;refine(PE.2 (HCQ.out)).mono ?_;rintro e7 w7 ⟨⟨c7,rfl⟩,D7⟩);refine⟨⟨k+1,iv s4 x.tr x.pa,by rw[Pu];omega,by go_num,az.after (q1.below bn) near1 (kp1.trans (Kp.of_below _ bn)) ext1 D7,HI5.out.1.count HI5.out.2.2.2 hxo.1 hxo.2.2.1 (fun k' hk'=>?_),fun k' hk'=>yL HI5.out.2.2.2 (HI5.out.2.1 k' hk'),by rw[Ie];exact HI5.out.2.2.1,?_⟩,?_⟩
          ·obtain⟨y,hy,e⟩:=hk';rw[HDR.out]at hy;rcases Pz.1 hy with rfl |hy
           ·exact .inl e
           ·exact .inr ⟨y,hy,e⟩
          ·obtain⟨_,_,_,_,kp7,_⟩:=D7;exact kp7.oth Dd _ HKN.out rfl
          ·simp[intOf];omega
         ·obtain rfl:k=(out++inn).length:=by omega
          have F5:=i5.weaken (X':=fun _=>False) (fun k' ⟨x,hx,_⟩=>by rw[List.drop_length]at hx;simp at hx);have HFK:=zH (F5.fok hord hall);have HAC:=zH (Uq F5.a F5.c);have HSHI:=zH (F5.shift hord HF.out.1);obtain⟨_,nst2,r5,_⟩:=D.reads;obtain⟨own4,cs4,q4,near4,kp4,ext4⟩:=D;have how4:Ow own4 wo4:=by
           obtain⟨_,_,_,_,_,_,_,h9⟩:=q4;exact h9.ow
          have HQS:=zH (Fv (q4.below (Pk wo4.heap.size wo4).drew) hsm);generalize hgo:s4.U.filterMap (dh s4.P)=go at HQS HSHI;generalize hco:s4.U.filterMap (io s4.P)=com at HQS HSHI;have hnd:∀c,Dd≠c→Dd≠c:=fun _ h=>h;have hDw:w.heap.size+1+1<Dd:=by omega
          have hz41:w4.heap.size+1≠w.heap.size+1+1:=by omega
          have hz42:w4.heap.size≠w.heap.size+1+1:=by omega
          have x3:=f3;clear hgo hco i5 hall hord hsm hus hlt F5 f1 f2 f5 f6 f7 i6 HFI;gi_wp2_with fail;refine Q6.2 ?_;refine zr (fun V=>V.heap[w4.heap.size+1]?=some (.cells #[.pointer (some ⟨w4.heap.size,0,none⟩)] 290 (0,0))∧V.cell? ⟨w4.heap.size,5,none⟩=some (.int .i64 nst2)) ⟨f4,r5⟩ fun hS0=>?_;(refine zh hS0 8 1 0 ?_;simp only[zd];((iterate 1 (refine zt (fun W hW=>by have c0:=aa hW.1 0;exact zq) ?_;simp only[zp]));refine ac ?_));(refine zh hS0 4 4 2 ?_;simp only[zd];((iterate 4 (refine zt (fun W hW=>by have c0:=aa hW.1 0;have c1:=hW.2;exact zq) ?_;simp only[zp]));refine ac ?_));(refine zo 1 rfl fun K hK=>?_;go_simp);go_at_call 186;(with_reducible refine(HQS.out).mono ?_);rintro e5 w5 ⟨vs,vt,rfl,rs,rt,b5⟩;obtain⟨As,cs5,rfl⟩:=an rs;obtain⟨At,ct,rfl⟩:=an rt;have m3:=af (w:=wo4.drew) x3 b5;have m4:=af (w:=wo4.drew) f4 b5;have mD:=af (w:=wo4.drew) hKd b5;have m5:=(b5.cell (p:=⟨w4.heap.size,5,none⟩) (Uy _ _ r5)).trans r5;have t0:=aa m3;have ft0:=ak m3;go_wp2_with fail;(refine zu hK ⟨m4,m5⟩ ?_;clear hK K;try simp only[zp]);(refine zo 6 rfl fun K hK=>?_;go_simp);have SY:=Uq (aw (j:=1) (aw (j:=0) m4 hz41 (.slice As go.length cs5)) hz41 (.slice At com.length ct)) ((World.cell?_setCell_far _ ⟨w.heap.size+1+1,1,none⟩ ⟨w4.heap.size,5,none⟩ (.slice At com.length ct) (fun e=>hz42 e.symm)).trans ((World.cell?_setCell_far w5 ⟨w.heap.size+1+1,0,none⟩ ⟨w4.heap.size,5,none⟩ (.slice As go.length cs5) (fun e=>hz42 e.symm)).trans m5));have YD:=aw (j:=1) (aw (j:=0) mD (show Dd≠w.heap.size+1+1 by omega) (.slice As go.length cs5)) (show Dd≠w.heap.size+1+1 by omega) (.slice At com.length ct);have Y3:=aq (aq m3 0 (.slice As go.length cs5)) 1 (.slice At com.length ct);have hro5:∀{v:Value} {n:Nat} {xs:List Value},w5.ownsRow wo4.drew.heap.size 98 6 v n xs→v.ownBlock≠some (w.heap.size+1+1):=fun h e=>by have:=(h.lt _ e).1;have hh:wo4.drew.heap.size=wo4.heap.size:=rfl;omega
          have Yo:=Us (Us rs (a:=⟨w.heap.size+1+1,0,none⟩) (hro5 rs) (.slice As go.length cs5)) (a:=⟨w.heap.size+1+1,1,none⟩) (hro5 rs) (.slice At com.length ct);have Yt:=Us (Us rt (a:=⟨w.heap.size+1+1,0,none⟩) (hro5 rt) (.slice As go.length cs5)) (a:=⟨w.heap.size+1+1,1,none⟩) (hro5 rt) (.slice At com.length ct);have YK:=((Kp.refl (fun c=>c=w.heap.size+1+1) w5).setCell (b:=w.heap.size+1+1) (j:=0) (fun _=>rfl) (.slice As go.length cs5)).setCell (b:=w.heap.size+1+1) (j:=1) (fun _=>rfl) (.slice At com.length ct);have oD:own4 (w.heap.size+1+1)=0:=(ext4 _ (by omega)).trans (HOW.out _ (by omega));have YW:=(q4.below ((Pk wo4.heap.size wo4).drew.trans b5)).away YK (by omega) (by omega) oD hb;generalize (w5.setCell ⟨w.heap.size+1+1,0,none⟩ (.slice As go.length cs5)).setCell ⟨w.heap.size+1+1,1,none⟩ (.slice At com.length ct)=Y at SY YD Y3 Yo Yt YK YW⊢;(refine zu hK SY ?_;clear hK K;try simp only[zp]);(refine zh SY 0 2 7 ?_;simp only[zd];((iterate 2 (refine zU ?_;simp only[zp]));refine ac ?_));(refine ze ?_);gi_wp2_with fail;have r3:=(QP (o:=.deferred none) (show w.heap.size+1+1≠Dd by omega)).trans Y3;have v0:=aa r3 0;have v1:=aa r3 1;obtain⟨R,hp1,hp2⟩:=HSHI.out;refine⟨by simp,.inl ⟨_,_,rfl,UW YD,?_⟩⟩;refine⟨.tuple #[.agg #[.slice As go.length cs5,.slice At com.length ct],.int .i64 nst2,.int .i64 0],(by simp[results,results108,go_sem,v0,v1]),?_⟩;refine⟨_,_,_,A3,C3,s4.P,go,com,R,rfl,aI (SQ Yo _ YD rfl) (by show w.heap.size≤wo4.heap.size;omega),aI (SQ Yt _ YD rfl) (by show w.heap.size≤wo4.heap.size;omega),hp1,hp2,HFK.out,HIX.out,own4,cs4,?_,near4,?_,fun y hy=>ext4 y (by omega),fun y hy=>how4 y (hy.elim (fun e=>(rs.lt _ e).1) fun e=>(rt.lt _ e).1)⟩
          ·have:=(YW.cst (CR (o':=.deferred none) YD rfl)).forIn;rw[HAC.out.1,HAC.out.2]at this;exact this
          ·have K1:Kp (FF own b B) w wX:=Kp.of_below _ HBX.out;have K2:Kp (FF own b B) w wo4:=K1.trans' kp4 (fun c hc hf=>by unfold FW at hf;unfold FF;omega);have K3:Kp (FF own b B) w Y:=(K2.trans (Kp.of_below _ ((Pk wo4.heap.size wo4).drew.trans b5))).trans' YK (fun c hc e=>by omega);exact K3.row (RE Y Dd _) (fun r e=>by cases e;omega)
end
end
