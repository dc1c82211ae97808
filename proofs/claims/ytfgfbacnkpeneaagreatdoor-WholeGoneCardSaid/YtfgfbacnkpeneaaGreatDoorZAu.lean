/- For WholeGone: contracts of functions and plain laws. -/
import Derived.Test.YtfgfbacnkpeneaaGreatDoorZAt
set_option maxRecDepth 100000
set_option maxHeartbeats 4000000
set_option linter.unusedVariables false
set_option linter.unusedSimpArgs false
namespace Go.Proofs.YtfgfbacnkpeneaaGreatDoor
open Go.Proofs.Tryz
abbrev Q9:=@List.pairwise_map
abbrev RZ:=@List.map_congr_left
abbrev SV:=@List.mem_filterMap
theorem O8{P:Prop}(h:P:=by
 split
 ·rename_i e;rw[e];exact(bm oS hs k x).1
 ·rename_i e;exact(bm oS hs k x).2 k' e):P:=h
section
open Go.RowKit AvlP
abbrev aj(x:Sp):ByteArray:=kk x.tr x.id
abbrev mG(x y:Sp):Bool:=RankP.eJ (dG x) (dG y)
structure Sp.Vd(x:Sp):Prop where
 ok:x.Ok
 few:x.few
 may:CodeP.jh (dG x)=true
 kp:x.kept=x
structure Sp.In(x:Sp):Prop where
 ok:x.Ok
 few:x.few
 may:CodeP.jh (dG x)=true
theorem xd{x y:Sp}(h:dG x=dG y):x=y:=by
 obtain⟨a1,a2,a3,a4,⟨⟨a5⟩⟩,⟨⟨a6⟩⟩,a7,a8,a9⟩:=x;obtain⟨b1,b2,b3,b4,⟨⟨b5⟩⟩,⟨⟨b6⟩⟩,b7,b8,b9⟩:=y;simp only[dG,CodeP.Sp.mk.injEq]at h;simp_all
theorem Ca{x:Sp}(h:x.Ok):(dG x).Ok:=⟨h.1,h.2.1,h.2.2.1,h.2.2.2.1,h.2.2.2.2.1,h.2.2.2.2.2.1⟩
theorem AH(x:Sp):x.kept.kept=x.kept:=xd (by
 rw[lq,lq];unfold RankP.pX;simp only[CodeP.Sp.mk.injEq,true_and,and_true];omega)
theorem Sp.In.kept{x:Sp}(h:x.In):x.kept.Vd:=⟨x.kept_Ok h.ok,h.few,by rw[lq,RankP.jT];exact h.may,AH x⟩
theorem Sp.Vd.in{x:Sp}(h:x.Vd):x.In:=⟨h.ok,h.few,h.may⟩
theorem Lo{x y:Sp}(hx:x.Vd)(hy:y.Vd)(h1:mG x y=false)(h2:mG y x=false):x=y:=by
 unfold mG RankP.eJ at h1 h2;rw[UP]at h1 h2;rw[RankP.lz]at h2;have h0:RankP.jd (dG x) (dG y)=0:=by omega
 have:=RankP.Ga _ _ (Ca hx.ok) (Ca hy.ok) hx.may hy.may h0;rw[←lq,←lq,hx.kp,hy.kp]at this;exact xd this
theorem xF(x:Sp):mG x x=false:=RankP.AB _
theorem DX{x y:Sp}(h:mG x y=true):mG y x=false:=RankP.xK _ _ h
def oY:Option Sp→Option Sp→Option Sp
 |none,b=>b
 |some a,none=>some a
 |some a,some b=>if mG b a=true then some b else some a
def Vo(o:Option Sp):Prop:=∀x,o=some x→x.Vd
theorem ji(a:Option Sp):oY a none=a:=by cases a<;>rfl
theorem Gq(a:Option Sp):oY a a=a:=by
 cases a with
 |none=>rfl
 |some a=>simp[oY]
theorem xR{a b:Option Sp}(ha:Vo a)(hb:Vo b):oY a b=oY b a:=by
 cases a with
 |none=>rw[ji];rfl
 |some a=>
  cases b with
  |none=>rfl
  |some b=>
   simp only[oY];cases h1:mG b a with
   |true=>simp[DX h1]
   |false=>
    cases h2:mG a b with
    |true=>simp
    |false=>simp[Lo (ha a rfl) (hb b rfl) h2 h1]
theorem jy{a b:Sp}(h:mG b a=true):oY (some a) (some b)=some b:=by simp[oY,h]
theorem kH{a b:Sp}(h:mG b a=false):oY (some a) (some b)=some a:=by simp[oY,h]
theorem ua{a b c:Option Sp}:oY (oY a b) c=oY a (oY b c):=by
 cases a with
 |none=>rfl
 |some a=>
  cases b with
  |none=>rfl
  |some b=>
   cases c with
   |none=>simp only[ji]
   |some c=>
    cases h1:mG b a with
    |true=>
     cases h2:mG c b with
     |true=>rw[jy h1,jy h2,jy (RankP.xJ _ _ _ h2 h1)]
     |false=>rw[jy h1,kH h2,jy h1]
    |false=>
     cases h2:mG c b with
     |true=>rw[kH h1,jy h2]
     |false=>rw[kH h1,kH h2,kH h1,kH (RankP.qt _ _ _ h2 h1)]
structure aJ(L:List (ByteArray×Sp)):Prop where
 srt:aX oS L
 key:∀z∈L,z.1=aj z.2
 vd:∀z∈L,z.2.Vd
theorem fI:aJ []:=⟨fH oS,by simp,by simp⟩
theorem aJ.get{L:List (ByteArray×Sp)}(h:aJ L){k:ByteArray}{x:Sp}(hg:ag oS L k=some x):k=aj x∧x.Vd:=
 ⟨h.key _ ((ax oS h.srt).1 hg),h.vd _ ((ax oS h.srt).1 hg)⟩
theorem aJ.vo{L:List (ByteArray×Sp)}(h:aJ L)(k:ByteArray):Vo (ag oS L k):=fun _ hx=>(h.get hx).2
theorem aJ.ins{L:List (ByteArray×Sp)}(h:aJ L){x:Sp}(hx:x.Vd):aJ (ay oS L (aj x) x):=
 ⟨dR oS h.srt _ _,fun z hz=>(lY oS hz).elim (fun e=>by rw[e]) (h.key z),fun z hz=>(lY oS hz).elim (fun e=>by rw[e];exact hx) (h.vd z)⟩
theorem dI{L:List (ByteArray×Sp)}(hs:aX oS L)(k:ByteArray)(x:Sp)(k':ByteArray):ag oS (ay oS L k x) k'=if k'=k then some x else ag oS L k':=by
 exact O8
theorem cY{V:Type}{L:List (ByteArray×V)}(hs:aX oS L)(k:ByteArray)(k':ByteArray):ag oS (aK oS L k) k'=if k'=k then none else ag oS L k':=by
 split
 ·rename_i e;rw[e];exact(dC oS hs k).1
 ·rename_i e;exact(dC oS hs k).2 k' e
def cW(m:List (ByteArray×Sp))(x:Sp):List (ByteArray×Sp):=
 match ag oS m (aj x)with
 |none=>ay oS m (aj x) x.kept
 |some old=>if mG x.kept old=true then ay oS m (aj x) x.kept else m
def av(l:List Sp):List (ByteArray×Sp):=l.foldl cW []
def aA(l:List Sp):List Sp:=(av l).map (·.2)
theorem mP{m:List (ByteArray×Sp)}(h:aJ m){x:Sp}(hx:x.In):aJ (cW m x):=by
 unfold cW;split
 ·exact h.ins hx.kept
 ·split
  ·exact h.ins hx.kept
  ·exact h
theorem yj{m:List (ByteArray×Sp)}(h:aJ m)(x:Sp)(k:ByteArray):ag oS (cW m x) k=if k=aj x then oY (ag oS m k) (some x.kept)else ag oS m k:=by
 unfold cW;split
 ·rename_i e;rw[dI h.srt];split
  ·rename_i ek;rw[ek,e];rfl
  ·rfl
 ·rename_i old e;split
  ·rename_i hn;rw[dI h.srt];split
   ·rename_i ek;rw[ek,e];simp[oY,hn]
   ·rfl
  ·rename_i hn;split
   ·rename_i ek;rw[ek,e];simp[oY,hn]
   ·rfl
theorem qd(l:List Sp):∀{m:List (ByteArray×Sp)},aJ m→(∀x∈l,x.In)→aJ (l.foldl cW m):=by
 induction l with
 |nil=>intro m h _;exact h
 |cons x r ih=>intro m h hl;exact ih (mP h (hl x (by simp))) fun y hy=>hl y (by simp[hy])
theorem aG{l:List Sp}(hl:∀x∈l,x.In):aJ (av l):=qd l fI hl
def lI(l:List Sp)(k:ByteArray):Option Sp:=l.foldl (fun b x=>if aj x=k then oY b (some x.kept)else b) none
theorem vT(l:List Sp)(k:ByteArray):∀{m:List (ByteArray×Sp)},aJ m→(∀x∈l,x.In)→ag oS (l.foldl cW m) k=l.foldl (fun b x=>if aj x=k then oY b (some x.kept)else b) (ag oS m k):=by
 induction l with
 |nil=>intro m _ _;rfl
 |cons x r ih=>
  intro m h hl;rw[UK,UK,ih (mP h (hl x (by simp))) (fun y hy=>hl y (by simp[hy])),yj h];congr 1;by_cases e:k=aj x
  ·rw[Pj e,Pj e.symm]
  ·rw[Pm e,Pm (fun h=>e h.symm)]
theorem bz{l:List Sp}(hl:∀x∈l,x.In)(k:ByteArray):ag oS (av l) k=lI l k:=by
 rw[av,vT l k fI hl];rfl
theorem Hf(l:List Sp)(k:ByteArray):∀b:Option Sp,l.foldl (fun b x=>if aj x=k then oY b (some x.kept)else b) b=oY b (lI l k):=by
 induction l with
 |nil=>intro b;exact(ji b).symm
 |cons x r ih=>
  intro b;unfold lI;rw[UK,UK,ih,ih];split
  ·rw[ua];congr 1
  ·rfl
theorem fR(l r:List Sp)(k:ByteArray):lI (l++r) k=oY (lI l k) (lI r k):=by
 conv=>lhs;unfold lI
 rw[RO,Hf];rfl
theorem wl{l:List Sp}(hl:∀x∈l,x.In)(k:ByteArray):Vo (lI l k):=by
 rw[←bz hl];exact(aG hl).vo k
theorem zc:∀{L:List (ByteArray×Sp)},aJ L→∀k,lI (L.map (·.2)) k=ag oS L k:=by
 intro L;induction L with
 |nil=>intro _ k;rfl
 |cons z r ih=>
  intro h k;obtain⟨a,x⟩:=z;have hr:aJ r:=⟨aX.tail oS h.srt,fun z hz=>h.key z (by simp[hz]),fun z hz=>h.vd z (by simp[hz])⟩;have ha:a=aj x:=h.key (a,x) (by simp);have hx:x.Vd:=h.vd (a,x) (by simp);rw[UA,show x::r.map (·.2)=[x]++r.map (·.2)from rfl,fR,ih hr];have e1:lI [x] k=if aj x=k then some x else none:=by
   unfold lI;rw[UK,List.foldl_nil];split
   ·rw[hx.kp];rfl
   ·rfl
  have e2:ag oS ((a,x)::r) k=if k=a then some x else ag oS r k:=by
   have:=mc oS (A:=[]) (B:=r) (a:=a) (x:=x) (by simp);split
   ·rename_i e;rw[e];exact this
   ·rename_i e;have hs:=h.srt;cases hg:ag oS r k with
    |none=>
     rw[bQ oS hs];intro v hv;rcases Pz.1 hv with e' |hv
     ·exact e (congrArg Prod.fst e')
     ·exact(bQ oS hr.srt).1 hg v hv
    |some v=>exact(ax oS hs).2 (Qf _ ((ax oS hr.srt).1 hg))
  rw[e1,e2];by_cases e:k=a
  ·rw[Pj (by rw[e,ha]),Pj e];have:ag oS r k=none:=by
    rw[bQ oS hr.srt];intro v hv;have:=aX.head oS h.srt (k,v) hv;rw[e]at this;exact oS.ne this rfl
   rw[this];rfl
  ·rw[Pm (fun h=>e (by rw[←h,ha])),Pm e];rfl
theorem aJ.in{L:List (ByteArray×Sp)}(h:aJ L):∀x∈L.map (·.2),x.In:=fun x hx=>by
 obtain⟨z,hz,rfl⟩:=Uu.1 hx;exact(h.vd z hz).in
theorem iK{L:List (ByteArray×Sp)}(h:aJ L):av (L.map (·.2))=L:=
 ky oS (aG h.in).srt h.srt fun k=>by rw[bz h.in,zc h]
theorem tH{L:List (ByteArray×Sp)}(h:aJ L):aA (L.map (·.2))=L.map (·.2):=by rw[aA,iK h]
theorem nO{l:List Sp}(hl:∀x∈l,x.In):∀x∈aA l,x.Vd:=fun x hx=>by
 obtain⟨z,hz,rfl⟩:=Uu.1 hx;exact(aG hl).vd z hz
theorem Ah(m:List (ByteArray×Sp))(x:Sp)(hs:aX oS m):(cW m x).length≤m.length+1:=by
 unfold cW;split
 ·rw[cM oS hs];split<;>omega
 ·split
  ·rw[cM oS hs];split<;>omega
  ·omega
theorem qe(l:List Sp):∀{m:List (ByteArray×Sp)},aJ m→(∀x∈l,x.In)→(l.foldl cW m).length≤m.length+l.length:=by
 induction l with
 |nil=>intro m _ _;simp
 |cons x r ih=>
  intro m h hl;have:=ih (mP h (hl x (by simp))) (fun y hy=>hl y (by simp[hy]));have:=Ah m x h.srt;rw[UK,PC];omega
theorem bh{l:List Sp}(hl:∀x∈l,x.In):(av l).length≤l.length:=by
 have:=qe l fI hl;simpa[av]using this
def nu(L:List (ByteArray×Sp))(l:List Sp):List Sp:=(aA l).filter fun x=>match ag oS L (aj x)with |none=>true |some old=>mG x old
def ly(L:List (ByteArray×Sp))(l:List Sp):List Sp:=(aA l).filterMap fun x=>match ag oS L (aj x)with |none=>none |some old=>if mG x old=true then some old else none
def bc(L:List (ByteArray×Sp))(l:List Sp):List Sp:=(aA l).filter fun x=>(ag oS L (aj x)).isNone
def dn(L:List (ByteArray×Sp))(xs:List Sp):List (ByteArray×Sp):=xs.foldl (fun m x=>ay oS m (aj x) x) L
def keyed(xs:List Sp):List (ByteArray×Sp):=xs.map fun x=>(aj x,x)
theorem rO(xs:List Sp):(keyed xs).map (·.2)=xs:=by simp[keyed,UQ,Function.comp_def]
theorem xZ{L:List (ByteArray×Sp)}(h:∀z∈L,z.1=aj z.2):keyed (L.map (·.2))=L:=by
 unfold keyed;rw[UQ]
 conv=>rhs;rw[←List.map_id L]
 refine RZ fun z hz=>?_;show(aj z.2,z.2)=z;rw[←h z hz]
def cD(xs:List Sp):Prop:=aJ (keyed xs)
theorem cD.set{xs:List Sp}(h:cD xs):aA xs=xs:=by
 have:=tH h
 rwa [rO]at this
theorem aJ.setL{L:List (ByteArray×Sp)}(h:aJ L):cD (L.map (·.2)):=by
 unfold cD;rw[xZ h.key];exact h
theorem cV{l:List Sp}(hl:∀x∈l,x.In):cD (aA l):=(aG hl).setL
theorem aJ.sub{L L':List (ByteArray×Sp)}(h:aJ L)(hs:L'.Sublist L):aJ L':=
 ⟨h.srt.sublist hs,fun z hz=>h.key z (hs.subset hz),fun z hz=>h.vd z (hs.subset hz)⟩
theorem cD.sub{xs ys:List Sp}(h:cD xs)(hs:ys.Sublist xs):cD ys:=aJ.sub h (hs.map _)
theorem cD.filter{xs:List Sp}(h:cD xs)(p:Sp→Bool):cD (xs.filter p):=h.sub U4
theorem cD.vd{xs:List Sp}(h:cD xs):∀x∈xs,x.Vd:=fun x hx=>aJ.vd h (aj x,x) (Uu.2 ⟨x,hx,rfl⟩)
theorem cD.ne{xs:List Sp}(h:cD xs):xs.Pairwise fun a b=>aj a≠aj b:=by
 have:=h.srt;unfold aX keyed at this;rw[Q9]at this;exact this.imp fun h=>oS.ne h
theorem cD.same{xs:List Sp}(h:cD xs){x y:Sp}(hx:x∈xs)(hy:y∈xs)(e:aj x=aj y):x=y:=by
 have h1:=(ax oS h.srt (k:=aj x) (v:=x)).2 (Uu.2 ⟨x,hx,rfl⟩);have h2:=(ax oS h.srt (k:=aj y) (v:=y)).2 (Uu.2 ⟨y,hy,rfl⟩);rw[e,h2]at h1;exact(UC h1).symm
theorem mQ{L:List (ByteArray×Sp)}(h:aJ L){xs:List Sp}(hx:∀x∈xs,x.Vd):aJ (dn L xs):=by
 induction xs generalizing L with
 |nil=>exact h
 |cons x r ih=>exact ih (h.ins (hx x (by simp))) fun y hy=>hx y (by simp[hy])
theorem fj{xs:List Sp}{k:ByteArray}:∀{L:List (ByteArray×Sp)},aJ L→(∀x∈xs,x.Vd)→(∀x∈xs,aj x≠k)→ag oS (dn L xs) k=ag oS L k:=by
 induction xs with
 |nil=>intro L _ _ _;rfl
 |cons x r ih=>
  intro L h hv hk;show ag oS (dn (ay oS L (aj x) x) r) k=_;rw[ih (h.ins (hv x (by simp))) (fun y hy=>hv y (by simp[hy])) (fun y hy=>hk y (by simp[hy])),dI h.srt,Pm (fun e=>hk x (by simp) e.symm)]
theorem iu{xs:List Sp}:∀{L:List (ByteArray×Sp)},aJ L→cD xs→∀x∈xs,ag oS (dn L xs) (aj x)=some x:=by
 induction xs with
 |nil=>intro L _ _ x hx;simp at hx
 |cons y r ih=>
  intro L h hs x hx;have hv:=hs.vd;have hr:cD r:=hs.sub (List.sublist_cons_self _ _);show ag oS (dn (ay oS L (aj y) y) r) (aj x)=_;rcases Pz.1 hx with rfl |hx
  ·rw[fj (h.ins (hv x (by simp))) (fun z hz=>hv z (by simp[hz])) (fun z hz e=>?_),dI h.srt,Pj rfl];exact(QL.1 hs.ne).1 z hz e.symm
  ·exact ih (h.ins (hv y (by simp))) hr x hx
theorem rq{xs:List Sp}:∀{L:List (ByteArray×Sp)},aJ L→(∀x∈xs,x.Vd)→(dn L xs).length≤L.length+xs.length:=by
 induction xs with
 |nil=>intro L _ _;simp[dn]
 |cons x r ih=>
  intro L h hv;have:=ih (h.ins (hv x (by simp))) (fun y hy=>hv y (by simp[hy]));show(dn (ay oS L (aj x) x) r).length≤_;have h2:=cM oS h.srt (aj x) x;simp only[PC];split at h2<;>omega
theorem iL{L:List (ByteArray×Sp)}{l:List Sp}(hl:∀x∈l,x.In):cD (nu L l):=(cV hl).filter _
theorem gV{l:List Sp}(hl:∀x∈l,x.In){x:Sp}:x∈aA l↔lI l (aj x)=some x:=by
 rw[←bz hl,ax oS (aG hl).srt];constructor
 ·intro h;obtain⟨z,hz,rfl⟩:=Uu.1 h;rw[←(aG hl).key z hz];exact hz
 ·intro h;exact Uu.2 ⟨_,h,rfl⟩
theorem wn{l:List Sp}(hl:∀x∈l,x.In){k:ByteArray}{x:Sp}(h:lI l k=some x):k=aj x:=by
 rw[←bz hl]at h;exact((aG hl).get h).1
theorem yl{L:List (ByteArray×Sp)}(h:aJ L){l:List Sp}(hl:∀x∈l,x.In)(k:ByteArray):ag oS (dn L (nu L l)) k=oY (ag oS L k) (lI l k):=by
 have hv:=(iL (L:=L) hl).vd;cases hb:lI l k with
 |none=>
  rw[fj h hv,ji];intro x hx e;have hm:=(gV hl).1 ((Uz.1 hx).1);rw[e,hb]at hm;cases hm
 |some x=>
  have ek:=wn hl hb;subst ek;have hm:=(gV hl).2 hb;cases hg:ag oS L (aj x)with
  |none=>
   rw[iu h (iL hl) x (by
    unfold nu;rw[Uz];exact⟨hm,by rw[hg]⟩)]
   rfl
  |some old=>
   by_cases hn:mG x old=true
   ·rw[iu h (iL hl) x (by
     unfold nu;rw[Uz];exact⟨hm,by rw[hg];exact hn⟩)]
    simp[oY,hn]
   ·rw[fj h hv,hg]
    ·simp[oY,hn]
    ·intro y hy e;obtain⟨hy1,hy2⟩:=Uz.1 hy;have:=(cV hl).same hy1 hm e;subst this;rw[hg]at hy2;exact hn hy2
theorem rz{L:List (ByteArray×Sp)}(h:aJ L){l:List Sp}{y:Sp}(hy:y∈ly L l):∃x∈aA l,ag oS L (aj x)=some y∧mG x y=true∧aj y=aj x:=by
 obtain⟨x,hx,e⟩:=SV.1 hy;split at e
 ·cases e
 ·rename_i old hg;split at e
  ·rename_i hn;cases e;exact⟨x,hx,hg,hn,((h.get hg).1).symm⟩
  ·cases e
theorem xz{L:List (ByteArray×Sp)}(h:aJ L){l:List Sp}(hl:∀x∈l,x.In):cD (ly L l):=by
 refine⟨?_,fun z hz=>?_,fun z hz=>?_⟩
 ·unfold aX keyed;rw[Q9];unfold ly;rw[List.pairwise_filterMap];have hs:=(cV hl).srt;unfold aX keyed at hs;rw[Q9]at hs;refine hs.imp ?_;intro a b hab x hx y hy;have key:∀{c u:Sp},(match ag oS L (aj c)with |none=>none |some old=>if mG c old=true then some old else none)=some u→aj u=aj c:=by
   intro c u e;split at e
   ·cases e
   ·rename_i old hg;split at e
    ·cases e;exact((h.get hg).1).symm
    ·cases e
  show oS.lt (aj x) (aj y)=true;rw[key hx,key hy];exact hab
 ·obtain⟨x,_,rfl⟩:=Uu.1 hz;rfl
 ·obtain⟨y,hy,rfl⟩:=Uu.1 hz;obtain⟨x,_,hg,_⟩:=rz h hy;exact(h.get hg).2
theorem oq{L:List (ByteArray×Sp)}(h:aJ L){l:List Sp}(hl:∀x∈l,x.In):∀y∈ly L l,y∉nu L l:=by
 intro y hy hi;obtain⟨x,hx,hg,hn,ek⟩:=rz h hy;have:=(cV hl).same ((Uz.1 hi).1) hx ek;subst this;rw[xF]at hn;cases hn
end
