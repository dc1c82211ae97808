/- For WholeGone: contracts of functions and plain laws. -/
import Derived.Test.YtfgfbacnkpeneaaGreatDoorZBi
set_option maxRecDepth 100000
set_option maxHeartbeats 4000000
set_option linter.unusedVariables false
set_option linter.unusedSimpArgs false
namespace Go.Proofs.YtfgfbacnkpeneaaGreatDoor
open Go.Proofs.Tryz Go.ChangeShapes Go.WideShapes Go.ChangeAt Go.RowKit Go.Deep
abbrev Vq:=@List.length_reverse
abbrev Tk:=@Go.Lib.toList_data
abbrev V7:=@Go.run_eql_map_nil
theorem Ul{P:Prop}(h:P:=by
 refine aU 6 8 (by kernel_rfl) rfl rfl (fun K hK=>?_) (fun K hK=>?_)
 ·rw[Pj (by rfl)];go_simp;(refine zu hK S1 ?_;clear hK K;try simp only[zp]);(refine zh S1 3 1 7 ?_;simp only[zd];((iterate 1 (refine zU ?_;simp only[zp]));refine ac ?_));(refine zo 8 rfl fun K hK=>?_;go_simp);(refine zu hK S2 ?_;clear hK K;try simp only[zp]);(refine zh S2 1 1 9 ?_;simp only[zd];((iterate 1 (refine zU ?_;simp only[zp]));refine ac ?_));(refine zo 10 rfl fun K hK=>?_;go_simp);(refine zu hK S3 ?_;clear hK K;try simp only[zp]);(refine ze ?_);exact HG
 ·rw[Pj (by rfl)];go_simp;(refine zu hK S2 ?_;clear hK K;try simp only[zp]);(refine zh S2 3 1 9 ?_;simp only[zd];((iterate 1 (refine zU ?_;simp only[zp]));refine ac ?_));(refine zo 6 rfl fun K hK=>?_;go_simp);(refine zu hK S2 ?_;clear hK K;try simp only[zp]);(refine zh S2 1 1 7 ?_;simp only[zd];((iterate 1 (refine zU ?_;simp only[zp]));refine ac ?_));(refine zo 10 rfl fun K hK=>?_;go_simp);(refine zu hK S3 ?_;clear hK K;try simp only[zp]);(refine ze ?_);exact HG):P:=h
theorem Ww{P:Prop}(h:P:=by
 (refine zu hK S3 ?_;clear hK K;try simp only[zp]);(refine ze ?_);exact HG):P:=h
theorem N7{P:Prop}(h:P:=by
 obtain⟨es,clock,hb,_⟩:=hm.ex;have:=HBX.out;rw[e,hb]at this;cases this):P:=h
theorem Oh{P:Prop}(h:P:=by
 rw[Vr hlt];rw[PT hlt]at hk';cases hk';rfl):P:=h
theorem OR{P:Prop}(h:P:=by
 refine⟨⟨k+1,by omega,by go_num,?_⟩,by simp[intOf];omega⟩;have:=HJ.out _ P2;rw[hdr];exact this):P:=h
section
open AvlP PlcP
def jc(V:List (ByteArray×Sp))(tr i:Int):Option Int:=(ag oS V (kk tr i)).map (·.pa)
def Ba(V:List (ByteArray×Sp))(tr i:Int):Nat:=((V.map (·.2)).filter fun x=>decide (x.tr=tr∧x.pa=i)).length
structure eZ(V:List (ByteArray×Sp))(X:List Pl):Prop where
 keys:X.map (fun p=>(p.tr,p.id))=V.map fun z=>(z.2.tr,z.2.id)
 ok:∀p∈X,gL (jc V p.tr) p.id (p.cl,p.de,p.to)∧p.fa=(Ba V p.tr p.id:Nat)
theorem Lh{p r:Pl}(h1:(p.tr,p.id)=(r.tr,r.id))(h2:(p.cl,p.de,p.to)=(r.cl,r.de,r.to))(h3:p.fa=r.fa):p=r:=by
 cases p;cases r;simp_all
theorem Cu{α β:Type}{f:α→β}:∀{X Y:List α},X.map f=Y.map f→(∀p∈X,∀r∈Y,f p=f r→p=r)→X=Y
 |[],[],_,_=>rfl
 |[],_::_,h,_=>by cases h
 |_::_,[],h,_=>by cases h
 |x::X,y::Y,h,hx=>by
  rw[UA,UA]at h;injection h with h1 h2;rw[hx x (UI ..) y (UI ..) h1,Cu h2 fun p hp r hr=>hx p (Qf _ hp) r (Qf _ hr)]
theorem eZ.unique{V:List (ByteArray×Sp)}{X Y:List Pl}(hX:eZ V X)(hY:eZ V Y):X=Y:=by
 refine Cu (hX.keys.trans hY.keys.symm) fun p hp r hr e=>?_;obtain⟨p1,p2⟩:=hX.ok p hp;obtain⟨r1,r2⟩:=hY.ok r hr;have e1:p.tr=r.tr:=congrArg Prod.fst e;have e2:p.id=r.id:=congrArg Prod.snd e;rw[←e1,←e2]at r1 r2;exact Lh e (pY p1 r1) (p2.trans r2.symm)
section
variable{V:List (ByteArray×Sp)}{A:List (ByteArray×Int)}{C:List (ByteArray×Unit)}{P:List (ByteArray×Pl)}
theorem qD{K1 V1 V2:Type}{o:eN K1}{L:List (K1×V1)}{M:List (K1×V2)}(hL:aX o L)(hM:aX o M)(h:∀k,ag o L k≠none↔ag o M k≠none):L.map (·.1)=M.map (·.1):=by
 have gm:∀{V3:Type} (L:List (K1×V3)),aX o L→aX o (L.map fun z=>(z.1,()))∧∀k,ag o (L.map fun z=>(z.1,())) k=(ag o L k).map fun _=>():=by
  intro V3 L;induction L with
  |nil=>exact fun _=>⟨fH o,fun _=>rfl⟩
  |cons z r ih=>
   intro hs;obtain⟨i1,i2⟩:=ih (aX.tail o hs);refine⟨QL.2 ⟨fun y hy=>?_,i1⟩,fun k=>?_⟩
   ·obtain⟨u,hu,rfl⟩:=Uu.1 hy;exact(aX.head o hs) u hu
   ·simp only[UA,ag,i2 k];split
    ·rfl
    ·split<;>rfl
 have:=ky o (gm L hL).1 (gm M hM).1 fun k=>by
  rw[(gm L hL).2,(gm M hM).2];have:=h k;cases h1:ag o L k<;>cases h2:ag o M k<;>simp_all
 have h2:=congrArg (List.map (·.1)) this;rw[UQ,UQ]at h2;exact h2
theorem Lk(h:∀k,ag oS A k=(ag oS V k).map (·.pa))(tr:Int):fX A tr=jc V tr:=funext fun i=>h (kk tr i)
theorem LN(hV:aJ V)(hK:kt A C)(h:∀k,ag oS A k=(ag oS V k).map (·.pa)){tr i:Int}(h1:aB tr)(h2:aB i):(aH C tr i).length=Ba V tr i:=by
 have hn:(((V.map (·.2)).filter fun x=>decide (x.tr=tr∧x.pa=i)).map (·.id)).Nodup:=by
  refine List.Pairwise.map _ ?_ (List.Pairwise.and_mem.1 (hV.setL.ne.filter _));rintro a b ⟨ha,hb,hne⟩ e;have ha':=(Uz.1 ha).2;have hb':=(Uz.1 hb).2;simp only[P7]at ha' hb';exact hne (by unfold aj;rw[ha'.1,hb'.1,e])
 have:=xV (hK.nodup h1 h2) hn fun j=>by
  rw[hK.kids h1 h2,h,Uu];constructor
  ·rintro⟨hj,hm⟩;cases hg:ag oS V (kk tr j)with
   |none=>rw[hg]at hm;cases hm
   |some x=>
    rw[hg]at hm;obtain⟨hk,hx⟩:=hV.get hg;obtain⟨e1,e2⟩:=bS h1 hj hx.ok.1 hx.ok.2.1 hk;refine⟨x,Uz.2 ⟨Uu.2 ⟨_,(ax oS hV.srt).1 hg,rfl⟩,?_⟩,e2.symm⟩;simp only[P7];exact⟨e1.symm,UC hm⟩
  ·rintro⟨x,hx,rfl⟩;obtain⟨m1,m2⟩:=Uz.1 hx;simp only[P7]at m2;have hg:=hV.mem.1 m1;obtain⟨_,hvd⟩:=hV.get hg;refine⟨hvd.ok.2.1,?_⟩;rw[←m2.1,hg];exact congrArg some m2.2
 rw[this,Ur];rfl
theorem Fe.pls(F:Fe A C P)(hV:aJ V)(h:∀k,ag oS A k=(ag oS V k).map (·.pa)):eZ V (P.map (·.2)):=by
 have hk:P.map (·.1)=V.map (·.1):=qD F.sp hV.srt fun k=>by
  have h1:ag oS A k≠none↔ag oS V k≠none:=by
   rw[h k];cases ag oS V k<;>simp
  rw[←h1];refine⟨fun hp=>?_,F.pa k⟩;cases hg:ag oS P k with
  |none=>exact absurd hg hp
  |some v=>exact(F.ok k v hg).present
 refine⟨?_,fun p hp=>?_⟩
 ·have e1:(P.map (·.2)).map (fun p=>kk p.tr p.id)=V.map fun z=>aj z.2:=by
   have a1:(P.map (·.2)).map (fun p=>kk p.tr p.id)=P.map (·.1):=by
    rw[UQ];exact RZ fun z hz=>((F.ok z.1 z.2 ((ax oS F.sp).2 hz)).key).symm
   have a2:V.map (·.1)=V.map fun z=>aj z.2:=RZ fun z hz=>hV.key z hz;rw[a1,hk,a2]
  have e2:∀{X:List Pl} {Y:List (ByteArray×Sp)},X.map (fun p=>kk p.tr p.id)=Y.map (fun z=>aj z.2)→(∀p∈X,aB p.tr∧aB p.id)→(∀z∈Y,aB z.2.tr∧aB z.2.id)→X.map (fun p=>(p.tr,p.id))=Y.map fun z=>(z.2.tr,z.2.id):=by
   intro X;induction X with
   |nil=>
    intro Y hY _ _;cases Y with
    |nil=>rfl
    |cons=>cases hY
   |cons p X ih=>
    intro Y hY h1 h2;cases Y with
    |nil=>cases hY
    |cons z Y=>
     rw[UA,UA]at hY;injection hY with y1 y2;obtain⟨q1,q2⟩:=h1 p (UI ..);obtain⟨r1,r2⟩:=h2 z (UI ..);obtain⟨s1,s2⟩:=bS q1 q2 r1 r2 y1;rw[UA,UA,s1,s2,ih y2 (fun p hp=>h1 p (Qf _ hp)) fun z hz=>h2 z (Qf _ hz)]
  refine e2 e1 (fun p hp=>?_) fun z hz=>?_
  ·obtain⟨z,hz,rfl⟩:=Uu.1 hp;have:=F.ok z.1 z.2 ((ax oS F.sp).2 hz);exact⟨this.tr,this.id⟩
  ·have:=(hV.vd z hz).ok;exact⟨this.1,this.2.1⟩
 ·obtain⟨z,hz,rfl⟩:=Uu.1 hp;have hz2:=F.ok z.1 z.2 ((ax oS F.sp).2 hz);refine⟨by rw[←Lk h];exact hz2.pl,?_⟩;rcases hz2.fan with e |e
  ·rw[e,LN hV F.k h hz2.tr hz2.id]
  ·exact e.elim
end
end
section
open AvlP
instance:LawfulBEq ByteArray:=
 {eq_of_beq:=fun {a b} h=>by
   have h2:(a.data==b.data)=true:=h;exact Vs (eq_of_beq h2)
  rfl:=fun {a}=>(beq_self_eq_true a.data:(a.data==a.data)=true)}
theorem se{α β:Type}{f:α→Option β}{g:α→β}{l:List α}(h:∀x∈l,f x=some (g x)):l.filterMap f=l.map g:=by
 rw[←List.filterMap_eq_map];exact fP h
abbrev Pr:Type:=ByteArray×ByteArray
def nt(V:List (ByteArray×Sp))(k:ByteArray):Option ByteArray:=(ag oS V k).map (·.sv)
def Bh(V:List (ByteArray×Sp))(x:Sp):Option Pr:=(nt V (kk x.tr x.pa)).map fun f=>(f,x.sv)
def mf(V:List (ByteArray×Sp)):List Pr:=(V.map (·.2)).filterMap (Bh V)
def Mq(C:List (ByteArray×Unit))(x:Sp):List Int:=(aH C x.tr x.id).filter fun j=>decide (j≠x.id)
def IL(V:List (ByteArray×Sp))(C:List (ByteArray×Unit))(x:Sp):List Pr:=(Bh V x).toList++(Mq C x).map fun j=>(x.sv,(nt V (kk x.tr j)).getD ⟨#[]⟩)
section
variable{V W:List (ByteArray×Sp)}{A:List (ByteArray×Int)}{C:List (ByteArray×Unit)}{x:Sp}
theorem aJ.delR(h:aJ V)(k:ByteArray):aJ (aK oS V k):=h.sub (lF oS V k)
theorem Ib(h:aJ V)(hx:ag oS V (aj x)=some x):(V.map (·.2)).Perm (x::(aK oS V (aj x)).map (·.2)):=by
 have hd:=h.delR (aj x);have hg:=cY h.srt (aj x);refine kF h.nodup ?_ fun y=>?_
 ·refine PV.2 ⟨fun hm=>?_,hd.nodup⟩;have:=hd.mem.1 hm;rw[hg,Pj rfl]at this;cases this
 ·rw[Pz,h.mem,hd.mem,hg];by_cases e:aj y=aj x
  ·rw[Pj e,e,hx];constructor
   ·intro h1;exact .inl (UC h1).symm
   ·rintro(rfl |h1)
    ·rfl
    ·cases h1
  ·rw[Pm e];constructor
   ·exact .inr
   ·rintro(rfl |h1)
    ·exact absurd rfl e
    ·exact h1
theorem CK(h:aJ V)(hK:kt A C)(hA:∀k,ag oS A k=(ag oS V k).map (·.pa))(hx:ag oS V (aj x)=some x):(mf V).Perm (IL V C x++mf (aK oS V (aj x))):=by
 have hvd:=(h.get hx).2;have hd:=h.delR (aj x);have hg:=cY h.srt (aj x);refine((Ib h hx).filterMap _).trans ?_;rw[show List.filterMap (Bh V) (x::(aK oS V (aj x)).map (·.2))=(Bh V x).toList++((aK oS V (aj x)).map (·.2)).filterMap (Bh V)by
  rw[VI];cases Bh V x<;>rfl]
 unfold IL;rw[Qg];refine List.Perm.append_left _ ?_;refine((kK (fun y:Sp=>decide (kk y.tr y.pa=aj x)) ((aK oS V (aj x)).map (·.2))).filterMap (Bh V)).trans ?_;rw[Vj];have hkey:∀y∈(aK oS V (aj x)).map (·.2),ag oS V (aj y)=some y∧aj y≠aj x∧y.Vd:=fun y hy=>by
  have h1:=hd.mem.1 hy;rw[hg]at h1;by_cases e:aj y=aj x
  ·rw[Pj e]at h1;cases h1
  ·rw[Pm e]at h1;exact⟨h1,e,(h.get h1).2⟩
 refine List.Perm.append ?_ ?_
 ·have e1:(((aK oS V (aj x)).map (·.2)).filter fun y=>decide (kk y.tr y.pa=aj x)).filterMap (Bh V)=(((aK oS V (aj x)).map (·.2)).filter fun y=>decide (kk y.tr y.pa=aj x)).map fun y=>(x.sv,y.sv):=by
   refine se fun y hy=>?_;have h2:=(Uz.1 hy).2;simp only[P7]at h2;unfold Bh nt;rw[h2,hx];rfl
  have e2:(((aK oS V (aj x)).map (·.2)).filter fun y=>decide (kk y.tr y.pa=aj x)).map (fun y=>(x.sv,y.sv))=((((aK oS V (aj x)).map (·.2)).filter fun y=>decide (kk y.tr y.pa=aj x)).map (·.id)).map fun j=>(x.sv,(nt V (kk x.tr j)).getD ⟨#[]⟩):=by
   rw[UQ];refine RZ fun y hy=>?_;obtain⟨h1,h2⟩:=Uz.1 hy;simp only[P7]at h2;obtain⟨k1,k2,k3⟩:=hkey y h1;obtain⟨e3,e4⟩:=bS k3.ok.1 k3.ok.2.2.1 hvd.ok.1 hvd.ok.2.1 h2;show _=(x.sv,_);unfold nt;rw[←e3,show kk y.tr y.id=aj y from rfl,k1];rfl
  rw[e1,e2];refine List.Perm.map _ ?_;refine kF ?_ ((hK.nodup hvd.ok.1 hvd.ok.2.1).filter _) fun j=>?_
  ·refine List.Pairwise.map _ ?_ (List.Pairwise.and_mem.1 (hd.setL.ne.filter _));rintro a b ⟨ha,hb,hne⟩ e;obtain⟨a1,a2⟩:=Uz.1 ha;obtain⟨b1,b2⟩:=Uz.1 hb;simp only[P7]at a2 b2;have ao:=(hkey a a1).2.2.ok;have bo:=(hkey b b1).2.2.ok;have e3:=(bS ao.1 ao.2.2.1 bo.1 bo.2.2.1 (a2.trans b2.symm)).1;exact hne (by unfold aj;rw[e3,e])
  ·unfold Mq;rw[Uz,hK.kids hvd.ok.1 hvd.ok.2.1,hA,Uu];simp only[ne_eq,decide_not,Wh,V0,UP];constructor
   ·rintro⟨y,hy,rfl⟩;obtain⟨h1,h2⟩:=Uz.1 hy;simp only[P7]at h2;obtain⟨k1,k2,k3⟩:=hkey y h1;obtain⟨e3,e4⟩:=bS k3.ok.1 k3.ok.2.2.1 hvd.ok.1 hvd.ok.2.1 h2;refine⟨⟨k3.ok.2.1,?_⟩,fun e=>k2 (by unfold aj;rw[e3,e])⟩;rw[←e3,show kk y.tr y.id=aj y from rfl,k1];exact congrArg some e4
   ·rintro⟨⟨hj,hm⟩,hne⟩;cases hgy:ag oS V (kk x.tr j)with
    |none=>rw[hgy]at hm;cases hm
    |some y=>
     rw[hgy]at hm;obtain⟨hk,hy⟩:=h.get hgy;obtain⟨e3,e4⟩:=bS hvd.ok.1 hj hy.ok.1 hy.ok.2.1 hk;refine⟨y,Uz.2 ⟨?_,?_⟩,e4.symm⟩
     ·rw[hd.mem,hg,Pm (fun e=>hne ?_),←hk,hgy];rw[←hk]at e;exact(bS hvd.ok.1 hj hvd.ok.1 hvd.ok.2.1 e).2
     ·simp only[P7];unfold aj;rw[←e3,show y.pa=x.id from UC hm]
 ·refine List.Perm.of_eq ?_;unfold mf;rw[List.filterMap_filter];refine fP fun y hy=>?_;unfold Bh nt;rw[hg];by_cases h2:kk y.tr y.pa=aj x
  ·simp[h2]
  ·simp[h2]
theorem EK(h:∀k,ag oS V k=ag oS W k)(hV:aJ V)(hW:aJ W):mf V=mf W:=by rw[ky oS hV.srt hW.srt h]
theorem CJ(V:List (ByteArray×Sp)):(mf V).length≤V.length:=by
 unfold mf;refine Pt (Vl _ _) ?_;rw[Ur];exact Po _
end
end
section
def Me(w:World)(A:Option Addr)(l:List ByteArray):Prop:=∀(k:Nat) (x:ByteArray),l[k]?=some x→∃g,A=some ⟨g,0,none⟩∧g<w.heap.size∧w.cell? ⟨g,k,none⟩=some (.string x)
theorem ED(l:List ByteArray):l.map Value.string=l.flatMap fun i=>[Value.string i]:=by
 exact Pa
theorem Jy{w:World}{base:Nat}{e:TypeId}{v:Value}{l:List ByteArray}(h:w.ownsRow base e 1 v l.length (l.map Value.string)):∃A c,v=.slice A l.length c∧l.length≤c∧c≤maxLen∧Me w A l:=by
 rw[ED]at h;obtain⟨A,c,h1,h2,h3,h4,_⟩:=cK (f:=fun i=>[Value.string i]) (l:=l) (fun _=>rfl) h;exact Oq
theorem Me.below{w w':World}{A:Option Addr}{l:List ByteArray}(h:Me w A l)(hb:Below w.heap.size w w'):Me w' A l:=fun k x hx=>by
 exact OG
theorem zI(A:Option Addr)(c:Nat)(l:List ByteArray)(x:ByteArray)(hm:l.length≤maxLen)(w:World)(hr:Me w A l):
  Calls prog 282 #[.slice A l.length c,.string x] w fun e w'=>(∃i:Int,e=.returned (.int .i64 i)∧decide (0≤i)=decide (x∈l))∧w'=w:=by
 unfold maxLen at hm;have HR:=zH hr;clear hr;go_enter func282,ntmps282;go_wp2_with fail;go_loopw [8] (fun i wr=>∃k:Nat,k≤l.length∧i=.int .i64 k∧(∀y∈l.take k,y≠x)∧wr=w) (fun i _=>l.length - (intOf i).toNat)
 case atStart=>exact⟨0,by omega,rfl,by simp,rfl⟩
 case round=>
  obtain⟨k,hk,rfl,hn,rfl⟩:=hrel;by_cases hlt:k<l.length
  ·obtain⟨f,hk'⟩:=zg hlt;obtain⟨g,rfl,hg1,hg2⟩:=HR.out k f hk';have hi1:(k:Int)< (l.length:Int):=by omega
   by_cases hx:x=f
   ·subst hx;have HM:=zH (Pv hk');have hx1:(x.toList==x.toList)=true:=by simp
    exact O0
   ·have hx1:(x.toList==f.toList)=false:=by
     rw[Qz];exact fun e=>hx (Vs (Array.toList_inj.1 (by rw[←Tk,←Tk];exact e)))
    exact NS
  ·obtain rfl:k=l.length:=by omega
   exact OF
theorem sT(A:Option Addr)(c:Nat)(l:List ByteArray)(x:ByteArray)(hm:l.length≤maxLen)(w:World)(hr:Me w A l):
  Calls prog 220 #[.slice A l.length c,.string x] w fun e w'=>e=.returned (.bool (decide (x∈l)))∧w'=w:=by
 have HI:=zH (zI A c l x hm w hr);clear hr;go_enter func220,ntmps220;go_wp2_with (go_at_call 282;with_reducible refine(HI.out).mono ?_;rintro e w1 ⟨⟨i,rfl,hi⟩,rfl⟩;have HH:=zH hi;clear hi);refine Ux (v:=.bool (decide (0≤i))) (by simp[results,results220,go_sem]) rfl ?_;exact⟨by rw[HH.out],rfl⟩
end
section
open AvlP
section
variable{own own':Nat→Nat}{t tD tF:Nat}{w w':World}{B q:Nat}{cs cs':Array Value}{ty:TypeId}{M N:Nat}{pD pF:Option Addr}{LD LF:List (Int×Int)}{l:List Pl}
theorem bD.km{F:Nat→Prop}{p:Option Addr}{L:List (Int×Int)}{all:Int}(h:bD own t w B q cs ty p L all)(hk:Km F w w')(hB:¬F B)(hf:∀b,b<w.heap.size→own b=t→¬F b):bD own t w' B q cs ty p L all:=by
 obtain⟨T,h1,h2,h3,h4,h5⟩:=h.tr;exact⟨hk.at h.box hB,h.c0,h.c1,h.c2,⟨T,h1,h2,h3.kept fun b hb=>⟨hk.block b (h3.at b hb).2 (hf b (h3.at b hb).2 (h3.at b hb).1),rfl⟩,h4,h5⟩,h.ow.mono hk.size,h.n1⟩
theorem bD.far{F:Nat→Prop}{p:Option Addr}{L:List (Int×Int)}{all:Int}{q' n:Nat}(h:bD own t w B q cs ty p L all)(hb:∃ty',w'.heap[B]?=some (.cells cs' ty' (0,0))∧ty'=ty)(hn:aT q' n cs cs')(hq:q+2<q'∨q'+n≤q)(hk:Kp F w w')(hf:∀b,b<w.heap.size→own b=t→¬F b)(he:aO own own' w)(ho:Ow own' w'):bD own' t w' B q cs' ty p L all:=by
 obtain⟨_,hb,rfl⟩:=hb;exact⟨hb,(hn.far _ (by omega)).trans h.c0,(hn.far _ (by omega)).trans h.c1,(hn.far _ (by omega)).trans h.c2,h.tr.kp hk hf he,ho,by rw[he B (am h.box)];exact h.n1⟩
theorem xO{G H:Prop}(hH:G→H)(hG:G):H:=hH hG
theorem iZ(x:Pl)(w:World):
  Calls prog 221 #[.agg (PA x)] w fun e w'=>e=.returned (.agg #[.int .i64 x.cl,.int .i64 x.de,.int .i64 x.fa])∧Below w.heap.size w w':=by
 have hb0:=zB w (.cells (PA x) 98);go_enter func221,ntmps221;go_wp2;refine Ux (v:=.agg #[.int .i64 x.cl,.int .i64 x.de,.int .i64 x.fa]) (by simp[results,results221,go_sem]) rfl ?_;exact⟨rfl,ae _ hb0⟩
structure ce(own:Nat→Nat)(tD tF:Nat)(w w':World)(B q:Nat)(cs:Array Value)(ty:TypeId)(M N:Nat)(l:List Pl):Prop where
 ex:∃own' cs' pD' pF' LD' LF',ga own' tD tF w' B q cs' ty M N pD' pF' LD' LF' l∧aT q 8 cs cs'∧aO own own' w
 km:Km (fun b=>b=B∨b=M∨b=N∨own b=tD∨own b=tF) w w'
theorem nM{w5 w6 w7:World}{own6 own7:Nat→Nat}{cs6 cs7:Array Value}{p6 p7:Option Addr}{LF' LD':List (Int×Int)}{aF aD:Int}{l':List Pl}(h:ga own tD tF w B q cs ty M N pD pF LD LF l)(hBM:B≠M)(hBN:B≠N)(hoM:own M≠tD∧own M≠tF)(hoN:own N≠tD∧own N≠tF)(htD:tD≠0)(htF:tF≠0)(hDF:tD≠tF)
  (k5:Km (fun b=>b=M∨b=N) w w5)(hM:eC w5 M (iB l'))(hN:iw w5 N (bH l'))(k6:eH own tF w5 w6 B (q+5) cs ty LF' aF own6 cs6 p6)(k7:eH own6 tD w6 w7 B (q+2) cs6 ty LD' aD own7 cs7 p7)
  (eF:aF=((cZ l').length:Nat))(eD:aD=((bT l').length:Nat))(tf:bL LF' (cZ l'))(td:bL LD' (bT l')):ce own tD tF w w7 B q cs ty M N l':=by
 subst eF eD;have hMw:=h.mkd.lt;have hNw:=h.mcl.lt;have z5:=k5.size;have z6:=k6.kp.size;have z7:=k7.kp.size;have hne:∀b,own b≠tD∧own b≠tF→b<w.heap.size→b≠B→¬(b=B∨own b=tF)∧¬(b=B∨own6 b=tD):=fun b e hb hB=>⟨fun hf=>hf.elim hB e.2,fun hf=>hf.elim hB (fun e2=>e.1 (by rw[←e2,k6.ext b (by omega)]))⟩;have hm:=hne M hoM hMw hBM.symm;have hn:=hne N hoN hNw hBN.symm;have hB6:own6 B=own B:=k6.ext B (by have:=am h.bd.box;omega);refine⟨⟨own7,cs7,p7,p6,LD',LF',⟨?_,?_,(hM.kp k6.kp.toKm hm.1).kp k7.kp.toKm hm.2,(hN.kp k6.kp.toKm hn.1).kp k7.kp.toKm hn.2,k7.st,?_,td,tf⟩,(k6.near.wide (by omega) (by omega)).trans (k7.near.wide (by omega) (by omega)),(fun b hb=>(k7.ext b (by omega)).trans (k6.ext b (by omega)))⟩,?_⟩
 ·exact(k7.near.far _ (by omega)).trans ((k6.near.far _ (by omega)).trans h.c0)
 ·exact(k7.near.far _ (by omega)).trans ((k6.near.far _ (by omega)).trans h.c1)
 ·refine k6.st.far ⟨_,k7.st.box,rfl⟩ k7.near (by omega) k7.kp (fun b hb e hf=>hf.elim (fun e2=>?_) (fun e2=>hDF (e2.symm.trans e))) k7.ext k7.st.ow;subst e2;exact k6.st.n1 e
 ·refine((k5.mono (fun b _ hf=>hf.elim (fun e=>.inr (.inl e)) (fun e=>.inr (.inr (.inl e))))).trans' k6.kp.toKm (fun b _ hf=>hf.elim .inl (fun e=>.inr (.inr (.inr (.inr e)))))).trans' k7.kp.toKm (fun b hb hf=>hf.elim .inl (fun e=>.inr (.inr (.inr (.inl (by rw[←k6.ext b (by omega)];exact e))))))
theorem qY(h:ga own tD tF w B q cs ty M N pD pF LD LF l)(x:Pl)(hx:x.Vd)(hl:l.length≤100000)(hd:0≤x.de)(hoM:own M≠tD∧own M≠tF)(hoN:own N≠tD∧own N≠tF)(htD:tD≠0)(htF:tF≠0)(hDF:tD≠tF)(hMN:M≠N):
  Calls prog 146 #[.pointer (some ⟨B,q,none⟩),.agg (PA x)] w fun e w'=>(∃v,e=.returned v)∧ce own tD tF w w' B q cs ty M N (x::l):=by
 obtain⟨w0,hw0⟩:∃w0,w0=w.alloc (.cells (PA x) 98):=⟨_,rfl⟩;have hnew:w0.heap[w.heap.size]?=some (.cells (PA x) 98 (0,0)):=by rw[hw0];exact Up _ _
 have hb0:Below w.heap.size w w0:=by rw[hw0];exact ae _ (Pk _ _)
 go_enter func146,ntmps146;go_wp2_with fail;rw[←hw0];clear hw0;have HBX:=zH h.bd.box;have HN:=zH hnew;refine zr (fun V=>V.heap[B]?=some (.cells cs ty (0,0))∧V.heap[w.heap.size]?=some (.cells (PA x) 98 (0,0))) ⟨af HBX.out hb0.drew,HN.out⟩ fun hS0=>?_;(refine zh hS0 6 5 0 ?_;simp only[zd];((iterate 5 (refine zt (fun W hW=>by obtain⟨hq,hn⟩:=hW;have c0:=(aa hq q).trans h.c0;have n0:=aa hn 0;have n1:=aa hn 1;have n2:=aa hn 2;have n3:=aa hn 3;have n4:=aa hn 4;have n5:=aa hn 5;exact zq) ?_;simp only[zp]));refine ac ?_));(refine zo 5 rfl fun K hK=>?_;go_simp);go_at_call 221;(with_reducible refine(iZ x _).mono ?_);rintro e1 w1 ⟨rfl,b1⟩;have B1:=ah b1 hb0.drew;have S1:w1.heap[B]?=some (.cells cs ty (0,0))∧w1.heap[w.heap.size]?=some (.cells (PA x) 98 (0,0)):=⟨af hS0.1 b1,af hS0.2 b1⟩;(refine zu hK S1 ?_;clear hK K;try simp only[zp]);have hM1:=h.mkd.below B1;have hlk:=hM1.look hx.kd;obtain⟨v,st,w2,he1,hM2,k2,z2,he2⟩:=hM1.entry hx.kd;have hlk2:=hM2.look hx.kd;obtain⟨w3,he3,hM3,k3,z3⟩:=he2 w2 (iB l (gC x)+1) rfl;dsimp only[Ej,gC]at hlk hlk2 he1 he3;have hMw:=h.mkd.lt;have hNw:=h.mcl.lt;have hBM:B≠M:=fun e=>by
  obtain⟨g,hm,_⟩:=h.mkd;exact N7
 have hBN:B≠N:=fun e=>by
  obtain⟨g,hm,_⟩:=h.mcl;exact N7
 have S2:w2.heap[B]?=some (.cells cs ty (0,0))∧w2.heap[w.heap.size]?=some (.cells (PA x) 98 (0,0)):=⟨k2.at S1.1 hBM,k2.at S1.2 (by omega)⟩;have S3:w3.heap[B]?=some (.cells cs ty (0,0))∧w3.heap[w.heap.size]?=some (.cells (PA x) 98 (0,0)):=⟨k3.at S2.1 hBM,k3.at S2.2 (by omega)⟩;have hkn:0≤iB l (x.cl,x.de,x.fa)∧iB l (x.cl,x.de,x.fa)≤l.length:=by
  have:=UO (a:=((x.cl,x.de,x.fa):Kd)) (l:=l.map gC);rw[Ur]at this;unfold iB;omega
 have hcn:0≤bH l x.cl∧bH l x.cl≤l.length:=by
  have:=UO (a:=x.cl) (l:=l.map (·.cl));rw[Ur]at this;unfold bH;omega
 have gw:=Qp (iB l (x.cl,x.de,x.fa)+1) (by omega);have gw2:=Qp (bH l x.cl+1) (by omega);have H:=zH h;clear h he2;apply xO
 ·intro HG;exact Ul
 go_wp2_with fail;have k13:Km (fun b=>b=M) w w3:=((Km.of_below _ B1).trans' k2 (fun b hb e=>e)).trans' k3 (fun b hb e=>e);have hC3:iw w3.drew N (bH l):=(H.out.mcl.kp k13 (fun e=>hMN e.symm)).below (Pk _ _).drew;have hM4:eC w3.drew M (fun a=>if a=gC x then iB l (gC x)+1 else iB l a):=hM3.below (Pk _ _).drew;have k4:=k13.drew
 replace S3:w3.drew.heap[B]?=some (.cells cs ty (0,0))∧w3.drew.heap[w.heap.size]?=some (.cells (PA x) 98 (0,0)):=S3
 (refine Tc 8 (by kernel_rfl) (by kernel_rfl) ?_;simp only[UJ,UN,QG,Qo];change wpStill _ _ (World.drew _) (fun a'=>wpList _ _ _ _ a' (World.drew _)) _ _);generalize w3.drew=w4 at hC3 hM4 k4 S3⊢;clear S1 S2 hlk hlk2 he1 he3 hM1 hM2 hM3 k2 k3 z2 z3 k13 gw hkn B1 b1 hS0;have c1:=(aa S3.1 (q+1)).trans H.out.c1;have n0:=aa S3.2 0;have n1:=aa S3.2 1;have n2:=aa S3.2 2;have n3:=aa S3.2 3;have n4:=aa S3.2 4;have n5:=aa S3.2 5;have hlk:=hC3.look hx.cl;obtain⟨w5,hrun,hC5,k5,z5⟩:=hC3.put hx.cl (bH l x.cl+1);((repeat still_step);(try refine Td ?_));go_wp2;have hzw:w.heap.size<w5.heap.size:=by have:=am S3.2;omega
 have k05:Km (fun b=>b=M∨b=N) w w5.drew:=((k4.mono (fun b _ e=>.inl e)).trans' k5 (fun b hb e=>.inr e)).drew;have hM5:eC w5.drew M (iB (x::l)):=by
  rw[rS];exact(hM4.kp k5 (fun e=>hMN e)).below (Pk _ _).drew
 have hN5:iw w5.drew N (bH (x::l)):=by
  rw[yX];exact hC5.below (Pk _ _).drew
 have ho:∀b,own b=tD∨own b=tF→¬(b=M∨b=N):=fun b hb hf=>hf.elim (fun e=>by subst e;exact hb.elim hoM.1 hoM.2) (fun e=>by subst e;exact hb.elim hoN.1 hoN.2);have bd5:=H.out.bd.km k05 (fun hf=>hf.elim hBM hBN) (fun b _ e=>ho b (.inl e));have bf5:=H.out.bf.km k05 (fun hf=>hf.elim hBM hBN) (fun b _ e=>ho b (.inr e));have hn5:w5.drew.heap[w.heap.size]?=some (.cells (PA x) 98 (0,0)):=k5.at S3.2 (by omega);have hown:own w.heap.size=0:=H.out.bd.ow _ (Po _);have HT:=zH H.out.tf;have HTD:=zH H.out.td;have HC0:=zH H.out.c0;have HC1:=zH H.out.c1;have hlf:(cZ l).length=l.length:=Ur ..;have hld:(bT l).length≤l.length:=by
  unfold bT;exact Oa
 have hlF:=HT.out.len;have hlD:=HTD.out.len;have hcF:0≤bt LF x.fa∧bt LF x.fa≤((cZ l).length:Nat):=by
  rw[HT.out.cnt];have:=UO (a:=x.fa) (l:=cZ l);omega
 have hcD:0≤bt LD x.de∧bt LD x.de≤((bT l).length:Nat):=by
  rw[HTD.out.cnt];have:=UO (a:=x.de) (l:=bT l);omega
 have hz5:w5.drew.heap.size=w5.heap.size:=rfl;have HX:=zH bf5;have HY:=zH bd5;refine zr (fun V=>V.heap[w.heap.size]?=some (.cells (PA x) 98 (0,0))) hn5 fun hS0=>?_;generalize w5.drew=w5' at*;clear hrun hlk c1 n0 n1 n2 n3 n4 n5 hC5 hC3 hM4 bd5 bf5 gw2 S3;(refine zh hS0 1 5 0 ?_;simp only[zd];((iterate 5 (refine zt (fun W hW=>by have n5:=aa hW 5;exact zq) ?_;simp only[zp]));refine ac ?_));(refine zo 5 rfl fun K hK=>?_;go_simp);go_at_call 223;(with_reducible refine(qH HX.out x.fa 1 (by omega) (by omega) (by omega) hcF).mono ?_);rintro e6 w6 ⟨own6,cs6,p6,rfl,k6⟩;have S6:w6.heap[w.heap.size]?=some (.cells (PA x) 98 (0,0)):=k6.kp.at hS0 (fun hf=>hf.elim (fun e=>by have:=am HBX.out;omega) (fun e=>htF (by rw[←e];exact hown)));(refine zu hK S6 ?_;clear hK K;try simp only[zp]);(refine ze ?_);have bd6:=HY.out.far ⟨_,k6.st.box,rfl⟩ k6.near (by omega) k6.kp (fun b hb e hf=>hf.elim (fun e2=>HY.out.n1 (by rw[←e2];exact e)) (fun e2=>hDF (e.symm.trans e2))) k6.ext k6.st.ow;have hTF:=HT.out.add x.fa;have hTD:=HTD.out.add x.de;have n3:=aa S6 3;have hlF2:(((cZ l).length:Nat):Int)+1=((cZ (x::l)).length:Nat):=by simp[cZ]
 by_cases hde:0<x.de
 ·have hdL:bT (x::l)=x.de::bT l:=by
   unfold bT;rw[US,Pj (by simpa using hde)];rfl
  go_wp2_with fail;refine zr (fun V=>V.heap[w.heap.size]?=some (.cells (PA x) 98 (0,0))) S6 fun hS1=>?_;clear n3;(refine zh hS1 1 5 0 ?_;simp only[zd];((iterate 5 (refine zt (fun W hW=>by have n3:=aa hW 3;exact zq) ?_;simp only[zp]));refine ac ?_));(refine zo 5 rfl fun K hK=>?_;go_simp);go_at_call 223;(with_reducible refine(qH bd6.drew x.de 1 (by omega) (by omega) (by omega) hcD).mono ?_);rintro e7 w7 ⟨own7,cs7,p7,rfl,k7⟩;have hS7:w7.heap[w.heap.size]?=some (.cells (PA x) 98 (0,0)):=k7.kp.at hS1 (fun hf=>hf.elim (fun e=>by have:=am HBX.out;omega) (fun e=>htD (by rw[←e,k6.ext _ (by omega)];exact hown)));(refine zu hK hS7 ?_;clear hK K;try simp only[zp]);(refine ze ?_);go_wp2_with fail;go_end0;exact⟨⟨_,rfl⟩,nM H.out hBM hBN hoM hoN htD htF hDF k05 hM5 hN5 k6 ⟨k7.st,k7.near,(Kp.refl _ w6).drew.trans k7.kp,k7.ext⟩ hlF2 (by rw[hdL];simp) hTF (by rw[hdL];exact hTD)⟩
 ·have hdL:bT (x::l)=bT l:=by
   unfold bT;rw[US,Pm (by simpa using hde)]
  go_wp2_with fail;go_end0;exact⟨⟨_,rfl⟩,nM H.out hBM hBN hoM hoN htD htF hDF k05 hM5 hN5 k6 ⟨bd6,⟨rfl,fun _ _=>rfl⟩,Kp.refl _ _,aO.refl _ _⟩ hlF2 (by rw[hdL]) hTF (by rw[hdL];exact HTD.out)⟩
end
section
variable{own own':Nat→Nat}{t tD tF:Nat}{w w':World}{B q:Nat}{cs cs':Array Value}{ty:TypeId}{M N:Nat}{pD pF:Option Addr}{LD LF:List (Int×Int)}{l:List Pl}
theorem GJ(x:Pl)(l:List Pl):(fun a=>if a=gC x then iB (x::l) (gC x) - 1 else iB (x::l) a)=iB l:=funext fun a=>by
 rw[rS];by_cases e:a=gC x
 ·subst e;simp
 ·simp[e]
theorem Im(x:Pl)(l:List Pl):(fun a=>if a=x.cl then bH (x::l) x.cl - 1 else bH (x::l) a)=bH l:=funext fun a=>by
 rw[yX];by_cases e:a=x.cl
 ·subst e;simp
 ·simp[e]
theorem ga.perm{l':List Pl}(h:ga own tD tF w B q cs ty M N pD pF LD LF l)(hp:l.Perm l'):ga own tD tF w B q cs ty M N pD pF LD LF l':=by
 have hd:(bT l).Perm (bT l'):=(hp.filter _).map _;have hf:(cZ l).Perm (cZ l'):=hp.map _;exact⟨h.c0,h.c1,by rw[←rR hp];exact h.mkd,by rw[←Il hp];exact h.mcl,by rw[←hd.length_eq];exact h.bd,by rw[←hf.length_eq];exact h.bf,h.td.perm hd,h.tf.perm hf⟩
theorem pU{P:Program}{o:Oper}{a:Act}{K:Act→World→Prop}{Q:Exit→Act→World→Prop}{w w':World}(m x:Operand)(t k:TypeId)(hop:o.op=Op.call {callee:=Callee.builtin Builtin.delete,args:=#[m,x],argTypes:=#[t,k]})
  {vm vx:Value}(hm:a.eval m=vm)(hx:a.eval x=vx)(hrun:(Builtin.delete_ #[t,k] o.type #[vm,vx]).run P w=.ok (.tuple #[]) w')(hK:K (a.put o.dst (.tuple #[])) w'):Oper.wp P o a w K Q:=by
 unfold Oper.wp;simp[execOp,hop,resolve,invoke,builtin,hm,hx,hrun,Result.andThen];exact hK
theorem xj(x:Pl)(h:ga own tD tF w B q cs ty M N pD pF LD LF (x::l))(hx:x.Vd)(hl:l.length≤100000)(hd:0≤x.de)(hoM:own M≠tD∧own M≠tF)(hoN:own N≠tD∧own N≠tF)(htD:tD≠0)(htF:tF≠0)(hDF:tD≠tF)(hMN:M≠N):
  Calls prog 145 #[.pointer (some ⟨B,q,none⟩),.agg (PA x)] w fun e w'=>(∃v,e=.returned v)∧ce own tD tF w w' B q cs ty M N l:=by
 obtain⟨w0,hw0⟩:∃w0,w0=w.alloc (.cells (PA x) 98):=⟨_,rfl⟩;have hnew:w0.heap[w.heap.size]?=some (.cells (PA x) 98 (0,0)):=by rw[hw0];exact Up _ _
 have hb0:Below w.heap.size w w0:=by rw[hw0];exact ae _ (Pk _ _)
 go_enter func145,ntmps145;go_wp2_with fail;rw[←hw0];clear hw0;have HBX:=zH h.bd.box;have HN:=zH hnew;refine zr (fun V=>V.heap[B]?=some (.cells cs ty (0,0))∧V.heap[w.heap.size]?=some (.cells (PA x) 98 (0,0))) ⟨af HBX.out hb0.drew,HN.out⟩ fun hS0=>?_;(refine zh hS0 6 5 0 ?_;simp only[zd];((iterate 5 (refine zt (fun W hW=>by obtain⟨hq,hn⟩:=hW;have c0:=(aa hq q).trans h.c0;have n0:=aa hn 0;have n1:=aa hn 1;have n2:=aa hn 2;have n3:=aa hn 3;have n4:=aa hn 4;have n5:=aa hn 5;exact zq) ?_;simp only[zp]));refine ac ?_));(refine zo 5 rfl fun K hK=>?_;go_simp);go_at_call 221;(with_reducible refine(iZ x _).mono ?_);rintro e1 w1 ⟨rfl,b1⟩;have B1:=ah b1 hb0.drew;have S1:w1.heap[B]?=some (.cells cs ty (0,0))∧w1.heap[w.heap.size]?=some (.cells (PA x) 98 (0,0)):=⟨af hS0.1 b1,af hS0.2 b1⟩;(refine zu hK S1 ?_;clear hK K;try simp only[zp]);have hM1:=h.mkd.below B1;have hlk:=hM1.look hx.kd;obtain⟨v,st,w2,he1,hM2,k2,z2,he2⟩:=hM1.entry hx.kd;have hlk2:=hM2.look hx.kd;obtain⟨w3,he3,hM3,k3,z3⟩:=he2 w2 (iB (x::l) (gC x) - 1) rfl;dsimp only[Ej,gC]at hlk hlk2 he1 he3;have hMw:=h.mkd.lt;have hNw:=h.mcl.lt;have hBM:B≠M:=fun e=>by
  obtain⟨g,hm,_⟩:=h.mkd;exact N7
 have hBN:B≠N:=fun e=>by
  obtain⟨g,hm,_⟩:=h.mcl;exact N7
 have S2:w2.heap[B]?=some (.cells cs ty (0,0))∧w2.heap[w.heap.size]?=some (.cells (PA x) 98 (0,0)):=⟨k2.at S1.1 hBM,k2.at S1.2 (by omega)⟩;have S3:w3.heap[B]?=some (.cells cs ty (0,0))∧w3.heap[w.heap.size]?=some (.cells (PA x) 98 (0,0)):=⟨k3.at S2.1 hBM,k3.at S2.2 (by omega)⟩;have hkn:0≤iB (x::l) (x.cl,x.de,x.fa)∧iB (x::l) (x.cl,x.de,x.fa)≤l.length+1:=by
  have:=UO (a:=((x.cl,x.de,x.fa):Kd)) (l:=(x::l).map gC);rw[Ur,PC]at this;unfold iB;omega
 have hcn:0≤bH (x::l) x.cl∧bH (x::l) x.cl≤l.length+1:=by
  have:=UO (a:=x.cl) (l:=(x::l).map (·.cl));rw[Ur,PC]at this;unfold bH;omega
 have gw:=Qp (iB (x::l) (x.cl,x.de,x.fa) - 1) (by omega);have gw2:=Qp (bH (x::l) x.cl - 1) (by omega);have H:=zH h;clear h he2;apply xO
 ·intro HG;exact Ul
 go_wp2_with fail;have k13:Km (fun b=>b=M) w w3:=((Km.of_below _ B1).trans' k2 (fun b hb e=>e)).trans' k3 (fun b hb e=>e);have hC3:iw w3.drew N (bH (x::l)):=(H.out.mcl.kp k13 (fun e=>hMN e.symm)).below (Pk _ _).drew;have hM4:eC w3.drew M (iB l):=by
  have:=hM3.below (Pk _ _).drew;rw[GJ]at this;exact this
 have k4:=k13.drew
 replace S3:w3.drew.heap[B]?=some (.cells cs ty (0,0))∧w3.drew.heap[w.heap.size]?=some (.cells (PA x) 98 (0,0)):=S3
 (refine Tc 8 (by kernel_rfl) (by kernel_rfl) ?_;simp only[UJ,UN,QG,Qo];change wpStill _ _ (World.drew _) (fun a'=>wpList _ _ _ _ a' (World.drew _)) _ _);generalize w3.drew=w4 at hC3 hM4 k4 S3⊢;clear S1 S2 hlk hlk2 he1 he3 hM1 hM2 hM3 k2 k3 z2 z3 k13 gw hkn B1 b1 hS0;have c1:=(aa S3.1 (q+1)).trans H.out.c1;have n0:=aa S3.2 0;have n1:=aa S3.2 1;have n2:=aa S3.2 2;have n3:=aa S3.2 3;have n4:=aa S3.2 4;have n5:=aa S3.2 5;have hlk:=hC3.look hx.cl;obtain⟨w5,hrun,hC5,k5,z5⟩:=hC3.put hx.cl (bH (x::l) x.cl - 1);((repeat still_step);(try refine Td ?_));go_wp2;have hzw:w.heap.size<w5.heap.size:=by have:=am S3.2;omega
 have k05:Km (fun b=>b=M∨b=N) w w5.drew:=((k4.mono (fun b _ e=>.inl e)).trans' k5 (fun b hb e=>.inr e)).drew;have hM5:eC w5.drew M (iB l):=(hM4.kp k5 (fun e=>hMN e)).below (Pk _ _).drew;have hN5:iw w5.drew N (bH l):=by
  rw[Im]at hC5;exact hC5.below (Pk _ _).drew
 have S5:w5.drew.heap[B]?=some (.cells cs ty (0,0))∧w5.drew.heap[w.heap.size]?=some (.cells (PA x) 98 (0,0)):=⟨k5.at S3.1 hBN,k5.at S3.2 (by omega)⟩;have HC0:=zH H.out.c0;refine zr (fun V=>eC V M (iB l)∧V.heap[B]?=some (.cells cs ty (0,0))∧V.heap[w.heap.size]?=some (.cells (PA x) 98 (0,0))) ⟨hM5,S5⟩ fun hS0=>?_;have hz5:w5.drew.heap.size=w5.heap.size:=rfl;generalize w5.drew=w6 at*;clear hrun hlk c1 n0 n1 n2 n3 n4 n5 hC5 hC3 hM4 gw2 S3 S5 hM5;(refine zh hS0 3 5 0 ?_;simp only[zd];((iterate 5 (refine zt (fun W hW=>by obtain⟨_,hq,hn⟩:=hW;have c0:=(aa hq q).trans HC0.out;have n0:=aa hn 0;have n1:=aa hn 1;have n2:=aa hn 2;have n3:=aa hn 3;have n4:=aa hn 4;have n5:=aa hn 5;exact zq) ?_;simp only[zp]));refine ac ?_));(refine zo 5 rfl fun K hK=>?_;go_simp);go_at_call 221;(with_reducible refine(iZ x _).mono ?_);rintro e7 w7 ⟨rfl,b7⟩;have S7:eC w7 M (iB l)∧w7.heap[B]?=some (.cells cs ty (0,0))∧w7.heap[w.heap.size]?=some (.cells (PA x) 98 (0,0)):=⟨hS0.1.below b7,af hS0.2.1 b7,af hS0.2.2 b7⟩;(refine zu hK S7 ?_;clear hK K;try simp only[zp]);(refine zh S7 0 2 6 ?_;simp only[zd];((iterate 2 (refine zt (fun W hW=>by have hlk:=hW.1.look hx.kd;dsimp only[Ej,gC]at hlk;exact zq) ?_;simp only[zp]));refine ac ?_));(refine ze ?_);have k07:Km (fun b=>b=M∨b=N) w w7:=k05.trans' (Km.of_below (fun _=>False) b7) (fun b _ e=>e.elim);have hN7:=hN5.below b7;have hz7:=b7.size;have ho:∀b,own b=tD∨own b=tF→¬(b=M∨b=N):=fun b hb hf=>hf.elim (fun e=>by subst e;exact hb.elim hoM.1 hoM.2) (fun e=>by subst e;exact hb.elim hoN.1 hoN.2);have hown:own w.heap.size=0:=H.out.bd.ow _ (Po _);have HT:=zH H.out.tf;have HTD:=zH H.out.td;have hlf:(cZ (x::l)).length=l.length+1:=by simp[cZ]
 have hld:(bT (x::l)).length≤l.length+1:=by
  unfold bT;exact Oa
 have hlF:=HT.out.len;have hlD:=HTD.out.len;have hcF:0≤bt LF x.fa∧bt LF x.fa≤((cZ (x::l)).length:Nat):=by
  rw[HT.out.cnt];have:=UO (a:=x.fa) (l:=cZ (x::l));omega
 have hcF1:1≤bt LF x.fa:=by
  rw[HT.out.cnt,cZ,UA,Vv];omega
 have hcD:0≤bt LD x.de∧bt LD x.de≤((bT (x::l)).length:Nat):=by
  rw[HTD.out.cnt];have:=UO (a:=x.de) (l:=bT (x::l));omega
 by_cases h0:iB l (x.cl,x.de,x.fa)=0
 case' pos=>
  have h0b:(iB l (x.cl,x.de,x.fa)==0)=true:=by simpa using h0
  go_wp2_with fail;refine zr (fun V=>V.heap[B]?=some (.cells cs ty (0,0))∧V.heap[w.heap.size]?=some (.cells (PA x) 98 (0,0))) S7.2 fun hS1=>?_;(refine zh hS1 2 5 0 ?_;simp only[zd];((iterate 5 (refine zt (fun W hW=>by obtain⟨hq,hn⟩:=hW;have c0:=(aa hq q).trans HC0.out;have n0:=aa hn 0;have n1:=aa hn 1;have n2:=aa hn 2;have n3:=aa hn 3;have n4:=aa hn 4;have n5:=aa hn 5;exact zq) ?_;simp only[zp]));refine ac ?_));(refine zo 5 rfl fun K hK=>?_;go_simp);go_at_call 221;(with_reducible refine(iZ x _).mono ?_);rintro e9 w9 ⟨rfl,b9⟩;have b79:=ah b9 (Pk _ w7).drew;have T9:w9.heap[B]?=some (.cells cs ty (0,0))∧w9.heap[w.heap.size]?=some (.cells (PA x) 98 (0,0)):=⟨af S7.2.1 b79,af S7.2.2 b79⟩;(refine zu hK T9 ?_;clear hK K;try simp only[zp]);obtain⟨w8,hrun,hM8,k8,z8⟩:=(S7.1.below b79).del hx.kd h0 0;have S8:w8.heap[B]?=some (.cells cs ty (0,0))∧w8.heap[w.heap.size]?=some (.cells (PA x) 98 (0,0)):=⟨k8.at T9.1 hBM,k8.at T9.2 (by omega)⟩;refine zo 6 rfl fun K hK=>?_;refine pU _ _ _ _ rfl rfl rfl hrun ?_;(refine zu hK S8 ?_;clear hK K;try simp only[zp]);(refine ze ?_);have hN8:=(hN7.below b79).kp k8 (fun e=>hMN e.symm);have k08:Km (fun b=>b=M∨b=N) w w8:=(k07.trans' (Km.of_below (fun _=>False) b79) (fun b _ e=>e.elim)).trans' k8 (fun b _ e=>.inl e);clear hrun z8 k8 T9 b79 b9 S7 h0b h0 hN7 k07;go_wp2_with fail
 case' neg=>
  have h0b:(iB l (x.cl,x.de,x.fa)==0)=false:=by simpa using h0
  obtain⟨w8,rfl⟩:∃w8,w8=w7:=⟨_,rfl⟩;obtain⟨hM8,S8⟩:=S7;have hN8:=hN7;have k08:=k07;go_wp2_with fail;clear h0b h0 hN7 k07
 all_goals
  have hzw8:w.heap.size<w8.heap.size:=by have:=am S8.2;omega
  have bd8:=(H.out.bd.km k08 (fun hf=>hf.elim hBM hBN) (fun b _ e=>ho b (.inl e))).drew;have bf8:=(H.out.bf.km k08 (fun hf=>hf.elim hBM hBN) (fun b _ e=>ho b (.inr e))).drew;have kd8:=k08.drew;have hMd:eC w8.drew M (iB l):=hM8.below (Pk _ _).drew;have hNd:iw w8.drew N (bH l):=hN8.below (Pk _ _).drew;have hz8:w8.drew.heap.size=w8.heap.size:=rfl;refine zr (fun V=>V.heap[w.heap.size]?=some (.cells (PA x) 98 (0,0))) S8.2 fun hS2=>?_;generalize w8.drew=w9 at*;(refine zh hS2 1 5 0 ?_;simp only[zd];((iterate 5 (refine zt (fun W hW=>by have n5:=aa hW 5;exact zq) ?_;simp only[zp]));refine ac ?_));(refine zo 5 rfl fun K hK=>?_;go_simp);go_at_call 222;(with_reducible refine(sH bf8 x.fa 1 (by omega) (by omega) ⟨by omega,hcF1⟩ hcF).mono ?_);rintro eA wA ⟨ownA,csA,pA,rfl,kA⟩;have SAq:wA.heap[w.heap.size]?=some (.cells (PA x) 98 (0,0)):=kA.kp.at hS2 (fun hf=>hf.elim (fun e=>by have:=am HBX.out;omega) (fun e=>htF (by rw[←e];exact hown)));(refine zu hK SAq ?_;clear hK K;try simp only[zp]);(refine ze ?_);have bdA:=bd8.far ⟨_,kA.st.box,rfl⟩ kA.near (by omega) kA.kp (fun b hb e hf=>hf.elim (fun e2=>bd8.n1 (by rw[←e2];exact e)) (fun e2=>hDF (e.symm.trans e2))) kA.ext kA.st.ow;have hTF:=HT.out.take x.fa;have n3:=aa SAq 3;have hlF2:(((cZ (x::l)).length:Nat):Int) - 1=((cZ l).length:Nat):=by simp[cZ]
  by_cases hde:0<x.de
  ·have hdL:bT (x::l)=x.de::bT l:=by
    unfold bT;rw[US,Pj (by simpa using hde)];rfl
   have hTD:bL (iF LD x.de (bt LD x.de - 1)) (bT l):=by
    have:=HTD.out;rw[hdL]at this;exact this.take x.de
   have hcD1:1≤bt LD x.de:=by
    rw[HTD.out.cnt,hdL,Vv];omega
   go_wp2_with fail;refine zr (fun V=>V.heap[w.heap.size]?=some (.cells (PA x) 98 (0,0))) SAq fun hS1=>?_;clear n3;(refine zh hS1 1 5 0 ?_;simp only[zd];((iterate 5 (refine zt (fun W hW=>by have n3:=aa hW 3;exact zq) ?_;simp only[zp]));refine ac ?_));(refine zo 5 rfl fun K hK=>?_;go_simp);go_at_call 222;(with_reducible refine(sH bdA.drew x.de 1 (by omega) (by omega) ⟨by omega,hcD1⟩ hcD).mono ?_);rintro eB wB ⟨ownB,csB,pB,rfl,kB⟩;have SB:wB.heap[w.heap.size]?=some (.cells (PA x) 98 (0,0)):=kB.kp.at hS1 (fun hf=>hf.elim (fun e=>by have:=am HBX.out;omega) (fun e=>htD (by rw[←e,kA.ext _ (by omega)];exact hown)));(refine zu hK SB ?_;clear hK K;try simp only[zp]);(refine ze ?_);go_wp2_with fail;go_end0;exact⟨⟨_,rfl⟩,nM H.out hBM hBN hoM hoN htD htF hDF kd8 hMd hNd kA ⟨kB.st,kB.near,(Kp.refl _ wA).drew.trans kB.kp,kB.ext⟩ hlF2 (by rw[hdL];simp) hTF hTD⟩
  ·have hdL:bT (x::l)=bT l:=by
    unfold bT;rw[US,Pm (by simpa using hde)]
   go_wp2_with fail;go_end0;exact⟨⟨_,rfl⟩,nM H.out hBM hBN hoM hoN htD htF hDF kd8 hMd hNd kA ⟨bdA,⟨rfl,fun _ _=>rfl⟩,Kp.refl _ _,aO.refl _ _⟩ hlF2 (by rw[hdL]) hTF (by rw[←hdL];exact HTD.out)⟩
end
def sK(w:World)(A:Option Addr)(l:List Pl):Prop:=
 ∀k x,l[k]?=some x→∃g,A=some ⟨g,0,none⟩∧g<w.heap.size∧∀j u,(iq x)[j]?=some u→w.cell? ⟨g,k*6+j,none⟩=some u
theorem sK.km{F:Nat→Prop}{w w':World}{A:Option Addr}{l:List Pl}(h:sK w A l)(hk:Km F w w')(hf:∀g,A=some ⟨g,0,none⟩→¬F g):sK w' A l:=fun k x hx=>by
 obtain⟨g,rfl,hg,hc⟩:=h k x hx;refine⟨g,rfl,Ut hg hk.size,fun j u hu=>?_⟩;rw[←hc j u hu];simp only[World.cell?,hk.block g hg (hf g rfl)]
theorem Li(l:List Pl):∀{k:Nat} {x:Pl},l[k]?=some x→∀j u,(iq x)[j]?=some u→(l.flatMap iq)[k*6+j]?=some u:=by
 induction l with
 |nil=>intro k x h;simp at h
 |cons y r ih=>
  intro k x h j u hu;have hl:(iq y).length=6:=rfl;rw[UR];cases k with
  |zero=>
   simp only[VK,Option.some.injEq]at h;subst h;rw[VM (by have:=(Qh.1 hu).1;omega)];simpa using hu
  |succ k=>
   simp only[List.getElem?_cons_succ]at h;rw[Vg (by rw[hl];omega),hl,show(k+1)*6+j - 6=k*6+j by omega];exact ih h j u hu
theorem qz{w:World}{base:Nat}{e:TypeId}{v:Value}{l:List Pl}(h:w.ownsRow base e 6 v l.length (l.flatMap iq)):∃A c,v=.slice A l.length c∧sK w A l∧∀g,A=some ⟨g,0,none⟩→base≤g∧g<w.heap.size:=by
 rcases fq h with⟨rfl,h0⟩ |⟨g,cap,rfl,h1,h2,h3,h4⟩
 ·have:l=[]:=QW h0;subst this;exact⟨none,0,rfl,fun k x hk=>by simp at hk,fun g e=>by cases e⟩
 ·refine⟨_,cap,rfl,fun k x hk=>⟨g,rfl,h3,fun j u hu=>?_⟩,fun g' e=>by cases e;exact⟨h4,h3⟩⟩;have:=h.cells (g:=g) rfl (k*6+j) u (Li l hk j u hu);have e1:(⟨g,0,none⟩:Addr).add (k*6+j)=⟨g,k*6+j,none⟩:=by unfold Addr.add;split<;>simp_all
  rwa [e1]at this
section
variable{own own':Nat→Nat}{t tD tF:Nat}{w w':World}{B q:Nat}{cs cs':Array Value}{ty:TypeId}{M N:Nat}{pD pF:Option Addr}{LD LF:List (Int×Int)}{P:List Pl}
theorem GI{l:List Pl}{k:Nat}{x:Pl}(hk:l[k]?=some x):(fun a=>if a=gC x then iB (l.take k) (gC x)+1 else iB (l.take k) a)=iB (l.take (k+1)):=by
 rw[←rS,PO,hk];exact rR (by simpa using(List.perm_append_comm (l₁:=[x]) (l₂:=l.take k)))
theorem LJ{l P R:List Pl}(h:P.Perm (l++R))(k:Nat)(a:Kd):iB (l.take k) a≤iB P a:=by
 rw[rR h];unfold iB;rw[PU,Si];have:((l.take k).map gC).Sublist (l.map gC):=(List.take_sublist k l).map _;have:=this.count_le a;omega
theorem JT(l:List Pl)(a:Kd):0≤iB l a∧iB l a≤l.length:=by
 have:=UO (a:=a) (l:=l.map gC);rw[Ur]at this;unfold iB;omega
theorem MC{u v:World}{a b:Nat}{f1 f2:Kd→Int}{o1 o2:Obj}{B1 B2:Nat}(h:(eC u a f1∧eC u b f2)∧u.heap[B1]?=some o1∧u.heap[B2]?=some o2)(hb:Below u.heap.size u v):(eC v a f1∧eC v b f2)∧v.heap[B1]?=some o1∧v.heap[B2]?=some o2:=
 ⟨⟨h.1.1.below hb,h.1.2.below hb⟩,af h.2.1 hb,af h.2.2 hb⟩
theorem DE(h:ga own tD tF w B q cs ty M N pD pF LD LF P)(A:Option Addr)(c:Nat)(l R:List Pl)(hp:P.Perm (l++R))(hx:∀x∈l,x.Vd)(hm:l.length≤100000)(hr:sK w A l):
  Calls prog 144 #[.pointer (some ⟨B,q,none⟩),.slice A l.length c] w fun e w'=>e=.returned (.bool true)∧Below w.heap.size w w':=by
 have HR:=zH (fun wr (hk:Below w.heap.size w wr)=>hr.km (Km.of_below (fun _=>False) hk) (fun _ _ hf=>hf));have HX:=zH hx;have H:=zH h;have HP:=zH (fun k a=>LJ hp k a);clear hr hx h hp;have hmk:=QT (P:=prog) 47 w;go_enter func144,ntmps144;go_wp2_with fail;go_loopw [11] (fun i wr=>∃k:Nat,k≤l.length∧i=.int .i64 k∧eC wr w.heap.size (iB (l.take k))∧Below w.heap.size w wr) (fun i _=>l.length - (intOf i).toNat)
 case atStart=>exact⟨0,by omega,rfl,tY w,ae _ (Pk _ _)⟩
 case round=>
  obtain⟨k,hk,rfl,hM,hb⟩:=hrel;by_cases hlt:k<l.length
  ·obtain⟨x,hk'⟩:=zg hlt;obtain⟨g,rfl,hg,hc⟩:=HR.out _ hb k x hk';have hv:=HX.out x (Pv hk');have e0:=hc 0 _ rfl;have e1:=hc 1 _ rfl;have e2:=hc 2 _ rfl;have e3:=hc 3 _ rfl;have e4:=hc 4 _ rfl;have e5:=hc 5 _ rfl;rw[Ru]at e0;have hi1:(k:Int)< (l.length:Int):=by omega
   obtain⟨w0,hw0⟩:∃w0,w0=wr.alloc (.cells (PA x) 98):=⟨_,rfl⟩;have hn0:w0.heap[wr.heap.size]?=some (.cells (PA x) 98 (0,0)):=by rw[hw0];exact Up _ _
   have hb0:Below wr.heap.size wr w0:=by rw[hw0];exact ae _ (Pk _ _)
   have hsz:=hb.size;have hMw:=hM.lt;go_wp2_with fail;rw[←hw0];clear hw0 e0 e1 e2 e3 e4 e5 hc;refine zr (fun V=>V.heap[wr.heap.size]?=some (.cells (PA x) 98 (0,0))) hn0 fun hS0=>?_;(refine zh hS0 6 2 0 ?_;simp only[zd];((iterate 2 (refine zt (fun W hW=>by have n0:=aa hW;exact zq) ?_;simp only[zp]));refine ac ?_));(refine zo 2 rfl fun K hK=>?_;go_simp);go_at_call 221;(with_reducible refine(iZ x _).mono ?_);rintro e1 w1 ⟨rfl,b1⟩;have B1:=ah b1 hb0.drew;have S1:w1.heap[wr.heap.size]?=some (.cells (PA x) 98 (0,0)):=af hS0 b1;(refine zu hK S1 ?_;clear hK K;try simp only[zp]);have hM1:=hM.below B1;have hlk:=hM1.look hv.kd;obtain⟨v,st,w2,he1,hM2,k2,z2,he2⟩:=hM1.entry hv.kd;have hlk2:=hM2.look hv.kd;obtain⟨w3,he3,hM3,k3,z3⟩:=he2 w2 (iB (l.take k) (gC x)+1) rfl;dsimp only[Ej,gC]at hlk hlk2 he1 he3;have S2:w2.heap[wr.heap.size]?=some (.cells (PA x) 98 (0,0)):=k2.at S1 (by omega);have S3:w3.heap[wr.heap.size]?=some (.cells (PA x) 98 (0,0)):=k3.at S2 (by omega);have hkn:=JT (l.take k) (x.cl,x.de,x.fa);have htl:(l.take k).length≤l.length:=by rw[UD];omega
   have gw:=Qp (iB (l.take k) (x.cl,x.de,x.fa)+1) (by omega);have hM4:=hM3;rw[GI hk']at hM4;clear he2;apply xO
   ·intro HG;refine aU 3 5 (by kernel_rfl) rfl rfl (fun K hK=>?_) (fun K hK=>?_)
    ·rw[Pj (by rfl)];go_simp;(refine zu hK S1 ?_;clear hK K;try simp only[zp]);(refine zh S1 3 1 4 ?_;simp only[zd];((iterate 1 (refine zU ?_;simp only[zp]));refine ac ?_));(refine zo 5 rfl fun K hK=>?_;go_simp);(refine zu hK S2 ?_;clear hK K;try simp only[zp]);(refine zh S2 1 1 6 ?_;simp only[zd];((iterate 1 (refine zU ?_;simp only[zp]));refine ac ?_));(refine zo 7 rfl fun K hK=>?_;go_simp);exact Ww
    ·rw[Pj (by rfl)];go_simp;(refine zu hK S2 ?_;clear hK K;try simp only[zp]);(refine zh S2 3 1 6 ?_;simp only[zd];((iterate 1 (refine zU ?_;simp only[zp]));refine ac ?_));(refine zo 3 rfl fun K hK=>?_;go_simp);(refine zu hK S2 ?_;clear hK K;try simp only[zp]);(refine zh S2 1 1 4 ?_;simp only[zd];((iterate 1 (refine zU ?_;simp only[zp]));refine ac ?_));(refine zo 7 rfl fun K hK=>?_;go_simp);exact Ww
   have b3:Below w.heap.size w w3:=((hb.trans (B1.mono hsz)).trans (k2.below (fun b hb e=>by omega) (by have:=B1.size;omega))).trans (k3.below (fun b hb e=>by omega) (by have:=B1.size;omega));have hMP:=H.out.mkd.below b3;have HLE:=zH (HP.out (k+1) (x.cl,x.de,x.fa));have hbx3:=af H.out.bd.box b3;have HC0:=zH H.out.c0;clear S1 S2 hlk hlk2 he1 he3 hM1 hM2 hM3 k2 k3 z2 z3 gw hkn B1 b1 hS0 hM;have gd:decide (iB P (x.cl,x.de,x.fa)<iB (l.take (k+1)) (x.cl,x.de,x.fa))=false:=UM (by have:=HLE.out;omega);have HGD:=zH gd;clear gd;go_wp2_with fail;refine zr (fun V=>(eC V w.heap.size (iB (l.take (k+1)))∧eC V M (iB P))∧V.heap[B]?=some (.cells cs ty (0,0))∧V.heap[wr.heap.size]?=some (.cells (PA x) 98 (0,0))) ⟨⟨hM4.below (Pk _ _).drew,hMP.below (Pk _ _).drew⟩,hbx3,S3⟩ fun hS0=>?_;have b4:=b3.drew;generalize w3.drew=w4 at*;clear hM4 hMP hbx3 S3 hlt;(refine zh hS0 11 5 0 ?_;simp only[zd];((iterate 5 (refine zt (fun W hW=>by obtain⟨_,_,hn⟩:=hW;have n0:=aa hn;exact zq) ?_;simp only[zp]));refine ac ?_));(refine zh hS0 6 5 7 ?_;simp only[zd];((iterate 5 (refine zt (fun W hW=>by obtain⟨_,hq,hn⟩:=hW;have c0:=(aa hq q).trans HC0.out;have n0:=aa hn;exact zq) ?_;simp only[zp]));refine ac ?_));(refine zo 5 rfl fun K hK=>?_;go_simp);go_at_call 221;(with_reducible refine(iZ x _).mono ?_);rintro e5 w5 ⟨rfl,b5⟩;have S5:=MC hS0 b5;(refine zu hK S5 ?_;clear hK K;try simp only[zp]);(refine zh S5 4 1 6 ?_;simp only[zd];((iterate 1 (refine zt (fun W hW=>by have hlk:=hW.1.1.look hv.kd;dsimp only[Ej,gC]at hlk;exact zq) ?_;simp only[zp]));refine ac ?_));(refine zo 12 rfl fun K hK=>?_;go_simp);go_at_call 221;(with_reducible refine(iZ x _).mono ?_);rintro e6 w6 ⟨rfl,b6⟩;have S6:=MC S5 b6;(refine zu hK S6 ?_;clear hK K;try simp only[zp]);(refine zh S6 0 3 13 ?_;simp only[zd];((iterate 3 (refine zt (fun W hW=>by have hlk:=hW.1.2.look hv.kd;dsimp only[Ej,gC]at hlk;have gd:=HGD.out;exact zq) ?_;simp only[zp]));refine ac ?_));(refine ze ?_);have b7:=ah b6 b5;go_wp2_with fail;exact⟨⟨k+1,by omega,by go_num,hS0.1.1.below b7,b4.trans (b7.mono b4.size)⟩,by simp[intOf];omega⟩
  ·obtain rfl:k=l.length:=by omega
   exact WA
end
section
variable{own own':Nat→Nat}{t tD tF:Nat}{w w' w1 w2:World}{B q:Nat}{cs cs':Array Value}{ty:TypeId}{M N:Nat}{pD pF:Option Addr}{LD LF:List (Int×Int)}{P l l':List Pl}
theorem bD.below'{p:Option Addr}{L:List (Int×Int)}{all:Int}(h:bD own t w B q cs ty p L all)(hb:Below w.heap.size w w'):bD own t w' B q cs ty p L all:=h.km (Km.of_below (fun _=>False) hb) id (fun _ _ _=>id)
theorem ga.below(h:ga own tD tF w B q cs ty M N pD pF LD LF l)(hb:Below w.heap.size w w'):ga own tD tF w' B q cs ty M N pD pF LD LF l:=
 ⟨h.c0,h.c1,h.mkd.below hb,h.mcl.below hb,h.bd.below' hb,h.bf.below' hb,h.td,h.tf⟩
theorem ce.of(h:ga own tD tF w B q cs ty M N pD pF LD LF l)(hb:Below w.heap.size w w'):ce own tD tF w w' B q cs ty M N l:=
 ⟨⟨_,_,_,_,_,_,h.below hb,aT.refl _ _ _,aO.refl _ _⟩,Km.of_below _ hb⟩
theorem ce.join{own1:Nat→Nat}{cs1:Array Value}(n1:aT q 8 cs cs1)(e1:aO own own1 w)(k1:Km (fun b=>b=B∨b=M∨b=N∨own b=tD∨own b=tF) w w1)(h:ce own1 tD tF w1 w2 B q cs1 ty M N l):ce own tD tF w w2 B q cs ty M N l:=by
 obtain⟨⟨own2,cs2,p3,p4,L3,L4,s2,n2,e2⟩,k2⟩:=h;exact⟨⟨own2,cs2,p3,p4,L3,L4,s2,n1.trans n2,e1.trans e2 k1.size⟩,k1.trans' k2 (fun b hb hf=>by
  rw[e1 b hb]at hf;exact hf)⟩
theorem AD(M:Nat)(w:World):(binOp BinOp.eql 47 (.map (some M)) (.map none)).run prog w=.ok (.bool false) w:=V7 w _ _ _ (some M) VO
theorem JL(w:World):(binOp BinOp.eql 47 (.map none) (.map none)).run prog w=.ok (.bool true) w:=V7 w _ _ _ none VO
theorem zQ(A:Option Addr)(c:Nat)(w:World):
  Calls prog 144 #[.pointer (some ⟨B,q,none⟩),.slice A 0 c] w fun e w'=>e=.returned (.bool true)∧Below w.heap.size w w':=by
 have hmk:=QT (P:=prog) 47 w;go_enter func144,ntmps144;go_wp2_with fail;go_loopw [11] (fun i wr=>i=.int .i64 0∧Below w.heap.size w wr) (fun _ _=>0)
 case atStart=>exact⟨rfl,ae _ (Pk _ _)⟩
 case round=>
  obtain⟨rfl,hb⟩:=hrel;exact WA
theorem vw(h:ga own tD tF w B q cs ty M N pD pF LD LF P)(hoM:own M≠tD∧own M≠tF)(hoN:own N≠tD∧own N≠tF)(hM0:own M≠0)(hN0:own N≠0)(htD:tD≠0)(htF:tF≠0)(hDF:tD≠tF)(hMN:M≠N)
  (Ao Ai:Option Addr)(c1 c2:Nat)(go co R:List Pl)(hp:P.Perm (go++R))(hgo:∀x∈go,x.Vd∧0≤x.de)(hco:∀x∈co,x.Vd∧0≤x.de)(hm:P.length≤50000)(hm2:co.length≤50000)(hro:sK w Ao go)(hri:sK w Ai co)(hAo:∀g,Ao=some ⟨g,0,none⟩→own g=0∧g≠B)(hAi:∀g,Ai=some ⟨g,0,none⟩→own g=0∧g≠B):
  Calls prog 86 #[.pointer (some ⟨B,q,none⟩),.agg #[.slice Ao go.length c1,.slice Ai co.length c2]] w fun e w'=>e=.returned (.bool true)∧ce own tD tF w w' B q cs ty M N (co.reverse++R):=by
 have hlen:=hp.length_eq;rw[Pu]at hlen;have b0:Below w.heap.size w (w.alloc (.cells #[.slice Ao go.length c1,.slice Ai co.length c2] 207)):=ae _ (Pk _ _);have n0:=Up w (.cells #[.slice Ao go.length c1,.slice Ai co.length c2] 207);obtain⟨w0,hw0⟩:∃w0,w0=w.alloc (.cells #[.slice Ao go.length c1,.slice Ai co.length c2] 207):=⟨_,rfl⟩;rw[←hw0]at b0 n0;have HH:=zH (DE (h.below b0) Ao c1 go R hp (fun x hx=>(hgo x hx).1) (by omega) (hro.km (Km.of_below (fun _=>False) b0) (fun _ _=>id)));have hBw:=am h.bd.box;have hMw:=h.mkd.lt;have hNw:=h.mcl.lt;have hso:own w.heap.size=0:=h.bd.ow _ (Po _);have HN0:=zH n0;have HF:=zH (fun b (hb:own b=0∧b≠B) (hf:b=B∨b=M∨b=N∨own b=tD∨own b=tF)=>show False by
  rcases hf with e |e |e |e |e
  ·exact hb.2 e
  ·exact hM0 (by rw[←e];exact hb.1)
  ·exact hN0 (by rw[←e];exact hb.1)
  ·exact htD (by rw[←e];exact hb.1)
  ·exact htF (by rw[←e];exact hb.1))
 have HRO:=zH (fun wr (hk:Km (fun b=>b=B∨b=M∨b=N∨own b=tD∨own b=tF) w wr)=>hro.km hk (fun g e=>HF.out g (hAo g e)));have HRI:=zH (fun wr (hk:Km (fun b=>b=B∨b=M∨b=N∨own b=tD∨own b=tF) w wr)=>hri.km hk (fun g e=>HF.out g (hAi g e)));have HGO:=zH hgo;have HCO:=zH hco;have H:=zH (h.perm hp);have hc0:=(aa (af h.bd.box b0) q).trans h.c0;have HB0:=zH b0;clear hgo hco hro hri hAo hAi h n0 b0;go_enter func86,ntmps86;go_wp2_with fail;rw[←hw0];clear hw0;(with_reducible refine(HH.out).mono ?_);rintro e1 w1 ⟨rfl,b1⟩;have B1:=ah b1 HB0.out;have z1:w.heap.size≤w1.heap.size:=B1.size;have hn1:=af HN0.out b1;have H1:=zH (H.out.below B1);have hc1:=(aa H1.out.bd.box q).trans H1.out.c0;have t0:=aa hn1 0;have t1:=aa hn1 1;have HRO:=zH (fun wr hk=>HRO.out wr ((Km.of_below _ B1).trans' hk (fun b _ e=>e)));have HRI:=zH (fun wr hk=>HRI.out wr ((Km.of_below _ B1).trans' hk (fun b _ e=>e)));have HB1:=zH B1;clear B1 b1 HB0 H;have hnn:=AD M w1;go_wp2_with fail;clear hnn;go_loopw [42] (fun i wr=>∃k:Nat,k≤go.length∧i=.int .i64 k∧ce own tD tF w1 wr B q cs ty M N (go.drop k++R)) (fun i _=>go.length - (intOf i).toNat)
 case atStart=>exact⟨0,by omega,rfl,ce.of H1.out (Pk _ _)⟩
 case round=>
  obtain⟨k,hk,rfl,hP⟩:=hrel;by_cases hlt:k<go.length
  ·obtain⟨x,hk'⟩:=zg hlt;obtain⟨⟨own1,cs1,p1,p2,L1,L2,s1,m1,e1⟩,k1⟩:=hP;obtain⟨g,rfl,hg,hc⟩:=HRO.out _ k1 k x hk';have hv:=HGO.out x (Pv hk');have d0:=hc 0 _ rfl;have d1:=hc 1 _ rfl;have d2:=hc 2 _ rfl;have d3:=hc 3 _ rfl;have d4:=hc 4 _ rfl;have d5:=hc 5 _ rfl;rw[Ru]at d0;have hi1:(k:Int)< (go.length:Int):=by omega
   have oM1:=e1 M (Ut hMw z1);have oN1:=e1 N (Ut hNw z1);have s2:=s1.below (zB wr (.cells (PA x) 98));have hdr:go.drop k=x::go.drop (k+1):=by
    exact Oh
   rw[hdr,PN]at s2;have hll:(go.drop (k+1)++R).length≤100000:=by rw[Pu,Vn];omega
   have HE:=zH (xj x s2 hv.1 hll hv.2 (by rw[oM1];exact hoM) (by rw[oN1];exact hoN) htD htF hDF hMN);have k2:=k1.alloc (.cells (PA x) 98);have HJ:=zH (fun w2=>ce.join (w2:=w2) (tD:=tD) (tF:=tF) (B:=B) (q:=q) (ty:=ty) (M:=M) (N:=N) (l:=go.drop (k+1)++R) m1 e1 k2);clear s1 s2 m1 e1 k1 k2 oM1 oN1;go_wp2_with (go_at_call 145;(with_reducible refine(HE.out).mono ?_);rintro e2 w2 ⟨⟨_,rfl⟩,P2⟩);refine⟨⟨k+1,by omega,by go_num,?_⟩,by simp[intOf];omega⟩;have:=HJ.out _ P2;exact this
  ·obtain rfl:k=go.length:=by omega
   obtain⟨hex,hkm⟩:=id hP;have hn2:=hkm.at hn1 (fun hf=>HF.out _ ⟨hso,by omega⟩ hf);clear t0 t1 hc1;have t1:=aa hn2 1;have hP0:ce own tD tF w1 wr B q cs ty M N R:=by simpa using hP
   clear hex hP;go_wp2_with fail;go_loopw [53] (fun i wr=>∃k:Nat,k≤co.length∧i=.int .i64 k∧ce own tD tF w1 wr B q cs ty M N ((co.take k).reverse++R)) (fun i _=>co.length - (intOf i).toNat)
   case atStart=>exact⟨0,by omega,rfl,by simpa using hP0⟩
   case round=>
    obtain⟨k,hk,rfl,hP⟩:=hrel;by_cases hlt:k<co.length
    ·obtain⟨x,hk'⟩:=zg hlt;obtain⟨⟨own1,cs1,p1,p2,L1,L2,s1,m1,e1⟩,k1⟩:=hP;obtain⟨g,rfl,hg,hc⟩:=HRI.out _ k1 k x hk';have hv:=HCO.out x (Pv hk');have d0:=hc 0 _ rfl;have d1:=hc 1 _ rfl;have d2:=hc 2 _ rfl;have d3:=hc 3 _ rfl;have d4:=hc 4 _ rfl;have d5:=hc 5 _ rfl;rw[Ru]at d0;have hi1:(k:Int)< (co.length:Int):=by omega
     have oM1:=e1 M (Ut hMw z1);have oN1:=e1 N (Ut hNw z1);have s2:=s1.below (zB wr (.cells (PA x) 98));have hdr:(co.take (k+1)).reverse++R=x::((co.take k).reverse++R):=by
      rw[PO,hk'];simp
     have hll:((co.take k).reverse++R).length≤100000:=by rw[Pu,Vq,UD];omega
     have HE:=zH (qY s2 x hv.1 hll hv.2 (by rw[oM1];exact hoM) (by rw[oN1];exact hoN) htD htF hDF hMN);have k2:=k1.alloc (.cells (PA x) 98);have HJ:=zH (fun w2=>ce.join (w2:=w2) (tD:=tD) (tF:=tF) (B:=B) (q:=q) (ty:=ty) (M:=M) (N:=N) (l:=x::((co.take k).reverse++R)) m1 e1 k2);clear s1 s2 m1 e1 k1 k2 oM1 oN1;go_wp2_with (go_at_call 146;(with_reducible refine(HE.out).mono ?_);rintro e2 w2 ⟨⟨_,rfl⟩,P2⟩);exact OR
    ·obtain rfl:k=co.length:=by omega
     go_wp2_with fail;go_ret;rw[PM]at hP;exact⟨rfl,ce.join (aT.refl _ _ _) (aO.refl _ _) (Km.of_below _ HB1.out) hP⟩
end
section
variable{own own':Nat→Nat}{t tD tF:Nat}{w w':World}{B q:Nat}{cs cs':Array Value}{ty:TypeId}{M N:Nat}{pD pF:Option Addr}{LD LF:List (Int×Int)}{l:List Pl}
theorem qX{m:Option Nat}(hc1:cs[q+1]?=some (.map m))(hlk:∀V,Below w.heap.size w V→∀a,aB a→(Instr.lookup 48 (.map m) (.int .i64 a) false).run prog V=.ok (.int .i64 (bH l a)) V)(hbd:bD own tD w B (q+2) cs ty pD LD ((bT l).length:Nat))(hbf:bD own tF w B (q+5) cs ty pF LF ((cZ l).length:Nat))(htd:bL LD (bT l))(htf:bL LF (cZ l))(hl:l.length≤100000):
  Calls prog 58 #[.pointer (some ⟨B,q,none⟩)] w fun e w'=>∃v1 v2,e=.returned (.agg #[.int .i64 (l.length:Nat),.int .i64 (bH l 1),.int .i64 (bH l 2),.int .i64 (bH l 3),v1,v2])∧
   w'.ownsRow w.heap.size 237 2 v1 LD.length (LD.flatMap aP)∧w'.ownsRow w.heap.size 237 2 v2 LF.length (LF.flatMap aP)∧Below w.heap.size w w':=by
 have HC1:=zH hc1;have HLK:=zH hlk;have HBD:=zH hbd;have HBF:=zH hbf;have hlf:(cZ l).length=l.length:=Ur ..;have hld:(bT l).length≤l.length:=by
  unfold bT;exact Oa
 have hlF:=htf.len;have hlD:=htd.len;have i1:aB 1:=by simp[aB]
 have i2:aB 2:=by simp[aB]
 have i3:aB 3:=by simp[aB]
 have hBw:=am hbd.box;clear hc1 hlk hbd hbf;obtain⟨w0,hw0⟩:∃w0,w0=w.alloc (.cells #[.int .i64 0,.int .i64 0,.int .i64 0,.int .i64 0,.slice none 0 0,.slice none 0 0] 83):=⟨_,rfl⟩;have hn0:w0.heap[w.heap.size]?=some (.cells #[.int .i64 0,.int .i64 0,.int .i64 0,.int .i64 0,.slice none 0 0,.slice none 0 0] 83 (0,0)):=by rw[hw0];exact Up _ _
 have hb0:Below w.heap.size w w0:=by rw[hw0];exact ae _ (Pk _ _)
 go_enter func58,ntmps58;go_wp2_with fail;rw[←hw0];clear hw0;refine zr (fun V=>Below w.heap.size w V) hb0.drew fun hS0=>?_;have hn1:w0.drew.heap[w.heap.size]?=_:=hn0;have hz1:w.heap.size<w0.drew.heap.size:=am hn0;generalize w0.drew=w1 at*;clear hn0 hb0;(refine zh hS0 26 3 0 ?_;simp only[zd];((iterate 3 (refine zU ?_;simp only[zp]));refine ac ?_));(refine zh hS0 8 18 4 ?_;simp only[zd];((iterate 18 (refine zt (fun W hW=>by have c1:=(aa (af HBD.out.box hW) (q+1)).trans HC1.out;have k1:=HLK.out _ hW 1 i1;have k2:=HLK.out _ hW 2 i2;have k3:=HLK.out _ hW 3 i3;exact zq) ?_;simp only[zp]));refine ac ?_));(refine zh hS0 5 3 23 ?_;simp only[zd];((iterate 3 (refine zU ?_;simp only[zp]));refine ac ?_));(refine zo 3 rfl fun K hK=>?_;go_simp);go_at_call 110;(with_reducible refine(CW (HBF.out.below' hS0)).mono ?_);rintro e2 w2 ⟨rfl,rfl⟩;(refine zu hK hS0 ?_;clear hK K;try simp only[zp]);(refine zo 22 rfl fun K hK=>?_;go_simp);go_at_call 111;(with_reducible refine(nk (HBD.out.below' hS0) (by omega)).mono ?_);rintro e3 w3 ⟨v1,rfl,o1,b1⟩;obtain⟨A1,c1,rfl⟩:=an o1;have S3:=ah b1 hS0;(refine zu hK S3 ?_;clear hK K;try simp only[zp]);(refine zo 26 rfl fun K hK=>?_;go_simp);go_at_call 111;(with_reducible refine(nk (HBF.out.below' S3) (by omega)).mono ?_);rintro e4 w4 ⟨v2,rfl,o2,b2⟩;obtain⟨A2,c2,rfl⟩:=an o2;have S4:=ah b2 S3;have hn4:=af (af hn1 b1) b2;(refine zu hK S4 ?_;clear hK K;try simp only[zp]);(refine zh S4 1 1 27 ?_;simp only[zd];((iterate 1 (refine zU ?_;simp only[zp]));refine ac ?_));refine zo 28 rfl fun K hK=>?_;have f0:=ak hn4 0;have f1:=ak hn4 1;have f2:=ak hn4 2;have f3:=ak hn4 3;have f4:=ak hn4 4;have f5:=ak hn4 5;have g0:=aa hn4 0;have g1:=aa hn4 1;have g2:=aa hn4 2;have g3:=aa hn4 3;have g4:=aa hn4 4;have g5:=aa hn4 5;go_simp;have r6:=aq (aq (aq (aq (aq (aq hn4 0 (.int .i64 (l.length:Nat))) 1 (.int .i64 (bH l 1))) 2 (.int .i64 (bH l 2))) 3 (.int .i64 (bH l 3))) 4 (.slice A1 LD.length c1)) 5 (.slice A2 LF.length c2);have S6:Below w.heap.size w ((((((w4.setCell ⟨w.heap.size,0,none⟩ (.int .i64 (l.length:Nat))).setCell ⟨w.heap.size,1,none⟩ (.int .i64 (bH l 1))).setCell ⟨w.heap.size,2,none⟩ (.int .i64 (bH l 2))).setCell ⟨w.heap.size,3,none⟩ (.int .i64 (bH l 3))).setCell ⟨w.heap.size,4,none⟩ (.slice A1 LD.length c1)).setCell ⟨w.heap.size,5,none⟩ (.slice A2 LF.length c2)):=
  (((((S4.setCell (p:=⟨w.heap.size,0,none⟩) (Po _) _).setCell (p:=⟨w.heap.size,1,none⟩) (Po _) _).setCell (p:=⟨w.heap.size,2,none⟩) (Po _) _).setCell (p:=⟨w.heap.size,3,none⟩) (Po _) _).setCell (p:=⟨w.heap.size,4,none⟩) (Po _) _).setCell (p:=⟨w.heap.size,5,none⟩) (Po _) _
 simp only[UY,U9,U3]at r6;have hz3:=b1.size;have hne1:∀j,(Value.slice A1 LD.length c1).ownBlock≠some (Addr.block ⟨w.heap.size,j,none⟩):=fun j e=>by have:w1.heap.size≤w.heap.size:=(o1.lt _ e).1;omega
 have hne2:∀j,(Value.slice A2 LF.length c2).ownBlock≠some (Addr.block ⟨w.heap.size,j,none⟩):=fun j e=>by have:w3.heap.size≤w.heap.size:=(o2.lt _ e).1;omega
 have o1':=Us (Us (Us (Us (Us (Us (au o1 b2) (hne1 0) (.int .i64 (l.length:Nat))) (hne1 1) (.int .i64 (bH l 1))) (hne1 2) (.int .i64 (bH l 2))) (hne1 3) (.int .i64 (bH l 3))) (hne1 4) (.slice A1 LD.length c1)) (hne1 5) (.slice A2 LF.length c2);have o2':=Us (Us (Us (Us (Us (Us o2 (hne2 0) (.int .i64 (l.length:Nat))) (hne2 1) (.int .i64 (bH l 1))) (hne2 2) (.int .i64 (bH l 2))) (hne2 3) (.int .i64 (bH l 3))) (hne2 4) (.slice A1 LD.length c1)) (hne2 5) (.slice A2 LF.length c2);generalize ((((((w4.setCell ⟨w.heap.size,0,none⟩ (.int .i64 (l.length:Nat))).setCell ⟨w.heap.size,1,none⟩ (.int .i64 (bH l 1))).setCell ⟨w.heap.size,2,none⟩ (.int .i64 (bH l 2))).setCell ⟨w.heap.size,3,none⟩ (.int .i64 (bH l 3))).setCell ⟨w.heap.size,4,none⟩ (.slice A1 LD.length c1)).setCell ⟨w.heap.size,5,none⟩ (.slice A2 LF.length c2))=w6 at*;clear f0 f1 f2 f3 f4 f5 g0 g1 g2 g3 g4 g5;(refine zu hK S6 ?_;clear hK K;try simp only[zp]);(refine ze ?_);have x0:=aa r6 0;have x1:=aa r6 1;have x2:=aa r6 2;have x3:=aa r6 3;have x4:=aa r6 4;have x5:=aa r6 5;go_wp2_with fail;refine Ux (v:=.agg #[.int .i64 (l.length:Nat),.int .i64 (bH l 1),.int .i64 (bH l 2),.int .i64 (bH l 3),.slice A1 LD.length c1,.slice A2 LF.length c2]) (by simp[results,results58,go_sem,x0,x1,x2,x3,x4,x5]) rfl ?_;exact⟨_,_,rfl,aI o1' (by omega),aI o2' (by omega),S6⟩
theorem pQ(h:ga own tD tF w B q cs ty M N pD pF LD LF l)(hl:l.length≤100000):
  Calls prog 58 #[.pointer (some ⟨B,q,none⟩)] w fun e w'=>∃v1 v2,e=.returned (.agg #[.int .i64 (l.length:Nat),.int .i64 (bH l 1),.int .i64 (bH l 2),.int .i64 (bH l 3),v1,v2])∧
   w'.ownsRow w.heap.size 237 2 v1 LD.length (LD.flatMap aP)∧w'.ownsRow w.heap.size 237 2 v2 LF.length (LF.flatMap aP)∧Below w.heap.size w w':=
 qX h.c1 (fun _ hV _ ha=>(h.mcl.below hV).look ha) h.bd h.bf h.td h.tf hl
theorem vv(hd:bD own tD w B (q+2) cs ty none [] 0)(hf:bD own tF w B (q+5) cs ty none [] 0)(hc1:cs[q+1]?=some (.map none)):
  Calls prog 58 #[.pointer (some ⟨B,q,none⟩)] w fun e w'=>∃v1 v2,e=.returned (.agg #[.int .i64 0,.int .i64 0,.int .i64 0,.int .i64 0,v1,v2])∧
   w'.ownsRow w.heap.size 237 2 v1 0 []∧w'.ownsRow w.heap.size 237 2 v2 0 []∧Below w.heap.size w w':=
 qX (l:=[]) hc1 (fun V _ a ha=>by
  have:=Gu (venc:=iV) (w:=V) JK TB (gg ha) (fG V) false;rw[gz]at this;exact this) hd hf dF dF (by simp)
end
end
