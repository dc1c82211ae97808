/- For WholeGone: contracts of functions and plain laws. -/
import Derived.Test.YtfgfbacnkpeneaaGreatDoorZBk
import Derived.Laws.EntriesVeiled
set_option maxRecDepth 100000
set_option maxHeartbeats 4000000
set_option linter.unusedVariables false
set_option linter.unusedSimpArgs false
namespace Go.Proofs.YtfgfbacnkpeneaaGreatDoor
open Go.Proofs.Tryz Go.ChangeShapes Go.WideShapes Go.ChangeAt Go.RowKit Go.Deep AvlP
theorem Of{P:Prop}(h:P:=by
 refine⟨⟨k+1,by omega,by go_num,?_⟩,by simp[intOf];omega⟩;rw[hdr];exact HJ.out _ P2):P:=h
theorem Pg{P:Prop}(h:P:=by
 have:=congrArg List.length this
 rwa [Ur,Ur]at this):P:=h
section
section
variable{own own':Nat→Nat}{t tm th hb:Nat}{w w':World}{B q v:Nat}{cs cs':Array Value}{ty:TypeId}{out inn R R':List Sp}{x:Sp}
structure pI(own:Nat→Nat)(B:Nat)(w:World)(A:Option Addr)(l:List Sp):Prop where
 rd:cm w w.heap.size A l
 at':∀ad,A=some ad→own ad.block=0∧ad.block≠B∧ad.block<w.heap.size
theorem DV(h:cH own tm th hb w B q cs ty (out++R))(hT:Ku tm th hb)(Ao Ai:Option Addr)(c1 c2:Nat)(hlo:∀x∈out,x.In)(hli:∀x∈inn,x.In)(hm:out.length+R.length≤40000)(hm':inn.length≤40000)(ho:pI own B w Ao out)(hi:pI own B w Ai inn):
  Calls prog 109 #[.pointer (some ⟨B,q,none⟩),.agg #[.slice Ao out.length c1,.slice Ai inn.length c2]] w fun e w'=>e=.returned (.bool true)∧dv own tm th hb w w' B q cs ty (inn.reverse++R):=by
 have b0:=zB w (.cells #[.slice Ao out.length c1,.slice Ai inn.length c2] 103);have n0:=Up w (.cells #[.slice Ao out.length c1,.slice Ai inn.length c2] 103);have m0:=aa n0 0;have m1:=aa n0 1;have hBw:=h.lt;have hso:=h.ow w.heap.size (Po _);have H1:=zH (fun w1 (b:Below w.heap.size w w1)=>Cn Ao c1 out hlo (by omega) w1 ((ho.rd.below b).more b.size));have H2:=zH (fun w1 (b:Below w.heap.size w w1)=>Cn Ai c2 inn hli (by omega) w1 ((hi.rd.below b).more b.size));have H3:=zH (fun w1 (b:Below w.heap.size w w1)=>DU (h.below b) hT Ao c1 (fun x hx=>(hlo x hx).few) (by omega) ((ho.rd.below b).more b.size) (fun ad e=>⟨(ho.at' ad e).1,(ho.at' ad e).2.1,Ut (ho.at' ad e).2.2 b.size⟩));have HRI:=zH (fun wr (k:Km (mJ own tm th hb B) w wr)=>hi.rd.km k (Po _) (fun ad e=>mJ.none hT (hi.at' ad e).1 (hi.at' ad e).2.1));have HNF:=zH (mJ.none hT hso (by omega:w.heap.size≠B));have HF:=zH (fun x hx=>(hli x hx).few);have HT:=zH hT;have HB0:=zH b0;clear h ho hi hlo hli hT b0 hso;go_enter func109,ntmps109;go_wp2_with (first |(go_at_call 187;(with_reducible refine(H1.out _ HB0.out).mono ?_);rintro e w1 ⟨rfl,b1⟩;have B1:=ah b1 HB0.out;have n1:=af n0 b1;have k0:=aa n1 0;have k1:=aa n1 1;clear H1) |(go_at_call 187;(with_reducible refine(H2.out _ B1).mono ?_);rintro e w2 ⟨rfl,b2⟩;have B2:=ah b2 B1;have n2:=af n1 b2;have j0:=aa n2 0;have j1:=aa n2 1) |(go_at_call 188;(with_reducible refine(H3.out _ B2).mono ?_);rintro e w3 ⟨rfl,P3⟩;have n3:=P3.kp.at n2 (fun hf=>HNF.out hf);have i0:=aa n3 0;have i1:=aa n3 1));have HP3:=zH (dv.join (aT.refl _ _ _) (aO.refl _ _) (Km.of_below _ B2) P3);clear n0 n1 n2 n3 m0 m1 k0 k1 j0 j1 i0 i1 b1 b2 B1 B2 H2 H3 P3;go_loopw [37] (fun i wr=>∃k:Nat,k≤inn.length∧i=.int .i64 k∧dv own tm th hb w wr B q cs ty ((inn.take k).reverse++R)) (fun i _=>inn.length - (intOf i).toNat)
 case atStart=>exact⟨0,by omega,rfl,by simpa using HP3.out⟩
 case round=>
  obtain⟨k,hk,rfl,hP⟩:=hrel;by_cases hlt:k<inn.length
  ·obtain⟨x,hk'⟩:=zg hlt;obtain⟨⟨own1,cs1,s1,m1,e1⟩,k1⟩:=hP;obtain⟨ad,rfl,hadl,c0,c1,c2,c3,c4,c5,c6,c7,c8⟩:=(HRI.out _ k1) k x hk';have hi1:(k:Int)< (inn.length:Int):=by omega
   have hdr:(inn.take (k+1)).reverse++R=x::((inn.take k).reverse++R):=by
    rw[PO,hk'];simp
   have bn:=zB wr (.cells (SA x) 93);have nn:=Up wr (.cells (SA x) 93);have k2:=k1.trans (Km.of_below _ bn);have HA:=zH (Co (s1.below bn) HT.out x (HF.out x (Pv hk')) (by rw[Pu,Vq,UD];omega));have HJ:=zH (fun w2=>dv.join (tm:=tm) (th:=th) (hb:=hb) (w2:=w2) (B:=B) (q:=q) (ty:=ty) (R:=x::((inn.take k).reverse++R)) m1 e1 k2);have y0:=aa nn;clear s1 m1 e1 k1 k2 hk' bn nn;go_wp2_with (go_at_call 87;(with_reducible refine(HA.out).mono ?_);rintro e2 w2 ⟨⟨_,rfl⟩,P2⟩);exact Of
  ·obtain rfl:k=inn.length:=by omega
   go_wp2_with fail;go_ret;rw[PM]at hP;exact⟨rfl,hP⟩
end
end
section
open Go.Shelf BigP
attribute [local go_sem] QA
section
variable{own own':Nat→Nat}{b:Nat}{w w':World}{B q M:Nat}{cs cs':Array Value}{ty:TypeId}{p0 p1 p2:Option Addr}{S:List (ByteArray×ByteArray)}{A:List (ByteArray×Int)}{C:List (ByteArray×Unit)}{E:List Pr}{x:Sp}{V:List (ByteArray×Sp)}
def GD(V:List (ByteArray×Sp))(x:Sp)(j:Int):Pr:=(x.sv,(nt V (kk x.tr j)).getD ⟨#[]⟩)
def Dl(V:List (ByteArray×Sp))(x:Sp):List Pr:=(Bh V x).toList
def lC(V:List (ByteArray×Sp))(x:Sp)(l:List Int):List Pr:=(l.filter fun j=>decide (j≠x.id)).map (GD V x)
theorem LZ(V:List (ByteArray×Sp))(C:List (ByteArray×Unit))(x:Sp):IL V C x=Dl V x++lC V x (aH C x.tr x.id):=rfl
theorem rM(V:List (ByteArray×Sp))(x:Sp)(l:List Int)(j:Int):lC V x (l++[j])=lC V x l++(if j=x.id then[]else[GD V x j]):=by
 unfold lC;rw[VG,PU];congr 1;by_cases h:j=x.id
 ·simp[h]
 ·simp[h]
def iP(g:Pr→Int)(sg:Int)(r:List Pr):Pr→Int:=fun t=>g t+sg*(r.count t:Nat)
theorem yS(g:Pr→Int)(sg:Int):iP g sg []=g:=funext fun t=>by simp[iP]
theorem uM(g:Pr→Int)(sg:Int)(r:List Pr)(a:Pr):iP g sg (r++[a])=fun t=>if t=a then iP g sg r a+sg else iP g sg r t:=funext fun t=>by
 unfold iP;rw[Si];by_cases h:t=a
 ·subst h;rw[Pj rfl,List.count_singleton_self]
  push_cast
  rw[Int.mul_add];omega
 ·rw[Pm h,List.count_singleton];simp[Qj h]
theorem JR{m:Nat}(hk:Km (fun c=>c=M) w w')(hM:M<m):KeepsFrom m w w':=⟨hk.size,fun k o hm h _=>hk.at h (by omega)⟩
theorem GB{T:TypeId→Prop}{m:Nat}(hk:Km (fun c=>c=M) w w')(hM:M<m):Dc T m w w':=fun c _ _ _ _ hm h=>hk.at h (by omega)
def Mf(own:Nat→Nat)(b:Nat)(w:World)(B q:Nat)(cs:Array Value)(ty:TypeId)(M:Nat)(p0 p1 p2:Option Addr)(S:List (ByteArray×ByteArray))(A:List (ByteArray×Int))(C:List (ByteArray×Unit))(g:Pr→Int)(sg:Int)(V:List (ByteArray×Sp))(x:Sp)(fd:Nat)(pre:List Int)(W:World):Prop:=
 cE own b W B q cs ty M p0 p1 p2 S A C (iP g sg (Dl V x++lC V x pre))∧Km (fun c=>c=M) w W∧W.heap[w.heap.size]?=some (.cells #[.pointer (some ⟨B,q,none⟩)] 129 (0,0))∧W.heap[w.heap.size+1]?=some (.cells (SA x) 93 (0,0))∧
 W.heap[w.heap.size+1+1]?=some (.cells #[.func (.func fd) #[.pointer (some ⟨B,q,none⟩)] #[]] 272 (0,0))∧W.heap[w.heap.size+1+1+1]?=some (.cells #[.func (.func 230) #[] #[.pointer (some ⟨w.heap.size,0,none⟩),.pointer (some ⟨w.heap.size+1,0,none⟩)]] 349 (0,0))
theorem LV{g:Pr→Int}{sg:Int}{fd:Nat}{pre:List Int}{W W':World}{B0:Nat}{row:Option Nat}(ho:Ow own w)(hM:M<w.heap.size)(hBw:B<w.heap.size)(hB0:w.heap.size+4≤B0)(h:Mf own b w B q cs ty M p0 p1 p2 S A C g sg V x fd pre W)(hg:W.grownBy W' row)(hr:∀r,row=some r→B0≤r∧∃o:Obj,W.heap[r]?=some o∧o.isCells=false):Mf own b w B q cs ty M p0 p1 p2 S A C g sg V x fd pre W':=by
 obtain⟨h1,h2,h3,h4,h5,h6⟩:=h;have hk:Km (fun c=>some c=row) W W':=⟨hg.os,hg.tape,hg.output,hg.size,fun c hc hn=>hg.block c hc hn⟩;have hb0:=h1.b0;refine⟨h1.far hk (fun c hc hf e=>?_) (aO.refl _ _) (h1.ow.mono hg.size),h2.trans' hk (fun c hc e=>?_),aW h3 hg hr,aW h4 hg hr,aW h5 hg hr,aW h6 hg hr⟩
 ·have:=(hr c e.symm).1;rcases hf with rfl |hf
  ·omega
  ·have:=ho c (by omega);omega
 ·have:=(hr c e.symm).1;omega
def Nk(fd:Nat)(own:Nat→Nat)(b B q:Nat)(cs:Array Value)(ty:TypeId)(M:Nat)(p0 p1 p2:Option Addr)(S:List (ByteArray×ByteArray))(A:List (ByteArray×Int))(C:List (ByteArray×Unit))(g:Pr→Int)(sg:Int):Prop:=
 ∀(r:List Pr) (a:Pr) (W:World),r.length≤800000→jP a→cE own b W B q cs ty M p0 p1 p2 S A C (iP g sg r)→
  Calls prog fd #[.pointer (some ⟨B,q,none⟩),.agg #[.string a.1,.string a.2]] W fun e W'=>(∃v,e=.returned v)∧fF W' M (iP g sg (r++[a]))∧Km (fun c=>c=M) W W'
theorem CO(g:Pr→Int)(hg:∀t,0≤g t∧g t≤50000):Nk 159 own b B q cs ty M p0 p1 p2 S A C g 1:=fun r a W hr ha h=>by
 rw[uM];have:=UO (a:=a) (l:=r);have:=hg a;exact LR h.box h.c6 h.mp ha (by unfold iP;omega)
theorem Ia(g:Pr→Int)(hg:∀t,0≤g t∧g t≤50000):Nk 154 own b B q cs ty M p0 p1 p2 S A C g (-1):=fun r a W hr ha h=>by
 rw[uM];have:=UO (a:=a) (l:=r);have:=hg a;exact Ka h.box h.c6 h.mp ha (by unfold iP;omega)
theorem pC(fd:Nat)(efd:∀args w,(callFunc fd args).run prog w=.ok (.enter fd args) w)(g:Pr→Int)(sg:Int)(h:cE own b w B q cs ty M p0 p1 p2 S A C g)(hS:∀k,ag oS S k=nt V k)(hsv:∀k u,nt V k=some u→u.size≤100)(hx:x.Vd)(hK:kt A C)(hsz:∀z∈C,z.1.size=24)(hl:C.length≤700000)
  (hdo:Nk fd own b B q cs ty M p0 p1 p2 S A C g sg):
  Calls prog 153 #[.pointer (some ⟨B,q,none⟩),.agg (SA x),.func (.func fd) #[.pointer (some ⟨B,q,none⟩)] #[]] w fun e w'=>(∃v,e=.returned v)∧fF w' M (iP g sg (IL V C x))∧Km (fun c=>c=M) w w':=by
 have hmf:∀(fn:Fn) (first cap:Array Value) (w:World),(Instr.makeFunc fn first cap).run prog w=.ok (.func fn first cap) w:=fun _ _ _ _=>rfl;refine(PE (n:=12)).1 ?_;refine QR func153 rfl trivial ?_ rfl;simp only[ntmps153,UH,PC,Qe,Nat.reduceAdd,Nat.reduceSub,QH,QI,QJ,QK,PQ,PN];refine Q6.2 ?_;obtain⟨w1,hw1⟩:∃w1,w1=w.alloc (.cells #[.pointer (some ⟨B,q,none⟩)] 129):=⟨_,rfl⟩;obtain⟨w2,hw2⟩:∃w2,w2=w1.alloc (.cells (SA x) 93):=⟨_,rfl⟩;obtain⟨w3,hw3⟩:∃w3,w3=w2.alloc (.cells #[.func (.func fd) #[.pointer (some ⟨B,q,none⟩)] #[]] 272):=⟨_,rfl⟩;obtain⟨w4,hw4⟩:∃w4,w4=w3.alloc (.cells #[.func (.func 230) #[] #[.pointer (some ⟨w.heap.size,0,none⟩),.pointer (some ⟨w.heap.size+1,0,none⟩)]] 349):=⟨_,rfl⟩;have s1:w1.heap.size=w.heap.size+1:=by rw[hw1,Pq]
 have s2:w2.heap.size=w.heap.size+1+1:=by rw[hw2,Pq,s1]
 have s3:w3.heap.size=w.heap.size+1+1+1:=by rw[hw3,Pq,s2]
 have s4:w4.heap.size=w.heap.size+1+1+1+1:=by rw[hw4,Pq,s3]
 have B4:Below w.heap.size w w4:=by
  rw[hw4,hw3,hw2,hw1];exact zb
 have nv:w4.heap[w.heap.size]?=some (.cells #[.pointer (some ⟨B,q,none⟩)] 129 (0,0)):=by
  rw[hw4,hw3,hw2,hw1];exact Wp
 have nx:w4.heap[w.heap.size+1]?=some (.cells (SA x) 93 (0,0)):=by
  rw[hw4,hw3,hw2,←s1];exact Wq
 have nd:w4.heap[w.heap.size+1+1]?=some (.cells #[.func (.func fd) #[.pointer (some ⟨B,q,none⟩)] #[]] 272 (0,0)):=by
  rw[hw4,hw3,←s2];exact ar (Up _ _) _
 have ns:w4.heap[w.heap.size+1+1+1]?=some (.cells #[.func (.func 230) #[] #[.pointer (some ⟨w.heap.size,0,none⟩),.pointer (some ⟨w.heap.size+1,0,none⟩)]] 349 (0,0)):=by
  rw[hw4,←s3];exact Up _ _
 have H4:=h.below B4;have hup:=hS (kk x.tr x.pa);have HSV:=zH (sn (aa nv 0) nx H4 x.pa hx.ok.1 hx.ok.2.2.1 _ hup);go_wp2_with fail;rw[←hw1,←hw2,←hw3,←hw4];clear hw1 hw2 hw3 hw4 s1 s2 s3;have n2:=aa nd 0;have hMw:=h.mp.lt;have oM:=h.oM;have hb0:=h.b0;have hne:∀c,w.heap.size≤c→c≠M:=fun c hc e=>by omega
 have HN4:=zH (Uq nv (Uq nx (Uq nd ns)));have HNE:=zH hne;have HB4:=zH B4;have HOW:=zH h.ow;have HBB:=zH (am h.box);rcases hu:nt V (kk x.tr x.pa)with _ |u
 case' none=>
  rw[hu]at HSV;dsimp only[Option.getD_none,Option.isSome_none]at HSV;have hupE:Dl V x=[]:=by unfold Dl Bh;rw[hu];rfl
  (with_reducible refine(HSV.out).mono ?_);rintro e w6 ⟨rfl,b5⟩;have E6:cE own b w6 B q cs ty M p0 p1 p2 S A C (iP g sg (Dl V x)):=by
   rw[hupE,yS];exact H4.below b5
  have K6:Km (fun c=>c=M) w4 w6:=Km.of_below _ b5;clear nv nx nd ns h hup hu HSV H4 n2 hne B4 hupE b5;go_wp2_with fail
 case' some=>
  rw[hu]at HSV;dsimp only[Option.getD_some,Option.isSome_some]at HSV;have hupE:Dl V x=[(u,x.sv)]:=by unfold Dl Bh;rw[hu];rfl
  have hok:jP (u,x.sv):=⟨by have:=hsv _ _ hu;show u.size≤9223372036854775807;omega,by have:=hx.few.1;show x.sv.size≤9223372036854775807;omega⟩;(with_reducible refine(HSV.out).mono ?_);rintro e w5 ⟨rfl,b5⟩;have HDO:=hdo [] (u,x.sv) w5 (by simp) hok (by rw[yS];exact H4.below b5);have d2:=aa (af nd b5) 0;have d4:=aa (af nx b5) 4;have H5:=H4.below b5;clear nv nx nd ns h hup hu HSV H4 n2 hne B4 hok;go_wp2_with ((with_reducible refine HDO.mono ?_);rintro e w6 ⟨⟨v6,rfl⟩,m6,k6⟩);have E6:cE own b w6 B q cs ty M p0 p1 p2 S A C (iP g sg (Dl V x)):=by
   rw[hupE];exact H5.turn k6 m6
  have K6:Km (fun c=>c=M) w4 w6:=(Km.of_below _ b5).trans k6;clear HDO d2 d4 H5 m6 k6 b5 hupE
  try go_wp2_with fail
 all_goals
  obtain⟨nv,nx,nd,ns⟩:=HN4.out;have nv6:=K6.at nv (HNE.out _ (by omega));have nx6:=K6.at nx (HNE.out _ (by omega));have nd6:=K6.at nd (HNE.out _ (by omega));have ns6:=K6.at ns (HNE.out _ (by omega));have hz6:=K6.size;have hE7:=E6.below (Pk _ w6).drew;have KK6:Km (fun c=>c=M) w w6.drew:=((Km.of_below _ HB4.out).trans K6).drew;have hz7:w6.drew.heap.size=w6.heap.size:=rfl;clear E6 K6 nv nx nd ns;refine zr (fun V=>V.heap[w.heap.size]?=some (.cells #[.pointer (some ⟨B,q,none⟩)] 129 (0,0))∧V.heap[w.heap.size+1]?=some (.cells (SA x) 93 (0,0))) ⟨nv6,nx6⟩ fun hS0=>?_;(refine zh hS0 1 7 0 ?_;simp only[zd];((iterate 7 (refine zt (fun W hW=>by obtain⟨hv,hn⟩:=hW;have v0:=aa hv 0;have y0:=aa hn;exact zq) ?_;simp only[zp]));refine ac ?_));(refine zo 7 rfl fun K hK=>?_;go_simp);go_at_call 231;(with_reducible refine(pw ⟨B,q+2,none⟩ x.tr x.id _).mono ?_);rintro e7 w7 ⟨rfl,rfl⟩
  replace nd6:w6.drew.heap[w.heap.size+1+1]?=some (.cells #[.func (.func fd) #[.pointer (some ⟨B,q,none⟩)] #[]] 272 (0,0)):=nd6
  replace ns6:w6.drew.heap[w.heap.size+1+1+1]?=some (.cells #[.func (.func 230) #[] #[.pointer (some ⟨w.heap.size,0,none⟩),.pointer (some ⟨w.heap.size+1,0,none⟩)]] 349 (0,0)):=ns6
  generalize w6.drew=U at*;have a1:=Up U (.cells #[.pointer (some ⟨B,q+2,none⟩)] 353);have a2:=Up (U.alloc (.cells #[.pointer (some ⟨B,q+2,none⟩)] 353)) (.cells #[.int .i64 x.tr] 3);have a3:=Up ((U.alloc (.cells #[.pointer (some ⟨B,q+2,none⟩)] 353)).alloc (.cells #[.int .i64 x.tr] 3)) (.cells #[.int .i64 x.id] 3);have bU:Below U.heap.size U (((U.alloc (.cells #[.pointer (some ⟨B,q+2,none⟩)] 353)).alloc (.cells #[.int .i64 x.tr] 3)).alloc (.cells #[.int .i64 x.id] 3)):=ae _ (ae _ (ae _ (Pk _ _)));have c1:=ar (ar a1 (.cells #[.int .i64 x.tr] 3)) (.cells #[.int .i64 x.id] 3);have c2:=ar a2 (.cells #[.int .i64 x.id] 3);have s3:(((U.alloc (.cells #[.pointer (some ⟨B,q+2,none⟩)] 353)).alloc (.cells #[.int .i64 x.tr] 3)).alloc (.cells #[.int .i64 x.id] 3)).heap.size=U.heap.size+3:=by rw[Pq,Pq,Pq]
  rw[Pq]at a2;rw[Pq,Pq]at a3;rw[Pq]at c2;have S7:=Uq (af hS0.1 bU) (af hS0.2 bU);(refine zu hK S7 ?_;clear hK K;try simp only[zp]);(refine ze ?_);generalize ((U.alloc (.cells #[.pointer (some ⟨B,q+2,none⟩)] 353)).alloc (.cells #[.int .i64 x.tr] 3)).alloc (.cells #[.int .i64 x.id] 3)=W0 at*;obtain⟨T,hp,hTl,hT,hTn,hTs⟩:=hE7.tC;have hE0:=hE7.below bU;have hst:=mW (own:=own) (t:=b+2) 11 (by omega) U.heap.size (U.heap.size+1) (U.heap.size+2) B (q+2) T x.tr x.id hx.ok.1 hx.ok.2.1 W0 (aa c1 0) (aa c2 0) (aa a3 0) (((aa hE0.box (q+2+2)).trans hE0.c4).trans (by rw[hp])) (hT.below bU) (hTl▸hTs) (by rw[hTl];exact hsz);have hTw:∀c∈T.blocks,c<U.heap.size∧own c=b+2:=fun c hc=>⟨(hT.at c hc).2,(hT.at c hc).1⟩;have hUw:w.heap.size+4≤U.heap.size:=by omega
  have KK0:=KK6.trans (Km.of_below _ bU);have hBw':B<w.heap.size:=HBB.out;have hI0:Mf own b w B q cs ty M p0 p1 p2 S A C g sg V x fd [] W0:=⟨by simpa[lC]using hE0,KK0,S7.1,S7.2,af nd6 bU,af ns6 bU⟩;rw[hTl]at hst;have HKB:=zH (fun(X X':World) (hk:Km (fun c=>c=M) X X') (hX:U.heap.size+3≤X.heap.size)=>show Ni (fun c=>c=U.heap.size+1∨c=U.heap.size+2∨c∈T.blocks) KT W0.heap.size X X' from
   ⟨fun c hc=>hk.block c (by rcases hc with rfl |rfl |hc<;>first |omega |(have:=(hTw c hc).1;omega)) (fun e=>by rcases hc with rfl |rfl |hc<;>first |omega |(have:=(hTw c hc).2;subst e;omega)),GB hk (by omega)⟩)
  clear hE7 hE0 KK6 KK0 nv6 nx6 nd6 ns6 S7 hS0 a1 a2 a3 c1 c2 hz6 hz7;go_wp2_with fail;refine(Q6 (n:=12)).1 ?_;refine pq (by omega) (gf:=290) (lb:=#[.pointer (some ⟨U.heap.size,0,none⟩),.pointer (some ⟨U.heap.size+1,0,none⟩),.pointer (some ⟨U.heap.size+2,0,none⟩)]) rfl (QS func290 (by kernel_rfl) rfl) hst
   (fun c hc=>by rcases hc with rfl |rfl |hc<;>first |omega |(have:=(hTw c hc).1;omega)) (Pk _ _) (fun _=>rfl)
   (fun pre W=>Mf own b w B q cs ty M p0 p1 p2 S A C g sg V x fd (pre.map (·.1)) W∧W0.heap.size≤W.heap.size) (fun _ _ _=>False) ?_ ?_ ⟨hI0,Po _⟩ ?_ ?_ ?_ ?_ ?_
  rotate_left 3
  ·intro l z W K hK;gi_wp2;exact hK
  ·rintro l pre z X ⟨⟨i1,i2,i3,i4,i5,i6⟩,iz⟩ hlen;have y1:=aa i4 1;have y4:=aa i4 4;have d0:=aa i5 0;have e0:=aa i6 0;have hzI:aB z.1:=((hK.kids hx.ok.1 hx.ok.2.1).1 z.2).1;by_cases hzx:z.1=x.id
   ·have hq:(z.1==x.id)=true:=by rw[RV];exact hzx
    have hI9:Mf own b w B q cs ty M p0 p1 p2 S A C g sg V x fd ((pre++[z]).map (·.1)) X:=by
     rw[PU,UA,UV];refine⟨?_,i2,i3,i4,i5,i6⟩;rw[rM,Pj hzx,Q7];exact i1
    clear hzx i1 i2 i3 i4 i5 i6 d0 e0 y4;gi_wp2_with fail;exact⟨KeepsFrom.refl _ _,HKB.out X X (Km.refl _ _) (by omega),hI9,iz⟩
   ·have hq:(z.1==x.id)=false:=by rw[Qz];exact hzx
    have HSV:=zH (sn (aa i3 0) i4 i1 z.1 hx.ok.1 hzI _ (hS _));have hok:jP (GD V x z.1):=⟨by have:=hx.few.1;show x.sv.size≤9223372036854775807;omega,by
     show((nt V (kk x.tr z.1)).getD ⟨#[]⟩).size≤9223372036854775807;cases hu2:nt V (kk x.tr z.1)with
     |none=>show(0:Nat)≤_;omega
     |some u2=>have:=hsv _ _ hu2;show u2.size≤_;omega⟩
    have hrl:(Dl V x++lC V x (pre.map (·.1))).length≤800000:=by
     rw[Pu];have h1:(Dl V x).length≤1:=by unfold Dl;cases Bh V x<;>simp
     have h2:(lC V x (pre.map (·.1))).length≤pre.length:=by
      unfold lC;rw[Ur];refine Pt (Qc _ _) ?_;rw[Ur];exact Po _
     have h3:T.toL.length=C.length:=congrArg _ hTl;omega
    have HDO:=zH (fun X1 (b1:Below X.heap.size X X1)=>hdo _ (GD V x z.1) X1 hrl hok (i1.below b1));have HFI:=zH (fun X1 X2 (b1:Below X.heap.size X X1) (m2:fF X2 M (iP g sg ((Dl V x++lC V x (pre.map (·.1)))++[GD V x z.1]))) (k2:Km (fun c=>c=M) X1 X2)=>by
     have hk:=(Km.of_below (fun c=>c=M) b1).trans k2;have fin:KeepsFrom W0.heap.size X X2∧Ni (fun c=>c=U.heap.size+1∨c=U.heap.size+2∨c∈T.blocks) KT W0.heap.size X X2∧Mf own b w B q cs ty M p0 p1 p2 S A C g sg V x fd ((pre++[z]).map (·.1)) X2∧W0.heap.size≤X2.heap.size:=by
      refine⟨JR hk (by omega),HKB.out _ _ hk (by omega),?_,Pt iz hk.size⟩;rw[PU,UA,UV];refine⟨?_,i2.trans hk,hk.at i3 (by omega),hk.at i4 (by omega),hk.at i5 (by omega),hk.at i6 (by omega)⟩;rw[rM,Pm hzx,←Qg];exact(i1.below b1).turn k2 m2
     exact fin)
    have HI5:=zH i5;have HI4:=zH i4;clear hzx i1 i2 i3 i4 i5 i6 y4 d0 hok hrl;gi_wp2_with (first
     |(refine⟨trivial,?_⟩;gi_at_call 230;refine(UG _ (PE.2 HSV.out)).mono ?_;rintro e X1 ⟨rfl,b1⟩;have d0:=aa (af HI5.out b1) 0;have y4:=aa (af HI4.out b1) 4)
     |(refine⟨trivial,?_⟩;refine(UG _ (PE.2 (HDO.out _ b1))).mono ?_;rintro e X2 ⟨⟨v2,rfl⟩,m2,k2⟩))
    exact HFI.out _ _ b1 m2 k2
  ·rintro D zs X hD hSy ⟨⟨i1,i2,i3,i4,i5,i6⟩,iz⟩ hKd;have bl:Below w.heap.size X (X.putObj D (.deferred none)):=belowK_b (w:=w) (Po _) X D _ _ (by omega) hKd rfl rfl;have hfin:iP g sg (Dl V x++lC V x (zs.map (·.1)))=iP g sg (IL V C x):=by rw[hSy,LZ]
   have hmz:=i1.mp;rw[hfin]at hmz;clear hfin i1 i3 i4 i5 i6 hSy;gi_wp2_with fail;refine⟨by simp,.inl ⟨_,_,rfl,UW hKd,?_⟩⟩;refine⟨_,VQ rfl _ _ _,?_⟩;obtain⟨g',hm,hg⟩:=hmz.ex;exact⟨⟨_,rfl⟩,⟨g',hm.at (bl.block M hMw),hg⟩,⟨bl.os.trans i2.os,bl.tape.trans i2.tape,bl.output.trans i2.output,Pt i2.size bl.size,fun c hc hn=>(bl.block c hc).trans (i2.block c hc hn)⟩⟩
  ·rintro D c pre X _ _ h _;exact h.elim
  ·rintro pre X X' row ⟨i1,iz⟩ hg hr;exact⟨LV HOW.out hMw hBw' (by omega) i1 hg hr,Pt iz hg.size⟩
  ·exact fun _=>fun _ _ _ _ hs _ _=>hs
end
end
section
open BigP
section
variable{own own':Nat→Nat}{b:Nat}{w w':World}{B q M:Nat}{cs cs':Array Value}{ty:TypeId}{p0 p1 p2 r0 r1 r2:Option Addr}{S S':List (ByteArray×ByteArray)}{A A':List (ByteArray×Int)}{C C':List (ByteArray×Unit)}{E:Pr→Int}{x:Sp}{V:List (ByteArray×Sp)}
theorem cE.kidsIn(h:cE own b w B q cs ty M p0 p1 p2 S A C E):ww own (b+1) (b+2) w B (q+2) cs ty p1 p2 A C:=
 ⟨h.box,h.c2,h.c3,h.c4,h.c5,h.tA,h.tC,h.ow,by have:=h.nB;omega,by have:=h.nB;omega,by omega⟩
theorem cE.kids(h:cE own b w B q cs ty M p0 p1 p2 S A C E)(k:bJ own (b+1) (b+2) w w' B (q+2) cs ty A' C' own' cs' r1 r2):cE own' b w' B q cs' ty M p0 r1 r2 S A' C' E∧aT q 7 cs cs'∧aO own own' w∧Km (mh own b B) w w':=by
 have hlB:=am h.box;have hlM:=h.mp.lt;have oM:=h.oM;have nB:=h.nB;have hBM:=h.mp.ne h.box;refine⟨⟨k.st.box,(k.near.far _ (.inl (by omega))).trans h.c0,(k.near.far _ (.inl (by omega))).trans h.c1,k.st.c0,k.st.c1,k.st.c2,k.st.c3,(k.near.far _ (.inr (by omega))).trans h.c6,h.tS.kmE k.kp.toKm (fun c hc e hf=>?_) k.ext,k.st.a,k.st.c,h.mp.kp k.kp.toKm (fun hf=>?_),(k.ext M hlM).trans oM,k.st.ow,by rw[k.ext B hlB];exact nB,h.b0⟩,k.near.wide (by omega) (by omega),k.ext,k.kp.toKm.mono fun c hc hf=>?_⟩
 ·rcases hf with e2 |e2 |e2
  ·subst e2;omega
  ·omega
  ·omega
 ·rcases hf with e2 |e2 |e2
  ·exact hBM e2.symm
  ·omega
  ·omega
 ·rcases hf with e2 |e2 |e2
  ·exact .inl e2
  ·exact .inr ⟨by omega,by omega⟩
  ·exact .inr ⟨by omega,by omega⟩
theorem cE.svc(h:cE own b w B q cs ty M p0 p1 p2 S A C E)(m:bI AvT.nd oS own b w w' B q cs ty S' own' r0):cE own' b w' B q ((cs.setIfInBounds q (.pointer r0)).setIfInBounds (q+1) (.int .i64 (S'.length:Nat))) ty M r0 p1 p2 S' A C E∧aT q 7 cs ((cs.setIfInBounds q (.pointer r0)).setIfInBounds (q+1) (.int .i64 (S'.length:Nat)))∧aO own own' w∧Km (mh own b B) w w':=by
 have hlB:=am h.box;have hlM:=h.mp.lt;have oM:=h.oM;have nB:=h.nB;have hBM:=h.mp.ne h.box;have nr:=cX q cs (.pointer r0) (.int .i64 (S'.length:Nat));have t01:=gh (u:=.pointer r0) (v:=.int .i64 (S'.length:Nat)) h.c0 h.c1;have ne:∀n,own B≠b+n∨4≤n:=fun n=>by omega
 refine⟨⟨m.box,t01.1,t01.2,(nr.far _ (.inr (by omega))).trans h.c2,(nr.far _ (.inr (by omega))).trans h.c3,(nr.far _ (.inr (by omega))).trans h.c4,(nr.far _ (.inr (by omega))).trans h.c5,(nr.far _ (.inr (by omega))).trans h.c6,m.tr,h.tA.kmE m.kp.toKm (fun c hc e hf=>?_) m.ext,h.tC.kmE m.kp.toKm (fun c hc e hf=>?_) m.ext,h.mp.kp m.kp.toKm (fun hf=>?_),(m.ext M hlM).trans oM,m.ow,by rw[m.ext B hlB];exact nB,h.b0⟩,nr.wide (Po _) (by omega),m.ext,m.kp.toKm.mono fun c hc hf=>?_⟩
 ·rcases hf with e2 |e2
  ·subst e2;omega
  ·omega
 ·rcases hf with e2 |e2
  ·subst e2;omega
  ·omega
 ·rcases hf with e2 |e2
  ·exact hBM e2.symm
  ·omega
 ·rcases hf with e2 |e2
  ·exact .inl e2
  ·exact .inr ⟨by omega,by omega⟩
def gM(own:Nat→Nat)(b:Nat)(w:World)(B q:Nat)(cs:Array Value)(ty:TypeId)(M:Nat)(V:List (ByteArray×Sp)):Prop:=
 ∃p0 p1 p2 S A C,cE own b w B q cs ty M p0 p1 p2 S A C (fun t=>((mf V).count t:Nat))∧(∀k,ag oS S k=nt V k)∧kt A C∧∀k,ag oS A k=(ag oS V k).map (·.pa)
structure dw(own:Nat→Nat)(b:Nat)(w w':World)(B q:Nat)(cs:Array Value)(ty:TypeId)(M:Nat)(V:List (ByteArray×Sp)):Prop where
 ex:∃own' cs',gM own' b w' B q cs' ty M V∧aT q 7 cs cs'∧aO own own' w
 kp:Km (mh own b B) w w'
theorem mh.ext{c:Nat}(he:aO own own' w)(hlt:c<w.heap.size)(h:mh own' b B c):mh own b B c:=by
 unfold mh at*;rw[he c hlt]at h;exact h
theorem mh.none{c:Nat}(hb:0<b)(h0:own c=0)(hne:c≠B):¬mh own b B c:=fun hf=>by
 unfold mh at hf;rw[h0]at hf;omega
theorem gM.far{F:Nat→Prop}(h:gM own b w B q cs ty M V)(hk:Km F w w')(hf:∀c,c<w.heap.size→mh own b B c→¬F c)(he:aO own own' w)(ho:Ow own' w'):gM own' b w' B q cs ty M V:=by
 obtain⟨p0,p1,p2,S,A,C,h1,h2,h3,h4⟩:=h;exact⟨p0,p1,p2,S,A,C,h1.far hk hf he ho,h2,h3,h4⟩
theorem gM.ow(h:gM own b w B q cs ty M V):Ow own w:=by
 obtain⟨_,_,_,_,_,_,h1,_⟩:=h;exact h1.ow
theorem gM.below(h:gM own b w B q cs ty M V)(hb:Below w.heap.size w w'):gM own b w' B q cs ty M V:=h.far (Km.of_below (fun _=>False) hb) (fun _ _ _=>id) (aO.refl _ _) (h.ow.mono hb.size)
theorem dw.join{own1:Nat→Nat}{cs1:Array Value}{w1 w2:World}(n1:aT q 7 cs cs1)(e1:aO own own1 w)(k1:Km (mh own b B) w w1)(h:dw own1 b w1 w2 B q cs1 ty M V):dw own b w w2 B q cs ty M V:=by
 obtain⟨⟨own2,cs2,s2,n2,e2⟩,k2⟩:=h;exact⟨⟨own2,cs2,s2,n1.trans n2,e1.trans e2 k1.size⟩,k1.trans' k2 fun c hc hf=>hf.ext e1 hc⟩
theorem lR(hV:aJ V):∀k u,nt V k=some u→u.size≤100:=fun k u hu=>by
 unfold nt at hu;cases e:ag oS V k with
 |none=>rw[e]at hu;cases hu
 |some y=>
  rw[e]at hu;cases hu;exact(hV.get e).2.few.1
theorem Je(hV:aJ V)(hs:aX oS S)(h:∀k,ag oS S k=nt V k):S.length=V.length:=by
 have:=qD hs hV.srt fun k=>by
  rw[h];unfold nt;cases ag oS V k<;>simp
 exact Pg
theorem vD(hV:aJ V)(hs:aX oS A)(h:∀k,ag oS A k=(ag oS V k).map (·.pa)):A.length=V.length:=by
 have:=qD hs hV.srt fun k=>by
  rw[h];cases ag oS V k<;>simp
 exact Pg
theorem EQ(V:List (ByteArray×Sp))(t:Pr):0≤(((mf V).count t:Nat):Int)∧(((mf V).count t:Nat):Int)≤V.length:=by
 have h1:=UO (a:=t) (l:=mf V);have h2:=CJ V;omega
theorem Jg(hV:aJ V)(x:Sp)(k:ByteArray):nt (aK oS V (aj x)) k=if k=aj x then none else nt V k:=by
 unfold nt;rw[cY hV.srt];split<;>rfl
theorem Jf(hV:aJ V)(x:Sp)(k:ByteArray):nt (ay oS V (aj x) x) k=if k=aj x then some x.sv else nt V k:=by
 unfold nt;rw[dI hV.srt];split<;>rfl
theorem Kg(hV:aJ V)(hK:kt A C)(hA:∀k,ag oS A k=(ag oS V k).map (·.pa))(hx:ag oS V (aj x)=some x):iP (fun t=>(((mf V).count t:Nat):Int)) (-1) (IL V C x)=fun t=>(((mf (aK oS V (aj x))).count t:Nat):Int):=funext fun t=>by
 unfold iP;simp only[];rw[(CK hV hK hA hx).count_eq,Si]
 push_cast
 omega
theorem Kf(hV:aJ V)(hx:x.Vd)(hn:ag oS V (aj x)=none)(hK:kt A C)(hA:∀k,ag oS A k=(ag oS (ay oS V (aj x) x) k).map (·.pa)):iP (fun t=>(((mf V).count t:Nat):Int)) 1 (IL (ay oS V (aj x) x) C x)=fun t=>(((mf (ay oS V (aj x) x)).count t:Nat):Int):=funext fun t=>by
 have hI:=hV.ins hx;have hg:ag oS (ay oS V (aj x) x) (aj x)=some x:=by rw[dI hV.srt,Pj rfl]
 have hd:mf (aK oS (ay oS V (aj x) x) (aj x))=mf V:=EK (fun k=>by
  rw[cY hI.srt,dI hV.srt];split
  ·rename_i e;rw[e,hn]
  ·rfl) (hI.delR _) hV
 unfold iP;simp only[];rw[(CK hI hK hA hg).count_eq,Si,hd]
 push_cast
 omega
end
end
