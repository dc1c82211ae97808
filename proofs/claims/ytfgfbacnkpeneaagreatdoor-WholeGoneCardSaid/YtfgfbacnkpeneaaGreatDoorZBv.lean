/- For WholeGone: contracts of functions and plain laws. -/
import Derived.Test.YtfgfbacnkpeneaaGreatDoorZBu
set_option maxRecDepth 100000
set_option maxHeartbeats 4000000
set_option linter.unusedVariables false
set_option linter.unusedSimpArgs false
namespace Go.Proofs.YtfgfbacnkpeneaaGreatDoor
open Go.Proofs.Tryz Go.ChangeShapes Go.WideShapes Go.ChangeAt Go.RowKit Go.Deep Go.Shelf AvlP BigP PlcP
theorem Oj{P:Prop}(h:P:=by
 go_wp2_with fail;exact⟨⟨k+1,by omega,by go_num,B4.out⟩,by simp[intOf];omega⟩):P:=h
theorem Pf{P:Prop}(h:P:=by
 rintro e w' ⟨A,c,rfl,o,b⟩;exact⟨A,c,rfl,T.slice o (Po _),b⟩):P:=h
section
structure MS where
 S:Nat
 Q:Nat
 M:Nat
 B:Nat
 S':Nat
 Q':Nat
 M':Nat
 B':Nat
section
variable{own own':Nat→Nat}{w w1 w2:World}{p:MS}{l l' r X:List Sp}{k k':Bool}{A:Option Addr}{V:List (ByteArray×Sp)}
theorem MI:DT 1 5 1000:=⟨by decide,by decide,by decide⟩
end
def BG.At(a:BG)(w:World):Prop:=a.Ok w∧∀ad,a.A=some ad→ad.block<w.heap.size
theorem rB{H:Type}{enc:TypeId×Value→H}{w:World}{base:Nat}{spare:Nat→Bool}{held:Bool}{b0:Nat}{v:Value}{d:DataW H}{p:List MemPlace}
  (hv:Value.okWide prog w .any b0 22 v)(h:DataW.Trod enc prog w base spare held 22 v d p)(hl:∀x∈p,x.block<w.heap.size):
  ∃a:BG,v=.slice a.A a.l.length a.c∧a.At w:=by
 obtain⟨⟨A,c,l⟩,rfl,ha⟩:=Au hv h hl;refine⟨⟨A,c,l⟩,rfl,ha,fun ad e=>?_⟩;obtain rfl:A=some ad:=e;unfold Value.okWide at hv;simp only[UF]at hv;unfold Cell.okWide at hv;simp only[UF]at hv;unfold Cell.ok at hv;simp only[UF]at hv;obtain⟨_,_,_,_,row,cells,hs,_⟩:=hv;unfold World.shape? at hs;rcases Rc ad.block w.heap.size with h1 |h1
 ·exact h1
 ·rw[SK h1]at hs;cases hs
theorem BV(A:Option Addr)(c:Nat)(l:List Sp)(hm:l.length≤maxLen)(hok:∀x∈l,x.Ok)(w:World)(hr:cm w w.heap.size A l):
  ∃f:Bool,(f=true→Hj 20 l)∧∀W,Below w.heap.size w W→Calls prog 5 #[.slice A l.length c,.int .i64 20] W fun e w'=>e=.returned (.bool f)∧Below W.heap.size W w':=by
 by_cases h:Hj 20 l
 ·exact⟨true,fun _=>h,fun W b=>vC A c l 20 (by omega) h W ((hr.below b).more b.size)⟩
 ·exact⟨false,nofun,fun W b=>xo A c l hm hok 20 (by omega) h W ((hr.below b).more b.size)⟩
theorem FL{l:List Sp}(hf:Hj 20 l)(hok:∀x∈l,x.Ok)(hm:(l.all fun x=>CodeP.jh (dG x))=true):∀x∈l,x.In:=fun x hx=>⟨hok x hx,hf.2 x hx,Vc.1 hm x hx⟩
section
variable{own1 own2:Nat→Nat}{w W1 w1 W2 w2:World}{S Q M S' Q' M':Nat}
theorem FN{own:Nat→Nat}{b:Nat}{lim:Int}{L:List (ByteArray×Sp)}{many:Int}{f:Int→Int}{n:Nat}(s:ew own b w S Q M lim L many f n):Ow own w:=by
 obtain⟨_,_,_,_,_,_,s,_⟩:=s;exact s.ow
theorem zM(lim:Int)(hl:0≤lim∧lim≤100000){own:Nat→Nat}{b:Nat}(hO:Ow own w)(hb:0<b):
  Calls prog 8 #[.agg #[.int .i64 lim,.int .i64 lim,.int .i64 0,.int .i64 0]] w fun e w'=>∃S Q M,e=.returned (.pointer (some ⟨S,0,none⟩))∧Below w.heap.size w w'∧∃own',ew own' b w' S Q M lim [] 0 (fun _=>0) 0∧aO own own' w:=
 (tB lim hl hO hb).mono fun _ _ h=>⟨_,_,_,h⟩
end
structure GF(la lb more less G:List Sp)(V:List (ByteArray×Sp)):Prop where
 a:∀x∈la,x.In
 b:∀x∈lb,x.In
 m:iy (aA la) (aA lb)=more
 s:iy (aA lb) (aA la)=less
 ml:more.length≤lb.length
 sl:less.length≤la.length
 mi:∀x∈more,x.In
 si:∀x∈less,x.In
 ai:∀x∈aA la,x.In
 bi:∀x∈aA lb,x.In
 gi:∀x∈G,x.In
 al:(aA la).length≤la.length
 bl:(aA lb).length≤lb.length
 gl:G.length≤la.length+lb.length
 g:aA (la++lb)=G
 g1:aA (la++more)=G
 g2:aA (lb++less)=G
 g3:aA ((la++more)++less)=G
 v:cB (av (la++lb))=V
 v1:cB (av (la++more))=V
 v2:cB (av (lb++less))=V
 v3:cB (av ((la++more)++less))=V
 vg:cB (av G)=V
 no:iy G G=[]
theorem lw{l:List Sp}(hl:∀x∈l,x.In):(aA l).length≤l.length:=by
 exact Oi
theorem gf{la lb:List Sp}(ha:∀x∈la,x.In)(hb:∀x∈lb,x.In):∃more less G V,GF la lb more less G V:=by
 have g1:=rY ha hb;have g2:=AV ha hb;have g3:=vS ha hb;have hab:=fS ha hb;have e1:=jS ha hb;have e2:=jS hb ha;refine⟨_,_,aA (la++lb),cB (av (la++lb)),ha,hb,rfl,rfl,by rw[e1];exact(rA hb _).2,by rw[e2];exact(rA ha _).2,by rw[e1];exact rX hb,by rw[e2];exact rX ha,fun x hx=>(nO ha x hx).in,fun x hx=>(nO hb x hx).in,fun x hx=>(nO hab x hx).in,lw ha,lw hb,by have:=lw hab;rwa [Pu]at this,rfl,?_,?_,?_,rfl,by rw[g1],by rw[g2],by rw[g3],?_,DY hab⟩
 ·unfold aA;rw[←g1];rfl
 ·unfold aA;rw[←g2];rfl
 ·unfold aA;rw[←g3];rfl
 ·rw[show av (aA (la++lb))=av (la++lb)from iK (aG hab)]
theorem zZ(A:Option Addr)(c:Nat)(l:List Sp)(hm:l.length≤100000)(w:World)(hr:cm w w.heap.size A l):
  Calls prog 16 #[.slice A l.length c] w fun e w'=>∃v,e=.returned v∧w'.ownsRow w.heap.size 93 9 v (bF l).length ((bF l).flatMap bg)∧Below w.heap.size w w':=by
 obtain⟨i0,hi⟩:=Qm cC;have HI:=zH hi;have HR:=zH hr;clear hi hr;go_enter func16,ntmps16;go_wp2_with fail;go_loopw [3,4] (fun vo i wr=>∃(k:Nat) (vg:Value),vg=vo∧k≤l.length∧i=.int .i64 k∧wr.ownsRow w.heap.size 93 9 vg ((l.take k).filter kT).length (((l.take k).filter kT).flatMap bg)∧Below w.heap.size w wr) (fun _ i _=>l.length - (intOf i).toNat)
 case atStart=>exact⟨0,_,rfl,by omega,rfl,PS _ _ _ _,Pk _ _⟩
 case round=>
  obtain⟨k,vo,rfl,hk,rfl,hrow,hb⟩:=hrel;by_cases hlt:k<l.length
  ·obtain⟨x,hx⟩:=zg hlt;obtain⟨ad,rfl,hadl,c0,c1,c2,c3,c4,c5,c6,c7,c8⟩:=HR.out.below hb k x hx;have hi1:(k:Int)< (l.length:Int):=by omega
   have HFT:=zH (jB hx kT);have hlf:((l.take k).filter kT).length≤100000:=Pt (Qc _ _) (by rw[UD];omega);generalize hlo:(l.take k).filter kT=lo at hrow HFT hlf;clear hlo hx;have HRW:=zH hrow;have HB:=zH hb;have hz:=hb.size;clear hrow hb;have HG:Hid (kT x=!x.gn):=zH rfl;cases hgn:x.gn with
   |true=>
    rw[hgn]at c8;rw[hgn]at HG;go_wp2_with fail;refine⟨⟨k+1,vo,rfl,by omega,by go_num,?_,HB.out⟩,by simp[intOf];omega⟩;rw[HFT.out,HG.out];simpa using HRW.out
   |false=>
    rw[hgn]at c8;rw[hgn]at HG;have HX:=zH (show[.int .i64 x.tr,.int .i64 x.id,.int .i64 x.pa,.int .i64 x.rv,.string x.sv,.string x.op,.int .i64 x.st,.int .i64 x.du,.bool false]=bg x by unfold bg;rw[hgn]);go_wp2_with (at_builtin;refine aM rfl _ _ 22 rfl w.heap.size 93 i0 (.agg SZ) 9 88 UF HI.out.1 HI.out.2.1 HI.out.2.2.1 HI.out.2.2.2 rfl (by decide) (vo) _ _ rfl ((HRW.out).alloc _) ⟨wr.heap.size,0,none⟩ 1 1 ([.int .i64 x.tr,.int .i64 x.id,.int .i64 x.pa,.int .i64 x.rv,.string x.sv,.string x.op,.int .i64 x.st,.int .i64 x.du,.bool false]) rfl rfl (bj wr _ _ (wr.heap.size) (by simp)) (by simp[bg,Value.oneCell']) (by unfold maxLen;omega) (by omega) (by simp;omega) ?_;intro v8 w8 o8 g8 d8;obtain⟨gq,cq,rfl⟩:=Qv o8);have B8:Below w.heap.size w w8:=(ae _ HB.out).grown g8 (by rw[Pq];omega) (fun q e=>(HRW.out.lt q e).1);refine⟨⟨k+1,_,rfl,by omega,by go_num,?_,B8⟩,by simp[intOf];omega⟩;rw[HX.out]at o8;rw[HFT.out,HG.out];exact iY o8
  ·obtain rfl:k=l.length:=by omega
   rw[PM]at hrow;go_wp2_with fail;go_ret;exact⟨_,rfl,hrow,hb⟩
theorem Ac(A:Option Addr)(c:Nat)(l:List Sp)(x:Sp)(hm:l.length≤100000)(w:World)(hr:cm w w.heap.size A l):
  Calls prog 46 #[.slice A l.length c,.agg (SA x)] w fun e w'=>∃r:Int,e=.returned (.int .i64 r)∧(0≤r↔∃y∈l,Ef y x=true)∧ -1≤r∧Below w.heap.size w w':=by
 have n0:=Up w (.cells (SA x) 93);have b0:=zB w (.cells (SA x) 93);obtain⟨w0,hw0⟩:∃w0,w0=w.alloc (.cells (SA x) 93):=⟨_,rfl⟩;rw[←hw0]at n0 b0;have HR:=zH hr;have HB0:=zH b0;have HN0:=zH n0;clear hr b0 n0;go_enter func46,ntmps46;go_wp2_with fail;rw[←hw0];clear hw0;go_loopw [5] (fun i wr=>∃k:Nat,k≤l.length∧i=.int .i64 k∧Below w0.heap.size w0 wr∧Hid (∀y∈l.take k,Ef y x=false)) (fun i _=>l.length - (intOf i).toNat)
 case atStart=>exact⟨0,by omega,rfl,Pk _ _,zH (by simp)⟩
 case round=>
  obtain⟨k,hk,rfl,hb,hpre⟩:=hrel;have HB:=zH (HB0.out.trans (hb.mono HB0.out.size));by_cases hlt:k<l.length
  ·obtain⟨y,hy⟩:=zg hlt;have hi1:(k:Int)< (l.length:Int):=by omega
   have HY:=zH hy;have HRR:=zH (HR.out.below HB.out);obtain⟨ad,rfl,hadl,_⟩:=HR.out k y hy;have nI:=(hb.block w.heap.size (am HN0.out)).trans HN0.out;clear hy;go_wp2_with fail;refine zr (fun V=>V.heap[w.heap.size]?=some (.cells (SA x) 93 (0,0))∧cm V w.heap.size (some ad) l) ⟨nI,HRR.out⟩ fun hS0=>?_;(refine zh hS0 1 5 0 ?_;simp only[zd];((iterate 5 (refine zt (fun W hW=>by obtain⟨hWx,hWr⟩:=hW;have y0:=aa hWx;obtain⟨ad',e',_,d0,d1,d2,d3,d4,d5,d6,d7,d8⟩:=hWr k y HY.out;cases e';exact zq) ?_;simp only[zp]));refine ac ?_));(refine zo 5 rfl fun K hK=>?_;go_simp);go_at_call 93;(with_reducible refine(Jw y x _).mono ?_);rintro e3 v3 ⟨rfl,g3⟩;have X3:=zH (hb.drew.trans (g3.mono hb.drew.size));have x3:=Uq (af hS0.1 g3) (hS0.2.below (g3.mono (show w.heap.size≤wr.drew.heap.size from HB.out.size)));cases hko:Ef y x with
   |true=>
    go_wp2_with fail;(refine zu hK x3 ?_;clear hK K;try simp only[zp]);(refine ze ?_);clear x3 hS0;go_wp2_with fail;go_ret;exact⟨k,rfl,⟨fun _=>⟨y,Pv HY.out,hko⟩,fun _=>by omega⟩,by omega,HB0.out.trans (X3.out.mono HB0.out.size)⟩
   |false=>
    go_wp2_with fail;(refine zu hK x3 ?_;clear hK K;try simp only[zp]);(refine ze ?_);clear x3 hS0;go_wp2_with fail;refine⟨⟨k+1,by omega,by go_num,X3.out,zH fun z hz=>?_⟩,by simp[intOf];omega⟩;rw[PO,HY.out]at hz;rcases Px.1 hz with hz |hz
    ·exact hpre.out z hz
    ·obtain rfl:z=y:=by simpa using hz
     exact hko
  ·obtain rfl:k=l.length:=by omega
   go_wp2_with fail;go_ret;refine⟨-1,rfl,⟨fun h=>by omega,fun⟨y,hy,e⟩=>?_⟩,by omega,HB.out⟩;have:=hpre.out y (by rwa [PM]);rw[this]at e;cases e
theorem BU(A:Option Addr)(c:Nat)(l:List Sp)(t i:Int)(hm:l.length≤100000)(w:World)(hr:cm w w.heap.size A l):
  Calls prog 18 #[.slice A l.length c,.int .i64 t,.int .i64 i] w fun e w'=>∃r:Bool,e=.returned (.bool r)∧(r=true↔∃y∈l,y.tr=t∧y.id=i)∧Below w.heap.size w w':=by
 have HF:=zH (Ac A c l ⟨t,i,0,0,⟨#[]⟩,⟨#[]⟩,0,0,false⟩ hm w hr);clear hr;go_enter func18,ntmps18;go_wp2_with (go_at_call 46;(with_reducible refine(HF.out).mono ?_);rintro e w1 ⟨r,rfl,h1,h2,b1⟩;replace h1:=zH h1);go_ret;refine⟨decide (0≤r),rfl,?_,b1⟩;rw[P7,h1.out];exact exists_congr fun y=>and_congr_right fun _=>by unfold Ef;rw[P7]
theorem zX(A:Option Addr)(c:Nat)(l:List Pl)(t i:Int)(hm:l.length≤100000)(w:World)(hr:sK w A l):
  Calls prog 19 #[.slice A l.length c,.int .i64 t,.int .i64 i] w fun e w'=>((∃(j:Nat) (p:Pl),e=.returned (.int .i64 j)∧l[j]?=some p∧p.tr=t∧p.id=i)∨(e=.returned (.int .i64 (-1))∧∀p∈l,¬(p.tr=t∧p.id=i)))∧Below w.heap.size w w':=by
 have HR:=zH hr;clear hr;go_enter func19,ntmps19;go_wp2_with fail;go_loopw [7] (fun i' wr=>∃k:Nat,k≤l.length∧i'=.int .i64 k∧Below w.heap.size w wr∧Hid (∀p∈l.take k,¬(p.tr=t∧p.id=i))) (fun i _=>l.length - (intOf i).toNat)
 case atStart=>exact⟨0,by omega,rfl,Pk _ _,zH (by simp)⟩
 case round=>
  obtain⟨k,hk,rfl,hb,hpre⟩:=hrel;by_cases hlt:k<l.length
  ·obtain⟨y,hy⟩:=zg hlt;have hi1:(k:Int)< (l.length:Int):=by omega
   have HY:=zH hy;obtain⟨g,rfl,hg,hc⟩:=(HR.out.km (Km.of_below (fun _=>False) hb) (fun _ _=>id)) k y hy;have f0:wr.cell? ⟨g,k*6,none⟩=some (.int .i64 y.tr):=hc 0 _ rfl;have f1:wr.cell? ⟨g,k*6+1,none⟩=some (.int .i64 y.id):=hc 1 _ rfl;clear hy hc;by_cases h1:y.tr=t
   ·subst h1;by_cases h2:y.id=i
    ·subst h2;go_wp2_with fail;go_ret;exact⟨.inl ⟨k,y,rfl,HY.out,rfl,rfl⟩,hb⟩
    ·have h2':decide (y.id=i)=false:=UM h2;go_wp2_with fail;refine⟨⟨k+1,by omega,by go_num,hb,zH fun z hz=>?_⟩,by simp[intOf];omega⟩;rw[PO,HY.out]at hz;rcases Px.1 hz with hz |hz
     ·exact hpre.out z hz
     ·obtain rfl:z=y:=by simpa using hz
      exact fun h=>h2 h.2
   ·have h1':decide (y.tr=t)=false:=UM h1;go_wp2_with fail;refine⟨⟨k+1,by omega,by go_num,hb,zH fun z hz=>?_⟩,by simp[intOf];omega⟩;rw[PO,HY.out]at hz;rcases Px.1 hz with hz |hz
    ·exact hpre.out z hz
    ·obtain rfl:z=y:=by simpa using hz
     exact fun h=>h1 h.1
  ·obtain rfl:k=l.length:=by omega
   go_wp2_with fail;go_ret;exact⟨.inr ⟨rfl,by have:=hpre.out;rwa [PM]at this⟩,hb⟩
structure kP(own:Nat→Nat)(w w1:World)(p:MS)(l:List Sp)(k:Bool):Prop where
 a:wD own 1 5 1000 w1 p.S p.Q p.M p.B 100 l k
 b:Below w.heap.size w w1
 z:∀c,c<w.heap.size→own c=0
 b1:w.heap.size≤p.B
structure Da(own:Nat→Nat)(p:MS)(w:World)(A:Option Addr)(l:List Sp):Prop where
 rd:cm w w.heap.size A l
 at':∀ad,A=some ad→own ad.block=0∧ad.block≠p.B∧ad.block<w.heap.size
section
variable{own own':Nat→Nat}{w w1 w2:World}{p:MS}{l r X:List Sp}{k:Bool}{A:Option Addr}{V:List (ByteArray×Sp)}
theorem kP.far(T:kP own w w1 p l k){g:Nat}(hk:Km (fun c=>c=g) w1 w2)(h0:own g=0)(hg:g≠p.B)(hw:w.heap.size≤g):kP own w w2 p l k:=
 ⟨T.a.far hk (fun c _ hf e=>DF.none MI (by rw[e];exact h0) (by rw[e];exact hg) hf) (aO.refl _ _) (T.a.v.ow.mono hk.size),T.b.trans (hk.below (fun c hc hf=>by subst hf;omega) T.b.size),T.z,T.b1⟩
theorem kP.below(T:kP own w w1 p l k)(hb:Below w1.heap.size w1 w2):kP own w w2 p l k:=⟨T.a.below hb,T.b.trans (hb.mono T.b.size),T.z,T.b1⟩
theorem Da.below(s:Da own p w1 A l)(hb:Below w1.heap.size w1 w2):Da own p w2 A l:=⟨(s.rd.below hb).more hb.size,fun ad e=>⟨(s.at' ad e).1,(s.at' ad e).2.1,Ut (s.at' ad e).2.2 hb.size⟩⟩
theorem Da.step(s:Da own p w1 A l)(hk:Km (DF own 1 5 1000 p.B) w1 w2)(he:aO own own' w1):Da own' p w2 A l:=
 ⟨(s.rd.km hk (Po _) fun ad e=>DF.none MI (s.at' ad e).1 (s.at' ad e).2.1).more hk.size,fun ad e=>⟨(he _ (s.at' ad e).2.2).trans (s.at' ad e).1,(s.at' ad e).2.1,Ut (s.at' ad e).2.2 hk.size⟩⟩
theorem kP.slice(T:kP own w w1 p l k){B0 c:Nat}(o:w2.ownsRow B0 93 9 (.slice A X.length c) X.length (X.flatMap bg))(h0:w1.heap.size≤B0):Da own p w2 A X:=by
 obtain⟨A',c',e,h,_,_,hat⟩:=bE o;cases e;have h1:=T.a.v.oB.2;exact⟨h,fun ad e=>by
  have:=hat ad e;exact⟨T.a.v.ow _ (by omega),by omega,this.2⟩⟩
theorem kP.arg(T:kP own w w1 p l k)(hr:cm w w.heap.size A r)(h0:∀ad,A=some ad→ad.block<w.heap.size):Da own p w1 A r:=by
 have hs:=T.b.size;have h1:=T.b1;exact⟨(hr.below T.b).more hs,fun ad e=>by
  have:=h0 ad e;exact⟨T.z _ this,by omega,by omega⟩⟩
theorem xe(T:kP own w w1 p l k)(hl:l.length≤300)(e:aA l=X):
  Calls prog 11 #[.pointer (some ⟨p.S,0,none⟩)] w1 fun e w'=>∃A c,e=.returned (.slice A X.length c)∧Da own p w' A X∧Below w1.heap.size w1 w':=by
 subst e;refine(CN T.a hl).mono ?_;exact Pf
theorem qV(T:kP own w w1 p l k)(hl:l.length≤300)(e:(cB (av l)).map (·.2)=X):
  Calls prog 17 #[.pointer (some ⟨p.B,0,none⟩)] w1 fun e w'=>∃A c,e=.returned (.slice A X.length c)∧Da own p w' A X∧Below w1.heap.size w1 w':=by
 subst e;refine(uG T.a hl).mono ?_;exact Pf
theorem pj(T:kP own w w1 p l true)(hl:l.length≤300)(e:cB (av l)=V):
 Calls prog 14 #[.pointer (some ⟨p.B,0,none⟩)] w1 fun e w'=>∃v,e=.returned v∧dY w' w1.heap.size V v∧Below w1.heap.size w1 w':=e▸Ht T.a hl
theorem lu(T:kP own w w1 p l k)(c:Nat)(hr:∀x∈r,x.In)(hm:l.length+r.length≤100)(s:Da own p w1 A r)(e:l++r=X):
  Calls prog 9 #[.pointer (some ⟨p.S,0,none⟩),.pointer (some ⟨p.B,0,none⟩),.slice A r.length c] w1 fun e w'=>e=.returned (.bool true)∧∃own',kP own' w w' p X true∧Km (DF own 1 5 1000 p.B) w1 w'∧aO own own' w1:=by
 subst e;refine(AX T.a MI A c hr (by omega) (by decide) s.rd fun ad e=>(s.at' ad e).1).mono ?_;rintro e w' ⟨rfl,own1,D,x,k1⟩;have h1:=T.b1;have hs:=T.b.size;exact⟨rfl,own1,⟨D,T.b.trans (k1.below (fun c hc hf=>DF.none MI (T.z c hc) (by omega) hf) hs),fun c hc=>(x c (by omega)).trans (T.z c hc),h1⟩,k1,x⟩
theorem Jo(T:kP own w w1 p l k)(c:Nat)(hX:∀x∈X,x.In)(hm:X.length≤300)(s:Da own p w1 A X)(e:cB (av X)=V):
 Calls prog 15 #[.slice A X.length c] w1 fun e w'=>∃v,e=.returned v∧dY w' w1.heap.size V v∧Below w1.heap.size w1 w':=e▸Iw A c X hX (by omega) w1 s.rd
theorem Dy(T:kP own w w1 p l k)(c:Nat)(hl:X.length≤300)(s:Da own p w1 A X)(e:bF X=r):
  Calls prog 16 #[.slice A X.length c] w1 fun e w'=>∃A c,e=.returned (.slice A r.length c)∧w'.ownsRow w1.heap.size 93 9 (.slice A r.length c) r.length (r.flatMap bg)∧(∀g,w1.heap.size≤g→own g=0∧g≠p.B∧w.heap.size≤g)∧Below w1.heap.size w1 w':=by
 subst e;refine(zZ A c X (by omega) w1 s.rd).mono ?_;rintro e w' ⟨v,rfl,o,b⟩;obtain⟨A,c,rfl⟩:=an o;have h1:=T.a.v.oB.2;have h2:=T.b.size;exact⟨A,c,rfl,o,fun g hg=>⟨T.a.v.ow _ hg,by omega,by omega⟩,b⟩
theorem Dx{W1:World}{own1:Nat→Nat}{S Q M:Nat}(b0:Below w.heap.size w W1)(s1:ew own1 1 w1 S Q M 100 [] 0 (fun _=>0) 0)(x1:aO (fun _=>0) own1 W1)(b1:Below W1.heap.size W1 w1):
  ∃p,p.S=S∧p.B=w1.heap.size∧kP own1 w (w1.alloc (.cells qK 74)) p [] false:=by
 refine⟨⟨S,Q,M,w1.heap.size,0,0,0,0⟩,rfl,rfl,?_⟩;have h0:=b0.size;have h1:=b1.size;have o1:=FN s1;have bV:Below w1.heap.size w1 (w1.alloc (.cells qK 74)):=ae _ (Pk _ _);have oV:=o1.mono bV.size;exact⟨yG (s1.farE (Km.of_below (fun _=>False) bV) (fun _ _ _=>id) (aO.refl _ _) oV) (Up _ _) oV (o1 _ (Po _)) MI,b0.trans ((b1.trans (bV.mono h1)).mono h0),fun c hc=>x1 c (by omega),Pt h0 h1⟩
end
theorem Dm(w:World)(n:Nat):dY w n [] (.agg #[.slice none 0 0,.int .i64 0,.int .i64 0,.int .i64 0,.int .i64 0,.slice none 0 0,.slice none 0 0,.slice none 0 0,.slice none 0 0,.slice none 0 0]):=by
 refine⟨.slice none 0 0,[],.slice none 0 0,[],.slice none 0 0,[],.slice none 0 0,[],.slice none 0 0,[],.slice none 0 0,[],rfl,?_⟩;exact {
  p:=PS _ _ _ _
  isp:=⟨rfl,by simp⟩
  d:=PS _ _ _ _
  td:=dF
  f:=PS _ _ _ _
  tf:=dF
  o:=ot _ _ _ _ _ _ _ _ _
  iso:=⟨[],by unfold wv;simp,fun k=>by simp[qu],rfl⟩
  e:=PS _ _ _ _
  ise:=⟨List.Pairwise.nil,fun a=>by simp[mf]⟩
  n':=ot _ _ _ _ _ _ _ _ _
  isn:=⟨[],by unfold wv;simp,fun k=>by simp[sk],rfl⟩}
theorem Ll{V:List (ByteArray×Sp)}{X:List Pl}(hV:aJ V)(hX:eZ V X){y:Sp}{q:Pl}(hy:y∈V.map (·.2))(hq:q∈X)(h1:q.tr=y.tr)(h2:q.id=y.id)(hn:ag oS V (kk y.tr y.pa)=none)(hp:0<y.pa):q.cl=2:=by
 obtain⟨z,hz,rfl⟩:=Uu.1 hy;have hg:ag oS V (kk z.2.tr z.2.id)=some z.2:=by
  have:=(ax oS hV.srt).2 hz
  rwa [hV.key z hz]at this
 obtain⟨h,_⟩:=hX.ok q hq;rw[h1,h2]at h;have h':gL (jc V z.2.tr) z.2.id (2,1,z.2.id):=.inl ⟨0,z.2.pa,z.2.id,rfl,by unfold jc;rw[hg];rfl,by unfold jc;rw[hn];rfl,by rw[Pm (by omega)];rfl⟩;exact congrArg Prod.fst (pY h h')
theorem JC{V:List (ByteArray×Sp)}{X:List Pl}(hX:eZ V X){y:Sp}(hy:y∈V.map (·.2)):∃q∈X,q.tr=y.tr∧q.id=y.id:=by
 obtain⟨z,hz,rfl⟩:=Uu.1 hy;have:(z.2.tr,z.2.id)∈X.map fun q=>(q.tr,q.id):=by
  rw[hX.keys];exact Uu.2 ⟨z,hz,rfl⟩
 obtain⟨q,hq,e⟩:=Uu.1 this;exact⟨q,hq,congrArg Prod.fst e,congrArg Prod.snd e⟩
structure GN(l late gl:List Sp)(V:List (ByteArray×Sp)):Prop where
 a:∀x∈l,x.In
 t:∀x∈late,x.In
 gi:∀x∈gl,x.In
 e:(bF (aA l)).map eV=gl
 gn:gl.length≤l.length
 al:(aA l).length≤l.length
 no:cB (av (l++gl))=[]
 i3:∀x∈(l++gl)++late,x.In
 s3:∀x∈aA ((l++gl)++late),x.In
 l3:(aA ((l++gl)++late)).length≤l.length+l.length+late.length
 v:cB (av ((l++gl)++late))=V
 vg:cB (av (aA ((l++gl)++late)))=V
 rc:aJ V
 vl:V.length≤l.length+l.length+late.length
 far:∀x∈gl,ag oS V (aj x)=none
theorem MD{l late:List Sp}(hl:∀x∈l,x.In)(hr:∀x∈l,x.rv<1000)(ht:∀x∈late,x.In)(htr:∀x∈late,x.rv<1000):∃gl V,GN l late gl V:=by
 have hg:=rZ hl;have hi:=fS (fS hl hg) ht;have h1:=lw hl;have h2:(gZ l).length≤l.length:=by
  unfold gZ;rw[Ur];exact Pt (Qc _ _) h1
 have h3:=lw hi;have h4:=bh hi;rw[Pu,Pu]at h3 h4;exact⟨gZ l,_,hl,ht,hg,rfl,h2,h1,Ev hl hr,hi,fun x hx=>(nO hi x hx).in,by omega,rfl,by rw[show av (aA ((l++gZ l)++late))=av ((l++gZ l)++late)from iK (aG hi)],gW (aG hi),Pt (Qc _ _) (by omega),fun x hx=>Ew hl hr ht htr hx⟩
theorem GN.has{l late gl:List Sp}{V:List (ByteArray×Sp)}(G:GN l late gl V){x:Sp}(hx:x∈gl):¬∃y∈V.map (·.2),y.tr=x.tr∧y.id=x.id:=by
 rintro⟨y,hy,e1,e2⟩;obtain⟨z,hz,rfl⟩:=Uu.1 hy;have hg:=(ax oS G.rc.srt).2 hz;rw[G.rc.key z hz]at hg;have:=G.far x hx;unfold aj at hg this;rw[←e1,←e2,hg]at this;cases this
theorem Cm{w:World}{base n cap g j:Nat}{e:TypeId}{sz:Nat}{xs:List Value}(h:w.ownsRow base e sz (.slice (some ⟨g,0,none⟩) n cap) n xs)(u:Value):(w.setCell ⟨g,j,none⟩ u).ownsRow base e sz (.slice (some ⟨g,0,none⟩) n cap) n (xs.set j u):=by
 obtain⟨h1,h2⟩:=h;rcases h2 with⟨h2,_⟩ |⟨g',cap',cur,h2,h3,h4,h5,h6,h7,h8⟩
 ·cases h2
 ·cases h2;exact⟨by rw[TG];exact h1,.inr ⟨g,cap,_,rfl,h3,aq h4 j u,h5,h6,by simpa using h7,by rw[VZ,List.take_set,h8]⟩⟩
def Hc(l:List Sp)(k:Nat):List Sp:=(l.take k).map eV++l.drop k
theorem CD(l:List Sp)(k:Nat):(Hc l k).length=l.length:=by
 unfold Hc;rw[Pu,Ur,UD,Vn];omega
theorem LM{l:List Sp}{k:Nat}{x:Sp}(hk:l[k]?=some x):(Hc l k)[k]?=some x:=by
 have:=(Qh.1 hk).1;unfold Hc;rw[Vg (by rw[Ur,UD];omega),Ur,UD,Nat.min_eq_left (by omega),Nat.sub_self,RS];exact hk
theorem FO(l:List Sp):(l.flatMap bg).length=l.length*9:=by
 exact OW
theorem AW(x:Sp)(n:Nat)(P R:List Value)(h:P.length=n):((P++(bg x++R)).set (n+8) (.bool true)).set (n+3) (.int .i64 1000)=P++(bg (eV x)++R):=by
 subst h;rw[TF _ _ (by omega),TF _ _ (by omega),Tn,Tn];rfl
theorem Ha{l:List Sp}{k:Nat}{x:Sp}(hk:l[k]?=some x):(((Hc l k).flatMap bg).set (k*9+8) (.bool true)).set (k*9+3) (.int .i64 1000)=(Hc l (k+1)).flatMap bg:=by
 have hlt:=(Qh.1 hk).1;have hd:l.drop k=x::l.drop (k+1):=by rw[←(Qh.1 hk).2];exact Vr hlt
 unfold Hc;rw[hd,PO,hk,UX,UX,PU,UX,UR];have hl:(((l.take k).map eV).flatMap bg).length=k*9:=by rw[FO,Ur,UD,Nat.min_eq_left (by omega)]
 rw[AW x _ _ _ hl,Qg];rfl
theorem Hb(l:List Sp):Hc l l.length=l.map eV:=by
 unfold Hc;rw[PM,List.drop_length,Q7]
theorem Mp{w:World}{g j:Nat}{X:List Pl}{q:Pl}(h:sK w (some ⟨g,0,none⟩) X)(hq:X[j]?=some q):w.cell? ⟨g,j*6+2,none⟩=some (.int .i64 q.cl):=by
 obtain⟨g',e,_,hc⟩:=h j q hq;cases e;exact hc 2 _ rfl
@[local go_sem] theorem J0(v0 v1 v2 v3 v4 v5 v6 v7 v8 v9:Value)(w:World):(Instr.field 88 (.agg #[v0,v1,v2,v3,v4,v5,v6,v7,v8,v9]) 0).run prog w=.ok v0 w:=by kernel_rfl
theorem sS(a b:BG)(w:World)(ha:a.At w)(hb:b.At w):
  Calls prog 4 #[.slice a.A a.l.length a.c,.slice b.A b.l.length b.c] w fun e w'=>e=.returned (.bool true)∧Below w.heap.size w w':=by
 obtain⟨⟨hm,hlc,hcm,hok,hr⟩,hA⟩:=ha;obtain⟨⟨hm',hlc',hcm',hok',hr'⟩,hA'⟩:=hb;obtain⟨fa,hfa,ca⟩:=BV a.A a.c a.l hm hok w hr;obtain⟨fb,hfb,cb⟩:=BV b.A b.c b.l hm' hok' w hr';obtain⟨ma,hma⟩:∃m,m=a.l.all fun x=>CodeP.jh (dG x):=⟨_,rfl⟩;obtain⟨mb,hmb⟩:∃m,m=b.l.all fun x=>CodeP.jh (dG x):=⟨_,rfl⟩;have da:∀W,Below w.heap.size w W→Calls prog 6 #[.slice a.A a.l.length a.c] W fun e w'=>e=.returned (.bool ma)∧Below W.heap.size W w':=fun W q=>by
  rw[hma];exact BT a.A a.c a.l hm hok W ((hr.below q).more q.size)
 have db:∀W,Below w.heap.size w W→Calls prog 6 #[.slice b.A b.l.length b.c] W fun e w'=>e=.returned (.bool mb)∧Below W.heap.size W w':=fun W q=>by
  rw[hmb];exact BT b.A b.c b.l hm' hok' W ((hr'.below q).more q.size)
 have CA:=zH ca;have CB:=zH cb;have DA:=zH da;have DB:=zH db;have B0:=zH (Pk w.heap.size w);clear ca cb da db;by_cases hall:(fa&&fb&&ma&&mb)=true
 case neg=>
  clear hm hlc hcm hok hr hA hm' hlc' hcm' hok' hr' hA' hfa hfb hma hmb;go_enter func4,ntmps4;cases fa<;>cases fb<;>cases ma<;>cases mb<;>(try exact absurd rfl hall)<;>clear hall<;>(
   go_wp2_with (first
    |(go_at_call 5;(with_reducible refine(CA.out _ B0.out).mono ?_);rintro e w1 ⟨rfl,b1⟩;have B1:=zH (B0.out.trans (b1.mono B0.out.size));clear B0 b1)
    |(go_at_call 5;(with_reducible refine(CB.out _ B1.out).mono ?_);rintro e w2 ⟨rfl,b2⟩;have B2:=zH (B1.out.trans (b2.mono B1.out.size));clear B1 b2)
    |(go_at_call 6;(with_reducible refine(DA.out _ B2.out).mono ?_);rintro e w3 ⟨rfl,b3⟩;have B3:=zH (B2.out.trans (b3.mono B2.out.size));clear B2 b3)
    |(go_at_call 6;(with_reducible refine(DB.out _ B3.out).mono ?_);rintro e w4 ⟨rfl,b4⟩;have B4:=zH (B3.out.trans (b4.mono B3.out.size));clear B3 b4)
    |(go_at_call 7;(with_reducible refine(lP _).mono ?_);rintro e w9 ⟨rfl,b9⟩))
   go_ret
   first |exact⟨rfl,B1.out.trans (b9.mono B1.out.size)⟩ |exact⟨rfl,B2.out.trans (b9.mono B2.out.size)⟩ |exact⟨rfl,B3.out.trans (b9.mono B3.out.size)⟩ |exact⟨rfl,B4.out.trans (b9.mono B4.out.size)⟩)
 case pos=>
  obtain⟨⟨⟨rfl,rfl⟩,rfl⟩,rfl⟩:((fa=true∧fb=true)∧ma=true)∧mb=true:=by simpa only[UU]using hall
  have ia:=FL (hfa rfl) hok hma.symm;have ib:=FL (hfb rfl) hok' hmb.symm;have na:a.l.length≤20:=(hfa rfl).1;have nb:b.l.length≤20:=(hfb rfl).1;have RA:=zH (Uq hr hA);have RB:=zH (Uq hr' hA');have NA:=zH (Uq na nb);have IN:=zH (Uq ia ib);clear hall hm hm' hok hr hA hok' hr' hA' hfa hfb hma hmb ia ib;rcases a with⟨A,ca,l⟩;rcases b with⟨A',cb,late⟩;dsimp only at*;go_enter func4,ntmps4;go_wp2_with (first
   |(go_at_call 5;(with_reducible refine(CA.out _ B0.out).mono ?_);rintro e w1 ⟨rfl,b1⟩;have B1:=zH (B0.out.trans (b1.mono B0.out.size));clear B0 b1)
   |(go_at_call 5;(with_reducible refine(CB.out _ B1.out).mono ?_);rintro e w2 ⟨rfl,b2⟩;have B2:=zH (B1.out.trans (b2.mono B1.out.size));clear B1 b2)
   |(go_at_call 6;(with_reducible refine(DA.out _ B2.out).mono ?_);rintro e w3 ⟨rfl,b3⟩;have B3:=zH (B2.out.trans (b3.mono B2.out.size));clear B2 b3)
   |(go_at_call 6;(with_reducible refine(DB.out _ B3.out).mono ?_);rintro e w4 ⟨rfl,b4⟩;have B4:=zH (B3.out.trans (b4.mono B3.out.size));clear B3 b4))
  clear CA CB DA DB;go_loopw [5] (fun i wr=>∃k:Nat,k≤l.length∧i=.int .i64 k∧Below w.heap.size w wr∧Hid (∀x∈l.take k,x.rv<1000)) (fun i _=>l.length - (intOf i).toNat)
  case atStart=>exact⟨0,by omega,rfl,B4.out,zH (by simp)⟩
  case round=>
   obtain⟨k,hk,rfl,hb,hpre⟩:=hrel;by_cases hlt:k<l.length
   ·obtain⟨x,hx⟩:=zg hlt;obtain⟨ad,rfl,hadl,c0,c1,c2,c3,c4,c5,c6,c7,c8⟩:=RA.out.1.below hb k x hx;have hi1:(k:Int)< (l.length:Int):=by omega
    have HX:=zH hx;clear hx;by_cases hrv:(1000:Int)≤x.rv
    ·go_wp2_with (go_at_call 7;(with_reducible refine(lP _).mono ?_);rintro e w9 ⟨rfl,b9⟩);go_ret;exact⟨rfl,hb.trans (b9.mono hb.size)⟩
    ·go_wp2_with fail;refine⟨⟨k+1,by omega,by go_num,hb,zH fun y hy=>?_⟩,by simp[intOf];omega⟩;rw[PO,HX.out]at hy;rcases Px.1 hy with hy |hy
     ·exact hpre.out y hy
     ·obtain rfl:y=x:=by simpa using hy
      omega
   ·obtain rfl:k=l.length:=by omega
    rw[PM]at hpre;have B5:=zH hb;clear hb B4;go_wp2_with fail;go_loopw [6] (fun i wr=>∃k:Nat,k≤late.length∧i=.int .i64 k∧Below w.heap.size w wr∧Hid (∀x∈late.take k,x.rv<1000)) (fun i _=>late.length - (intOf i).toNat)
    case atStart=>exact⟨0,by omega,rfl,B5.out,zH (by simp)⟩
    case round=>
     obtain⟨k,hk,rfl,hb,hpre'⟩:=hrel;by_cases hlt:k<late.length
     ·obtain⟨x,hx⟩:=zg hlt;obtain⟨ad,rfl,hadl,c0,c1,c2,c3,c4,c5,c6,c7,c8⟩:=RB.out.1.below hb k x hx;have hi1:(k:Int)< (late.length:Int):=by omega
      have HX:=zH hx;clear hx;by_cases hrv:(1000:Int)≤x.rv
      ·go_wp2_with (go_at_call 7;(with_reducible refine(lP _).mono ?_);rintro e w9 ⟨rfl,b9⟩);go_ret;exact⟨rfl,hb.trans (b9.mono hb.size)⟩
      ·go_wp2_with fail;refine⟨⟨k+1,by omega,by go_num,hb,zH fun y hy=>?_⟩,by simp[intOf];omega⟩;rw[PO,HX.out]at hy;rcases Px.1 hy with hy |hy
       ·exact hpre'.out y hy
       ·obtain rfl:y=x:=by simpa using hy
        omega
     ·obtain rfl:k=late.length:=by omega
      rw[PM]at hpre';obtain⟨gl,V,hG⟩:=MD IN.out.1 hpre.out IN.out.2 hpre'.out;have G:=zH hG;have HN:=zH (zM (w:=wr) 100 (by decide) (own:=fun _=>0) (b:=1) (fun _ _=>rfl) (by decide));clear hG hpre hpre';go_wp2_with (go_at_call 8;(with_reducible refine(HN.out).mono ?_);rintro e w1 ⟨S,Q,M,rfl,b1,own,s1,x1⟩);obtain⟨p,e1,e3,T⟩:=Dx hb s1 x1 b1;obtain⟨wT,hwT⟩:∃wT,wT=w1.alloc (.cells qK 74):=⟨_,rfl⟩;rw[←hwT]at T;simp only[qK]at hwT;rw[←hwT,←e3];subst e1;have T0:=zH T;clear hwT e3 T s1 x1 b1 hb HN B5;obtain⟨lv,hlv⟩:∃lv,bF (aA l)=lv:=⟨_,rfl⟩;have HLV:=zH hlv;have HGL:=zH (show lv.map eV=gl by rw[←hlv];exact G.out.e);have hl20:lv.length≤20:=by
       have h1:=G.out.al;have h2:(bF (aA l)).length≤(aA l).length:=Qc _ _;rw[hlv]at h2;omega
      clear hlv;obtain⟨now,hnow⟩:∃now,V.map (·.2)=now:=⟨_,rfl⟩;have HNOW:=zH hnow;have hn60:now.length≤60:=by
       have:=G.out.vl;rw[←hnow,Ur];omega
      clear hnow;go_wp2_with (first
       |(go_at_call 9;(with_reducible refine(lu T0.out ca (r:=l) (X:=l) G.out.a (by simp only[Qe];omega) (T0.out.arg RA.out.1 RA.out.2) rfl).mono ?_);rintro e w2 ⟨rfl,own2,U2,k2,x2⟩;have T2:=zH U2;clear T0 U2 k2 x2)
       |(go_at_call 11;(with_reducible refine(xe T2.out (by omega) rfl).mono ?_);rintro e w3 ⟨A3,c3,rfl,s3,b3⟩;have T3:=zH (T2.out.below b3);replace s3:=zH s3;clear T2 b3)
       |(go_at_call 16;(with_reducible refine(Dy T3.out c3 (by have:=G.out.al;omega) s3.out HLV.out).mono ?_);rintro e w4 ⟨A4,c4,rfl,o4,g4,b4⟩;have T4:=zH (T3.out.below b4);have O4:=zH o4;have G4:=zH g4;clear T3 b4 o4 g4 s3))
      go_loopw [10] (fun i wr=>∃k,k≤lv.length∧i=.int .i64 k∧Hid (kP own2 w wr p l true)∧Hid (wr.ownsRow w3.heap.size 93 9 (.slice A4 lv.length c4) lv.length ((Hc lv k).flatMap bg))) (fun i _=>lv.length - (intOf i).toNat)
      case atStart=>exact⟨0,by omega,rfl,T4,O4⟩
      case round=>
       obtain⟨k,hk,rfl,T,O⟩:=hrel;by_cases hlt:k<lv.length
       ·obtain⟨x,hx⟩:=zg hlt;have hi1:(k:Int)< (lv.length:Int):=by omega
        obtain⟨g,cap,cur,e,hg,hb0,_⟩:∃g cap cur,Value.slice A4 lv.length c4=.slice (some ⟨g,0,none⟩) lv.length cap∧w3.heap.size≤g∧wr.heap[g]?=some (.cells cur 93 (0,0))∧True:=by
         rcases id O.out.2 with⟨_,h⟩ |⟨g,cap,cur,h1,h2,h3,_⟩
         ·omega
         ·exact⟨g,cap,cur,h1,h2,h3,trivial⟩
        cases e;obtain⟨A',c',e',hR,_⟩:=bE (l:=Hc lv k) (by rw[CD];exact O.out);rw[CD]at e';cases e';obtain⟨d0,d1,d2,d3,d4,d5,d6,d7,d8⟩:=hR.row0 (LM hx);have z8:=ak hb0 (k*9+8);have hb1:=aq hb0 (k*9+8) (.bool true);have e3:(wr.setCell ⟨g,k*9+8,none⟩ (.bool true)).cell? ⟨g,k*9+3,none⟩=some (.int .i64 x.rv):=by
         rw[aa hb1,Array.getElem?_setIfInBounds_ne (by omega),←aa hb0];exact d3
        have z3:=ak hb1 (k*9+3);have HX:=zH hx;clear hb1 hx hR;go_wp2_with fail;have ho:=G4.out g hg;have O1:=Cm (Cm O.out (j:=k*9+8) (.bool true)) (j:=k*9+3) (.int .i64 1000);rw[Ha HX.out]at O1;exact⟨⟨k+1,by omega,by go_num,zH (T.out.far (((Km.refl (fun c=>c=g) wr).setCell (fun _=>rfl) _).setCell (fun _=>rfl) _) ho.1 ho.2.1 ho.2.2),zH O1⟩,by simp[intOf];omega⟩
       ·obtain rfl:k=lv.length:=by omega
        have O1:=O.out;rw[Hb,HGL.out]at O1;have hgn:lv.length=gl.length:=by rw[←HGL.out,Ur]
        rw[hgn]at O1 hl20⊢;have hS5:Da own2 p wr A4 gl:=by
         obtain⟨A',c',e',hR,_,_,hat⟩:=bE O1;cases e';exact⟨hR,fun ad e=>⟨(G4.out _ (hat ad e).1).1,(G4.out _ (hat ad e).1).2.1,(hat ad e).2⟩⟩
        have s5:=zH hS5;clear hS5 O1 O O4 T4 hgn;go_wp2_with (first
         |(go_at_call 9;(with_reducible refine(lu T.out c4 (r:=gl) (X:=l++gl) G.out.gi (by omega) s5.out rfl).mono ?_);rintro e w6 ⟨rfl,own6,U6,k6,x6⟩;have T6:=zH U6;replace s5:=zH (s5.out.step k6 x6);clear T U6 k6 x6)
         |(go_at_call 17;(with_reducible refine(qV T6.out (by rw[Pu];omega) (X:=[]) (congrArg (List.map (·.2)) G.out.no)).mono ?_);rintro e w7 ⟨A7,c7,rfl,s7,b7⟩;have T7:=zH (T6.out.below b7);replace s5:=zH (s5.out.below b7);clear T6 b7 s7)
         |(go_at_call 14;(with_reducible refine(pj T7.out (by rw[Pu];omega) (V:=[]) G.out.no).mono ?_);rintro e w8 ⟨v8,rfl,t8,b8⟩;have T8:=zH (T7.out.below b8);replace s5:=zH (s5.out.below b8);replace t8:=zH t8;clear T7 b8)
         |(go_at_call 13;(with_reducible refine(sG t8.out (Dm _ 0)).mono ?_);rintro e w9 ⟨rfl,b9⟩;have T9:=zH (T8.out.below b9);replace s5:=zH (s5.out.below b9);clear T8 b9 t8)
         |(go_at_call 9;(with_reducible refine(lu T9.out cb (r:=late) (X:=(l++gl)++late) G.out.t (by rw[Pu];omega) (T9.out.arg RB.out.1 RB.out.2) rfl).mono ?_);rintro e w10 ⟨rfl,own10,U10,k10,x10⟩;have T10:=zH U10;replace s5:=zH (s5.out.step k10 x10);clear T9 U10 k10 x10)
         |(go_at_call 17;(with_reducible refine(qV T10.out (by rw[Pu,Pu];omega) (X:=now) (by rw[G.out.v];exact HNOW.out)).mono ?_);rintro e w11 ⟨A11,c11,rfl,s11,b11⟩;have T11:=zH (T10.out.below b11);replace s5:=zH (s5.out.below b11);replace s11:=zH s11;clear T10 b11))
        go_loopw [12] (fun i wr=>∃k,k≤gl.length∧i=.int .i64 k∧Below w11.heap.size w11 wr) (fun i _=>gl.length - (intOf i).toNat)
        case atStart=>exact⟨0,by omega,rfl,Pk _ _⟩
        case round=>
         obtain⟨k,hk,rfl,hb⟩:=hrel;by_cases hlt:k<gl.length
         ·obtain⟨x,hx⟩:=zg hlt;have hi1:(k:Int)< (gl.length:Int):=by omega
          have HX:=zH hx;have q5:=s5.out.below hb;have q11:=s11.out.below hb;obtain⟨ad,rfl,_⟩:=q5.rd k x hx;have R5:=q5.rd;have HH:=zH (fun W (b:Below wr.heap.size wr W)=>BU A11 c11 now x.tr x.id (by omega) W ((q11.rd.below b).more b.size));clear hx q5 q11;go_wp2_with fail;refine zr (fun W=>cm W wr.heap.size (some ad) gl) R5 fun hS0=>?_;(refine zh hS0 1 11 0 ?_;simp only[zd];((iterate 11 (refine zt (fun W hW=>by obtain⟨ad',e',_,d0,d1,d2,d3,d4,d5,d6,d7,d8⟩:=hW k x HX.out;cases e';exact zq) ?_;simp only[zp]));refine ac ?_));(refine zo 11 rfl fun K hK=>?_;go_simp);go_at_call 18;(with_reducible refine(HH.out _ (Pk wr.heap.size wr).drew).mono ?_);rintro e3 v3 ⟨r,rfl,hr3,g3⟩;obtain rfl:r=false:=by
           cases r with
           |false=>rfl
           |true=>exact absurd (hr3.1 rfl) (HNOW.out▸G.out.has (Pv HX.out))
          have x3:=hS0.below (g3.mono (Po _));have h3:=zH (hb.trans (((Pk wr.heap.size wr).drew.trans g3).mono hb.size));go_wp2_with fail;(refine zu hK x3 ?_;clear hK K;try simp only[zp]);(refine ze ?_);clear x3 hS0 g3 hr3;go_wp2_with fail;exact⟨⟨k+1,by omega,by go_num,h3.out⟩,by simp[intOf];omega⟩
         ·obtain rfl:k=gl.length:=by omega
          have T12:=zH (T11.out.below hb)
          replace s5:=zH (s5.out.below hb)
          replace s11:=zH (s11.out.below hb)
          clear T11 hb;go_wp2_with (go_at_call 14;(with_reducible refine(pj T12.out (by rw[Pu,Pu];omega) (V:=V) G.out.v).mono ?_);rintro e w13 ⟨v13,rfl,t13,b13⟩;have T13:=zH (T12.out.below b13);replace s5:=zH (s5.out.below b13);replace s11:=zH (s11.out.below b13);clear T12 b13;obtain⟨vp,X,v1,LD,v2,LF,vo,lo,ve,O9,vn,ln,rfl,hT⟩:=t13);obtain⟨A13,c13,rfl,hP,_⟩:=qz hT.p;have HP:=zH hP;have HI:=zH hT.isp;have hXl:X.length≤60:=by rw[hT.isp.len,←Ur (f:=(·.2)),HNOW.out];exact hn60
          clear hP hT;go_loopw [14,15] (fun i _ wr=>∃k,k≤now.length∧i=.int .i64 k∧Below w13.heap.size w13 wr) (fun i _ _=>now.length - (intOf i).toNat)
          case atStart=>exact⟨0,by omega,rfl,Pk _ _⟩
          case round=>
           obtain⟨k,hk,rfl,hb⟩:=hrel;by_cases hlt:k<now.length
           ·obtain⟨x,hx⟩:=zg hlt;have hi1:(k:Int)< (now.length:Int):=by omega
            have HX:=zH hx;have q5:=s5.out.below hb;have q11:=s11.out.below hb;obtain⟨ad,rfl,_⟩:=q11.rd k x hx;have HH:=zH (fun W (b:Below wr.heap.size wr W)=>BU A4 c4 gl x.tr x.pa (by omega) W ((q5.rd.below b).more b.size));have R11:=q11.rd;have RP:=HP.out.below hb;have hV:x∈V.map (·.2):=by rw[HNOW.out];exact Pv hx
            have HV:=zH hV;clear hx q5 q11 hV;go_wp2_with fail;refine zr (fun W=>cm W wr.heap.size (some ad) now∧sK W A13 X) ⟨R11,RP⟩ fun hS0=>?_;(refine zh hS0 2 11 0 ?_;simp only[zd];((iterate 11 (refine zt (fun W hW=>by obtain⟨ad',e',_,d0,d1,d2,d3,d4,d5,d6,d7,d8⟩:=hW.1 k x HX.out;cases e';exact zq) ?_;simp only[zp]));refine ac ?_));(refine zo 11 rfl fun K hK=>?_;go_simp);go_at_call 19;(with_reducible refine(zX A13 c13 X x.tr x.id (by omega) _ hS0.2).mono ?_);rintro e3 v3 ⟨h3,g3⟩;rcases h3 with⟨j,q,rfl,hq,e1,e2⟩ |⟨_,hno⟩
            ·have HQ:=zH hq;have HE:=zH (Uq e1 e2);obtain⟨g,rfl,_⟩:=hS0.2 j q hq;have hj0:¬((j:Int)<0):=by omega
             have hjX:j<X.length:=(Qh.1 hq).1;have hj1:(j:Int)< (X.length:Int):=by omega
             have x3:cm v3 wr.heap.size (some ad) now∧sK v3 (some ⟨g,0,none⟩) X:=⟨hS0.1.below (g3.mono (Po _)),hS0.2.below g3⟩;have b3:=zH (hb.trans (((Pk wr.heap.size wr).drew.trans g3).mono hb.size));have z3:=Pt ((Pk wr.heap.size wr).drew).size g3.size;have Q3:=zH ((Pk wr.heap.size wr).drew.trans g3);clear hq e1 e2;go_wp2_with fail;(refine zu hK x3 ?_;clear hK K;try simp only[zp]);(refine zh x3 0 1 12 ?_;simp only[zd];((iterate 1 (refine zU ?_;simp only[zp]));refine ac ?_));(refine ze ?_);have X3:=zH x3;clear x3 hS0 g3 R11 RP;go_wp2_with fail;by_cases hpa:0<x.pa
             ·refine zr (fun W=>cm W wr.heap.size (some ad) now∧sK W (some ⟨g,0,none⟩) X) X3.out fun hS0=>?_;(refine zh hS0 11 21 0 ?_;simp only[zd];((iterate 21 (refine zt (fun W hW=>by obtain⟨ad',e',_,d0,d1,d2,d3,d4,d5,d6,d7,d8⟩:=hW.1 k x HX.out;cases e';exact zq) ?_;simp only[zp]));refine ac ?_));(refine zo 21 rfl fun K hK=>?_;go_simp);go_at_call 18;(with_reducible refine(HH.out _ Q3.out.drew).mono ?_);rintro e4 v4 ⟨r,rfl,hr4,g4⟩;have x4:cm v4 wr.heap.size (some ad) now∧sK v4 (some ⟨g,0,none⟩) X:=⟨hS0.1.below (g4.mono z3),hS0.2.below g4⟩;have B4:=zH (b3.out.drew.trans (g4.mono b3.out.drew.size));cases r with
              |false=>
               clear hr4;go_wp2_with fail;(refine zu hK x4 ?_;clear hK K;try simp only[zp]);(refine zh x4 0 10 22 ?_;simp only[zd];((iterate 10 ((first |refine zs ?_ |refine zU ?_);simp only[zp]));refine ac ?_));(refine ze ?_);clear x4 hS0 g4;exact Oj
              |true=>
               have hcl:q.cl=2:=by
                obtain⟨y,hy,f1,f2⟩:=hr4.1 rfl;have hf:=G.out.far y hy;unfold aj at hf;rw[f1,f2]at hf;exact Ll G.out.rc HI.out HV.out (Pv HQ.out) HE.out.1 HE.out.2 hf hpa
               have HCL:=zH hcl;clear hr4 hcl;go_wp2_with fail;(refine zu hK x4 ?_;clear hK K;try simp only[zp]);(refine zh x4 0 10 22 ?_;simp only[zd];((iterate 10 (refine zt (fun W hW=>by have f2:=Mp hW.2 HQ.out;rw[HCL.out]at f2;exact zq) ?_;simp only[zp]));refine ac ?_));(refine ze ?_);clear x4 hS0 g4;exact Oj
             ·obtain⟨ad',e',_,d0,d1,d2,d3,d4,d5,d6,d7,d8⟩:=X3.out.1 k x HX.out;cases e';clear d0 d1 d2 d3 d4 d5 d6 d7 d8;refine zr (fun W=>cm W wr.heap.size (some ad) now) X3.out.1 fun hS0=>?_;(refine zh hS0 11 21 0 ?_;simp only[zd];((iterate 21 ((first |refine zs ?_ |refine zt (fun W hW=>by obtain⟨ad',e',_,d0,d1,d2,d3,d4,d5,d6,d7,d8⟩:=hW k x HX.out;cases e';exact zq) ?_);simp only[zp]));refine ac ?_));(refine aE 21 (by kernel_rfl) rfl (fun K hK=>?_);rw[Pm (SX.1 (by rfl))];simp only[zp]);have B4:=zH b3.out.drew;(refine zu hK hS0 ?_;clear hK K;try simp only[zp]);(refine zh hS0 0 10 22 ?_;simp only[zd];((iterate 10 ((first |refine zs ?_ |refine zU ?_);simp only[zp]));refine ac ?_));(refine ze ?_);clear hS0;exact Oj
            ·obtain⟨q,hq,e1,e2⟩:=JC HI.out HV.out;exact absurd ⟨e1,e2⟩ (hno q hq)
           ·obtain rfl:k=now.length:=by omega
            have T14:=zH (T13.out.below hb);obtain⟨Z,hz⟩:∃Z,aA ((l++gl)++late)=Z:=⟨_,rfl⟩;have HZ:=zH (show aA ((l++gl)++late)=Z∧(∀x∈Z,x.In)∧Z.length≤300∧cB (av Z)=V from⟨hz,by rw[←hz];exact G.out.s3,by rw[←hz];have:=G.out.l3;omega,by rw[←hz];exact G.out.vg⟩);clear T13 hb s5 s11 hz;go_wp2_with (first
             |(go_at_call 14;(with_reducible refine(pj T14.out (by rw[Pu,Pu];omega) (V:=V) G.out.v).mono ?_);rintro e w15 ⟨v15,rfl,t15,b15⟩;have T15:=zH (T14.out.below b15);replace t15:=zH t15;clear T14 b15)
             |(go_at_call 11;(with_reducible refine(xe T15.out (by rw[Pu,Pu];omega) HZ.out.1).mono ?_);rintro e w16 ⟨A16,c16,rfl,s16,b16⟩;have T16:=zH (T15.out.below b16);replace t15:=zH (t15.out.below b16);replace s16:=zH s16;clear T15 b16)
             |(go_at_call 15;(with_reducible refine(Jo T16.out c16 HZ.out.2.1 HZ.out.2.2.1 s16.out HZ.out.2.2.2).mono ?_);rintro e w17 ⟨v17,rfl,t17,b17⟩;have T17:=zH (T16.out.below b17);replace t15:=zH (t15.out.below b17);replace t17:=zH t17;clear T16 b17 s16)
             |(go_at_call 13;(with_reducible refine(sG t15.out t17.out).mono ?_);rintro e w18 ⟨rfl,b18⟩;have T18:=zH (T17.out.below b18);clear T17 b18 t15 t17)
             |(go_at_call 7;(with_reducible refine(lP _).mono ?_);rintro e w19 ⟨rfl,b19⟩;have T19:=zH (T18.out.below b19);clear T18 b19))
            go_ret;exact⟨rfl,T19.out.b⟩
end
