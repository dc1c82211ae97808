/- For WholeGossip: contracts of functions and plain laws. -/
import Derived.Test.YtfgfbacnkpeneaaGreatDoorVBe
set_option maxRecDepth 100000
set_option maxHeartbeats 4000000
set_option linter.unusedVariables false
set_option linter.unusedSimpArgs false
namespace Go.Proofs.YtfgfbacnkpeneaaGreatDoor
open Go.Proofs.Tryz Go.ChangeShapes Go.WideShapes Go.ChangeAt Go.RowKit Go.Deep AvlP BigP
abbrev Vy:=@List.mem_append_right
theorem Ug{P:Prop}(h:P:=by
 obtain⟨ad,rfl,hadl,c0,c1,c2,c3,c4,c5,c6,c7,c8⟩:=(HR'.out.below Bi) k x hk';have hi1:(k:Int)< (inn.length:Int):=by omega
 have hxo:=HI.out x (Pv hk');have HBX:=HB.out x (Pv hk');have nn:=Up wi (.cells (SA x) 93);have bn:=zB wi (.cells (SA x) 93);have Bn:=Bi.trans (bn.mono Bi.size);have HSX:=zH (aL x hxo);have hbo:=hbi.trans (bn.mono hbi.size);clear hk';rcases hq:ag oS A (aj x)with _ |par
 ·have hpx:=HPA.out x hxo _ Bn.drew none hq;simp only[AvI.vo]at hpx;have HPX:=zH hpx;clear hpx;clear hq HBX;go_wp2_with fail;generalize wi.alloc (.cells (SA x) 93)=wx at nn bn Bn hbo HPX⊢;refine zr (fun V=>V.heap[wi.heap.size]?=some (.cells (SA x) 93 (0,0))) nn fun hS0=>?_;(refine zh hS0 6 7 0 ?_;simp only[zd];((iterate 7 (refine zt (fun W hW=>by have y0:=aa hW;exact zq) ?_;simp only[zp]));refine ac ?_));(refine zo 7 rfl fun K hK=>?_;go_simp);go_at_call 228;(with_reducible refine(HPX.out).mono ?_);rintro e5 w5 ⟨rfl,b5⟩;have x5:=af hS0 b5;go_wp2_with fail;(refine zu hK x5 ?_;clear hK K;try simp only[zp]);(refine zh x5 0 5 8 ?_;simp only[zd];((iterate 5 (refine zU ?_;simp only[zp]));refine ac ?_));(refine ze ?_);clear hS0;have b5':Below wx.heap.size wx w5:=((Pk _ wx).drew).trans b5;have y0:=aa x5;go_wp2_with fail;exact⟨⟨k+1,by omega,by go_num,hbo.trans (b5'.mono hbo.size)⟩,by simp[intOf];omega⟩
 ·have hpx:=HPA.out x hxo _ Bn.drew (some par) hq;simp only[AvI.vo]at hpx;have HPX:=zH hpx;clear hpx;obtain⟨y,hy1,hy2⟩:∃y∈out,aj y=aj x:=HBX.resolve_left (fun e=>by rw[e]at hq;cases hq);have hps:0<f (kk x.tr x.id):=by have:=HPOS.out y hy1;rw[hy2]at this;exact this
  have hne:(f (kk x.tr x.id)==0)=false:=by simp;omega
  clear hq HBX hy1 hy2;go_wp2_with fail;generalize wi.alloc (.cells (SA x) 93)=wx at nn bn Bn hbo HPX⊢;refine zr (fun V=>V.heap[wi.heap.size]?=some (.cells (SA x) 93 (0,0))) nn fun hS0=>?_;(refine zh hS0 6 7 0 ?_;simp only[zd];((iterate 7 (refine zt (fun W hW=>by have y0:=aa hW;exact zq) ?_;simp only[zp]));refine ac ?_));(refine zo 7 rfl fun K hK=>?_;go_simp);go_at_call 228;(with_reducible refine(HPX.out).mono ?_);rintro e5 w5 ⟨rfl,b5⟩;have x5:=af hS0 b5;go_wp2_with fail;(refine zu hK x5 ?_;clear hK K;try simp only[zp]);(refine zh x5 0 5 8 ?_;simp only[zd];((iterate 5 (refine zU ?_;simp only[zp]));refine ac ?_));(refine ze ?_);clear hS0;have b5':Below wx.heap.size wx w5:=((Pk _ wx).drew).trans b5;have hb5:=hbo.trans (b5'.mono hbo.size);have y0:=aa x5;go_wp2_with (go_at_call 27;(with_reducible refine(HSX.out _).mono ?_);rintro e6 w6 ⟨rfl,b6⟩;have hb6:=hb5.trans (b6.mono hb5.size);have hl6:=(HMP.out.below hb6).look (cQ x.tr x.id));exact⟨⟨k+1,by omega,by go_num,hb6⟩,by simp[intOf];omega⟩):P:=h
theorem IN{P:Prop}(h:P:=by
 refine⟨⟨k+1,_,by omega,by go_num,hm7,fun y hy=>?_,fun a=>?_,hkm6.trans hk7⟩,by simp[intOf];omega⟩
 ·show 0<if aj y=kk x.tr x.id then f (kk x.tr x.id)+1 else f (aj y)
  split
  ·omega
  ·rcases HST.out y hy with h |rfl
   ·exact HF.out.1 y h
   ·rename_i hne;exact absurd rfl hne
 ·show 0≤(if a=kk x.tr x.id then f (kk x.tr x.id)+1 else f a)∧(if a=kk x.tr x.id then f (kk x.tr x.id)+1 else f a)≤((k+1:Nat):Int);have:=HF.out.2 a;split<;>omega):P:=h
theorem O2{P:Prop}(h:P:=by
 exact⟨own2,cs2,k1,h2.trans k2,h3.trans' k3 fun c hc hf=>hf.ext h4 hc,h4.trans k4 h3.size⟩):P:=h
theorem Pb{P:Prop}(h:P:=by
 go_wp2_with fail;go_ret;exact⟨rfl,Bi⟩):P:=h
section
abbrev sV(a:ByteArray):Value:=.string a
abbrev zy(a:ByteArray):Prop:=a.size≤maxLen
theorem ta:MK prog 9 sV zy:=Lp UZ
def kQ(w:World)(M:Nat)(f:ByteArray→Int):Prop:=∃g:ByteArray→Option Int,cF prog 9 sV zy iV w M g∧∀t,(g t).getD 0=f t
section
variable{w w':World}{M:Nat}{f:ByteArray→Int}
theorem kQ.lt(h:kQ w M f):M<w.heap.size:=by
 obtain⟨g,hm,_⟩:=h;exact hm.lt
theorem kQ.kp{F:Nat→Prop}(h:kQ w M f)(hk:Km F w w')(hf:¬F M):kQ w' M f:=by
 exact OU
theorem kQ.below(h:kQ w M f)(hb:Below w.heap.size w w'):kQ w' M f:=by
 exact OV
theorem lW(w:World):kQ (w.alloc (.map #[] 0)) w.heap.size (fun _=>0):=⟨_,gy w,fun _=>rfl⟩
theorem kQ.look(h:kQ w M f){a:ByteArray}(ha:zy a):(Instr.lookup 218 (.map (some M)) (.string a) false).run prog w=.ok (.int .i64 (f a)) w:=by
 obtain⟨g,hm,hg⟩:=h;have:=hm.look ta underlying218 ha (fG w) false;rw[gz,hg]at this;exact this
theorem kQ.put(h:kQ w M f){a:ByteArray}(ha:zy a)(b:Int):∃w',(Instr.mapUpdate 218 (.map (some M)) (.string a) (.int .i64 b)).run prog w=.ok () w'∧kQ w' M (fun x=>if x=a then b else f x)∧Km (fun b=>b=M) w w'∧w'.heap.size=w.heap.size:=by
 obtain⟨g,hm,hg⟩:=h;obtain⟨w',h1,h2,h3,h4⟩:=hm.put ta underlying218 ha b;exact NW
end
theorem cQ(a b:Int):zy (kk a b):=by unfold zy;rw[aY];unfold maxLen;omega
theorem uI(x:Sp)(hx:x.gn=false)(w:World):Calls prog 250 #[.agg #[.int .i64 x.tr,.int .i64 x.id,.int .i64 x.pa,.int .i64 x.rv,.string x.sv,.string x.op,.int .i64 x.st,.int .i64 x.du,.bool x.gn]] w fun e w'=>e=.returned (.bool false)∧Below w.heap.size w w':=by
 have nn:=Up w (.cells #[.int .i64 x.tr,.int .i64 x.id,.int .i64 x.pa,.int .i64 x.rv,.string x.sv,.string x.op,.int .i64 x.st,.int .i64 x.du,.bool x.gn] 93);have hb:=zB w (.cells #[.int .i64 x.tr,.int .i64 x.id,.int .i64 x.pa,.int .i64 x.rv,.string x.sv,.string x.op,.int .i64 x.st,.int .i64 x.du,.bool x.gn] 93);have c8:=aa nn 8;rw[hx]at*;go_enter func250,ntmps250;exact WA
section
variable{t:Nat}{own:Nat→Nat}
theorem Hx(B q:Nat)(p:Option Addr)(A:List (ByteArray×Int))(Ao Ai:Option Addr)(co ci:Nat)(out inn:List Sp)(ho:cD out)(hi:cD inn)(hd:∀x∈out,x∉inn)(hm:out.length≤700000)(hm':inn.length≤700000)
  (hg:∀x∈out,x.gn=false)(hg':∀x∈inn,x.gn=false)(hA:∀x∈out,ag oS A (aj x)=some x.pa)(hB:∀x∈inn,ag oS A (aj x)=none∨∃y∈out,aj y=aj x)
  (w:World)(hc:w.cell? ⟨B,q,none⟩=some (.pointer p))(hT:dm AvI.nd oS own t w p A)(hr:cm w w.heap.size Ao out)(hr':cm w w.heap.size Ai inn):
  Calls prog 180 #[.pointer (some ⟨B,q,none⟩),.agg #[.slice Ao out.length co,.slice Ai inn.length ci]] w fun e w'=>e=.returned (.int .i64 0)∧Below w.heap.size w w':=by
 have hbw:=Uy w _ hc;have b0:=zB w (.cells #[.slice Ao out.length co,.slice Ai inn.length ci] 103);have n0:=Up w (.cells #[.slice Ao out.length co,.slice Ai inn.length ci] 103);have m0:=aa n0 0;have m1:=aa n0 1;have HRI:=zH (fun w1 (b:Below w.heap.size w w1)=>lE Ao Ai co ci out inn ho hi hd hm hm' w1 ((hr.below b).more b.size) ((hr'.below b).more b.size));have hany:∀l:List Sp,l.any (fun _=>false)=false:=fun l=>by simp
 have h1:=fun w1 (b1:Below w.heap.size w w1)=>qj Ao co out (fun _=>false) (by unfold maxLen;omega) w1 ((hr.below b1).more b1.size) (fun x hx W _=>uI x (hg x hx) W);have h2:=fun w1 (b1:Below w.heap.size w w1)=>qj Ai ci inn (fun _=>false) (by unfold maxLen;omega) w1 ((hr'.below b1).more b1.size) (fun x hx W _=>uI x (hg' x hx) W);simp only[hany]at h1 h2;have H1:=zH h1;have H2:=zH h2;have HPA:=zH (fun(x:Sp) (hx:x.Ok) (w1:World) (b1:Below w.heap.size w w1) (r:Option Int) (e:ag oS A (aj x)=r)=>jz (own:=own) (t:=t) B q p A x.tr x.id hx.1 hx.2.1 w1 ((b1.cell hbw).trans hc) (hT.below b1) r e);have HO:=zH (show ∀x∈out,x.Ok from fun x hx=>(ho.vd x hx).ok);have HI:=zH (show ∀x∈inn,x.Ok from fun x hx=>(hi.vd x hx).ok);have HR:=zH hr;have HR':=zH hr';have HA:=zH hA;have HB:=zH hB;have HB0:=zH b0;clear h1 h2 hr hr' hA hB hT hc hany hg hg' ho hi hd;go_enter func180,ntmps180;go_wp2_with (first |(go_at_call 52;(with_reducible refine(HRI.out _ HB0.out).mono ?_);rintro e w1 ⟨rfl,b1⟩;have B1:=ah b1 HB0.out;have n1:=af n0 b1;have k0:=aa n1 0;have k1:=aa n1 1;clear HRI) |(go_at_call 101;(with_reducible refine(H1.out _ B1).mono ?_);rintro e w2 ⟨rfl,b2⟩;have B2:=ah b2 B1;have n2:=af n1 b2;have j0:=aa n2 0;have j1:=aa n2 1;clear H1) |(go_at_call 101;(with_reducible refine(H2.out _ B2).mono ?_);rintro e w3 ⟨rfl,b3⟩;have B3:=ah b3 B2;have n3:=af n2 b3;have i0:=aa n3 0;have i1:=aa n3 1;have M3:=lW w3;have hmk:=QT (P:=prog) 218 w3;have n4:=ar n3 (.map #[] 0);have i2:=aa n4 0));have B4:=ae (.map #[] 0) B3;have e4:(w3.alloc (.map #[] 0)).heap.size=w3.heap.size+1:=Pq _ _;have e3:=B3.size;have s1:w.heap.size<w3.heap.size:=by have:=am n3;omega
 generalize w3.alloc (.map #[] 0)=w4 at*;clear hmk n0 n1 n2 n3 m0 m1 k0 k1 j0 j1 i0 i1 B1 B2 B3 b1 b2 b3 b0;have HN4:=zH n4;have HB4:=zH B4;have HM3:=zH M3;clear M3 n4 B4;go_loopw [34] (fun i wr=>∃(k:Nat) (f:ByteArray→Int),k≤out.length∧i=.int .i64 k∧kQ wr w3.heap.size f∧(∀x∈out.take k,0<f (aj x))∧(∀a,0≤f a∧f a≤k)∧Km (fun b=>b=w3.heap.size) w4 wr) (fun i _=>out.length - (intOf i).toNat)
 case atStart=>exact⟨0,fun _=>0,by omega,rfl,HM3.out,by simp,fun _=>⟨by simp,by simp⟩,Km.refl _ _⟩
 case round=>
  obtain⟨k,f,hk,rfl,hmap,hpos,hbd,hkm⟩:=hrel;obtain⟨wo,rfl⟩:∃wo,wo=wr:=⟨_,rfl⟩;have Bo:Below w.heap.size w wo:=HB4.out.trans (hkm.below (fun b hb e=>by omega) HB4.out.size);have hso:=Bo.size;by_cases hlt:k<out.length
  ·obtain⟨x,hk'⟩:=zg hlt;obtain⟨ad,rfl,hadl,c0,c1,c2,c3,c4,c5,c6,c7,c8⟩:=(HR.out.below Bo) k x hk';have hi1:(k:Int)< (out.length:Int):=by omega
   have hxo:=HO.out x (Pv hk');have HAX:=HA.out x (Pv hk');have HST:=zH (show ∀y∈out.take (k+1),y∈out.take k∨y=x from fun y hy=>by
    rw[PO,hk']at hy;simpa using hy)
   have nn:=Up wo (.cells (SA x) 93);have bn:=zB wo (.cells (SA x) 93);have Bn:=Bo.trans (bn.mono hso);have hmap':=hmap.below bn;have hkm':=hkm.trans (Km.of_below _ bn);have hpx:=HPA.out x hxo _ Bn.drew (some x.pa) HAX;simp only[AvI.vo]at hpx;have HPX:=zH hpx;clear hpx;have HSX:=zH (aL x hxo);have HF:=zH (Uq hpos hbd);have hM0:=hmap.lt;clear hk' hpos hbd HAX;go_wp2_with fail;generalize wo.alloc (.cells (SA x) 93)=wx at nn bn Bn hmap' hkm' HPX⊢;have HNN:=zH nn;refine zr (fun V=>V.heap[wo.heap.size]?=some (.cells (SA x) 93 (0,0))) nn fun hS0=>?_;(refine zh hS0 6 7 0 ?_;simp only[zd];((iterate 7 (refine zt (fun W hW=>by have y0:=aa hW;exact zq) ?_;simp only[zp]));refine ac ?_));(refine zo 7 rfl fun K hK=>?_;go_simp);go_at_call 228;(with_reducible refine(HPX.out).mono ?_);rintro e5 w5 ⟨rfl,b5⟩;have x5:=af hS0 b5;go_wp2_with fail;(refine zu hK x5 ?_;clear hK K;try simp only[zp]);(refine zh x5 0 5 8 ?_;simp only[zd];((iterate 5 (refine zU ?_;simp only[zp]));refine ac ?_));(refine ze ?_);clear hS0;have b5':Below wx.heap.size wx w5:=((Pk _ wx).drew).trans b5;have hmap5:=hmap'.below b5';have hkm5:=hkm'.trans (Km.of_below _ b5');have y0:=aa x5;go_wp2_with (go_at_call 27;(with_reducible refine(HSX.out _).mono ?_);rintro e6 w6 ⟨rfl,b6⟩;have hmap6:=hmap5.below b6;have hkm6:=hkm5.trans (Km.of_below _ b6);have hl6:=hmap6.look (cQ x.tr x.id);have hbk:=HF.out.2 (kk x.tr x.id);have gw:=Qp (f (kk x.tr x.id)+1) (by omega);obtain⟨w7,hrun,hm7,hk7,hs7⟩:=hmap6.put (cQ x.tr x.id) (f (kk x.tr x.id)+1));exact IN
  ·obtain rfl:k=out.length:=by omega
   rw[PM]at hpos;have HPOS:=zH hpos;have no:wo.heap[w.heap.size]?=some (.cells #[.slice Ao out.length co,.slice Ai inn.length ci] 103 (0,0)):=hkm.at HN4.out (fun e=>by omega);have o1:=aa no 1;have HMP:=zH hmap;clear hpos hbd hkm hmap;go_wp2_with fail;go_loopw [66] (fun i wi=>∃k:Nat,k≤inn.length∧i=.int .i64 k∧Below wo.heap.size wo wi) (fun i _=>inn.length - (intOf i).toNat)
   case atStart=>exact⟨0,by omega,rfl,Pk _ _⟩
   case round=>
    obtain⟨k,hk,rfl,hbi⟩:=hrel;obtain⟨wi,rfl⟩:∃wi,wi=wr:=⟨_,rfl⟩;have Bi:=Bo.trans (hbi.mono hso);by_cases hlt:k<inn.length
    ·obtain⟨x,hk'⟩:=zg hlt;exact Ug
    ·obtain rfl:k=inn.length:=by omega
     exact Pb
end
structure WS where
 A:List (ByteArray×Int)
 C:List (ByteArray×Unit)
 P:List (ByteArray×Pl)
 U:List (ByteArray×Pl)
 G:List (ByteArray×Int)
structure WS.Small(s:WS):Prop where
 a:s.A.length≤700000
 c:s.C.length≤700000
 p:s.P.length≤700000
 u:s.U.length≤700000
 g:s.G.length≤700000
 i:∀z∈s.A,aB z.2
 k:∀z∈s.C,z.1.size=24
structure eY(own:Nat→Nat)(b:Nat)(w:World)(B q:Nat)(cs:Array Value)(ty:TypeId)(W:Nat)(ds:Array Value)(p1 p2 p3 p4 p5:Option Addr)(s:WS)(n:Int):Prop where
 bB:w.heap[B]?=some (.cells cs ty (0,0))
 bW:w.heap[W]?=some (.cells ds 292 (0,0))
 k0:cs[q]?=some (.pointer p1)
 k1:cs[q+1]?=some (.int .i64 (s.A.length:Nat))
 k2:cs[q+2]?=some (.pointer p2)
 k3:cs[q+3]?=some (.int .i64 (s.C.length:Nat))
 k4:cs[q+4]?=some (.pointer p3)
 k5:cs[q+5]?=some (.int .i64 (s.P.length:Nat))
 d0:ds[0]?=some (.pointer (some ⟨B,q,none⟩))
 d1:ds[1]?=some (.pointer p4)
 d2:ds[2]?=some (.int .i64 (s.U.length:Nat))
 d3:ds[3]?=some (.pointer p5)
 d4:ds[4]?=some (.int .i64 (s.G.length:Nat))
 d5:ds[5]?=some (.int .i64 n)
 tA:dm AvI.nd oS own b w p1 s.A
 tC:dm AvK.nd oS own (b+1) w p2 s.C
 tP:dm AvP.nd oS own (b+2) w p3 s.P
 tU:dm AvP.nd oS own (b+3) w p4 s.U
 tG:dm AvI.nd oS own (b+4) w p5 s.G
 ow:Ow own w
 nB:own B<b∨b+5≤own B
 nW:own W<b∨b+5≤own W
 ne:B≠W
def be(own:Nat→Nat)(b:Nat)(w:World)(B q:Nat)(cs:Array Value)(ty:TypeId)(W:Nat)(s:WS):Prop:=∃ds p1 p2 p3 p4 p5 n,eY own b w B q cs ty W ds p1 p2 p3 p4 p5 s n
def FW(own:Nat→Nat)(b B W:Nat)(c:Nat):Prop:=c=B∨c=W∨(b≤own c∧own c<b+5)
def az(own:Nat→Nat)(b:Nat)(w w':World)(B q:Nat)(cs:Array Value)(ty:TypeId)(W:Nat)(s':WS):Prop:=∃own' cs',be own' b w' B q cs' ty W s'∧aT q 6 cs cs'∧Kp (FW own b B W) w w'∧aO own own' w
section
variable{own own1:Nat→Nat}{b:Nat}{w w1 w2:World}{B q:Nat}{cs cs1 ds:Array Value}{ty:TypeId}{W:Nat}{p1 p2 p3 p4 p5 r:Option Addr}{s s1 s2:WS}{n:Int}
theorem eY.below(h:eY own b w B q cs ty W ds p1 p2 p3 p4 p5 s n)(hb:Below w.heap.size w w1):eY own b w1 B q cs ty W ds p1 p2 p3 p4 p5 s n:=
 ⟨af h.bB hb,af h.bW hb,h.k0,h.k1,h.k2,h.k3,h.k4,h.k5,h.d0,h.d1,h.d2,h.d3,h.d4,h.d5,h.tA.below hb,h.tC.below hb,h.tP.below hb,h.tU.below hb,h.tG.below hb,h.ow.mono hb.size,h.nB,h.nW,h.ne⟩
theorem be.below(h:be own b w B q cs ty W s)(hb:Below w.heap.size w w1):be own b w1 B q cs ty W s:=by
 obtain⟨ds,p1,p2,p3,p4,p5,n,h⟩:=h;exact⟨ds,p1,p2,p3,p4,p5,n,h.below hb⟩
theorem be.same(h:be own b w B q cs ty W s)(hb:Below w.heap.size w w1):az own b w w1 B q cs ty W s:=⟨own,cs,h.below hb,aT.refl _ _ _,Kp.of_below _ hb,aO.refl _ _⟩
theorem FW.ext(he:aO own own1 w){c:Nat}(hc:c<w.heap.size)(h:FW own1 b B W c):FW own b B W c:=by
 unfold FW at*;rw[he c hc]at h;exact h
theorem az.after(h1:be own1 b w1 B q cs1 ty W s1)(h2:aT q 6 cs cs1)(h3:Kp (FW own b B W) w w1)(h4:aO own own1 w)(k:az own1 b w1 w2 B q cs1 ty W s2):az own b w w2 B q cs ty W s2:=by
 obtain⟨own2,cs2,k1,k2,k3,k4⟩:=k;exact O2
theorem az.trans(h:az own b w w1 B q cs ty W s1)(k:∀own1 cs1,be own1 b w1 B q cs1 ty W s1→az own1 b w1 w2 B q cs1 ty W s2):az own b w w2 B q cs ty W s2:=by
 obtain⟨own1,cs1,h1,h2,h3,h4⟩:=h;exact az.after h1 h2 h3 h4 (k own1 cs1 h1)
theorem az.below(h:az own b w w1 B q cs ty W s)(hb:Below w1.heap.size w1 w2):az own b w w2 B q cs ty W s:=h.trans fun _ _ h1=>h1.same hb
theorem eY.plc{P':List (ByteArray×Pl)}(h:eY own b w B q cs ty W ds p1 p2 p3 p4 p5 s n)(m:bI AvP.nd oS own (b+2) w w1 B (q+4) cs ty P' own1 r):az own b w w1 B q cs ty W {s with P:=P'}:=by
 have hn:=cX (q+4) cs (.pointer r) (.int .i64 (P'.length:Nat));have ha:=gh (u:=.pointer r) (v:=.int .i64 (P'.length:Nat)) h.k4 h.k5;have hk:∀t,t≠b+2→own B≠t→∀c,c<w.heap.size→own c=t→¬(c=B∨own c=b+2):=fun t ht hB c _ e hf=>hf.elim (fun e'=>hB (by rw[←e'];exact e)) fun e'=>ht (e.symm.trans e');have nB:=h.nB;have nW:=h.nW;have eB:=m.ext B (am h.bB);have eW:=m.ext W (am h.bW);exact⟨own1,_,⟨ds,p1,p2,r,p4,p5,n,⟨m.box,m.kp.toKm.at h.bW (fun hf=>hf.elim (fun e=>h.ne e.symm) fun e=>by omega),(hn.far _ (by omega)).trans h.k0,(hn.far _ (by omega)).trans h.k1,(hn.far _ (by omega)).trans h.k2,(hn.far _ (by omega)).trans h.k3,ha.1,ha.2,h.d0,h.d1,h.d2,h.d3,h.d4,h.d5,
  h.tA.kp m.kp (hk b (by omega) (by omega)) m.ext,h.tC.kp m.kp (hk (b+1) (by omega) (by omega)) m.ext,m.tr,h.tU.kp m.kp (hk (b+3) (by omega) (by omega)) m.ext,h.tG.kp m.kp (hk (b+4) (by omega) (by omega)) m.ext,m.ow,by rw[eB];exact nB,by rw[eW];exact nW,h.ne⟩⟩,
  hn.wide (by omega) (by omega),m.kp.mono fun c _ hf=>hf.elim .inl fun e=>.inr (.inr (by omega)),m.ext⟩
theorem eY.were{U':List (ByteArray×Pl)}(h:eY own b w B q cs ty W ds p1 p2 p3 p4 p5 s n)(m:bI AvP.nd oS own (b+3) w w1 W 1 ds 292 U' own1 r):az own b w w1 B q cs ty W {s with U:=U'}:=by
 have hn:=cX 1 ds (.pointer r) (.int .i64 (U'.length:Nat));have ha:=gh (u:=.pointer r) (v:=.int .i64 (U'.length:Nat)) h.d1 h.d2;have hk:∀t,t≠b+3→own W≠t→∀c,c<w.heap.size→own c=t→¬(c=W∨own c=b+3):=fun t ht hB c _ e hf=>hf.elim (fun e'=>hB (by rw[←e'];exact e)) fun e'=>ht (e.symm.trans e');have nB:=h.nB;have nW:=h.nW;have eB:=m.ext B (am h.bB);have eW:=m.ext W (am h.bW);exact⟨own1,cs,⟨_,p1,p2,p3,r,p5,n,⟨m.kp.toKm.at h.bB (fun hf=>hf.elim (fun e=>h.ne e) fun e=>by omega),m.box,h.k0,h.k1,h.k2,h.k3,h.k4,h.k5,(hn.far _ (by omega)).trans h.d0,ha.1,ha.2,(hn.far _ (by omega)).trans h.d3,(hn.far _ (by omega)).trans h.d4,(hn.far _ (by omega)).trans h.d5,
  h.tA.kp m.kp (hk b (by omega) (by omega)) m.ext,h.tC.kp m.kp (hk (b+1) (by omega) (by omega)) m.ext,h.tP.kp m.kp (hk (b+2) (by omega) (by omega)) m.ext,m.tr,h.tG.kp m.kp (hk (b+4) (by omega) (by omega)) m.ext,m.ow,by rw[eB];exact nB,by rw[eW];exact nW,h.ne⟩⟩,
  aT.refl _ _ _,m.kp.mono fun c _ hf=>hf.elim (fun e=>.inr (.inl e)) fun e=>.inr (.inr (by omega)),m.ext⟩
theorem eY.lost{G':List (ByteArray×Int)}(h:eY own b w B q cs ty W ds p1 p2 p3 p4 p5 s n)(m:bI AvI.nd oS own (b+4) w w1 W 3 ds 292 G' own1 r):az own b w w1 B q cs ty W {s with G:=G'}:=by
 have hn:=cX 3 ds (.pointer r) (.int .i64 (G'.length:Nat));have ha:=gh (u:=.pointer r) (v:=.int .i64 (G'.length:Nat)) h.d3 h.d4;have hk:∀t,t≠b+4→own W≠t→∀c,c<w.heap.size→own c=t→¬(c=W∨own c=b+4):=fun t ht hB c _ e hf=>hf.elim (fun e'=>hB (by rw[←e'];exact e)) fun e'=>ht (e.symm.trans e');have nB:=h.nB;have nW:=h.nW;have eB:=m.ext B (am h.bB);have eW:=m.ext W (am h.bW);exact⟨own1,cs,⟨_,p1,p2,p3,p4,r,n,⟨m.kp.toKm.at h.bB (fun hf=>hf.elim (fun e=>h.ne e) fun e=>by omega),m.box,h.k0,h.k1,h.k2,h.k3,h.k4,h.k5,(hn.far _ (by omega)).trans h.d0,(hn.far _ (by omega)).trans h.d1,(hn.far _ (by omega)).trans h.d2,ha.1,ha.2,(hn.far _ (by omega)).trans h.d5,
  h.tA.kp m.kp (hk b (by omega) (by omega)) m.ext,h.tC.kp m.kp (hk (b+1) (by omega) (by omega)) m.ext,h.tP.kp m.kp (hk (b+2) (by omega) (by omega)) m.ext,h.tU.kp m.kp (hk (b+3) (by omega) (by omega)) m.ext,m.tr,m.ow,by rw[eB];exact nB,by rw[eW];exact nW,h.ne⟩⟩,
  aT.refl _ _ _,m.kp.mono fun c _ hf=>hf.elim (fun e=>.inr (.inl e)) fun e=>.inr (.inr (by omega)),m.ext⟩
theorem eY.two(h:eY own b w B q cs ty W ds p1 p2 p3 p4 p5 s n):ww own b (b+1) w B q cs ty p1 p2 s.A s.C:=
 ⟨h.bB,h.k0,h.k1,h.k2,h.k3,h.tA,h.tC,h.ow,fun e=>by have:=h.nB;omega,fun e=>by have:=h.nB;omega,by omega⟩
theorem eY.kids{A':List (ByteArray×Int)}{C':List (ByteArray×Unit)}{r':Option Addr}(h:eY own b w B q cs ty W ds p1 p2 p3 p4 p5 s n)(m:bJ own b (b+1) w w1 B q cs ty A' C' own1 cs1 r r'):az own b w w1 B q cs ty W {s with A:=A',C:=C'}:=by
 have hk:∀t,t≠b→t≠b+1→own B≠t→∀c,c<w.heap.size→own c=t→¬(c=B∨own c=b∨own c=b+1):=fun t ht ht' hB c _ e hf=>by
  rcases hf with e' |e' |e'
  ·exact hB (by rw[←e'];exact e)
  ·exact ht (e.symm.trans e')
  ·exact ht' (e.symm.trans e')
 have nB:=h.nB;have nW:=h.nW;have eB:=m.ext B (am h.bB);have eW:=m.ext W (am h.bW);have x:=m.st;exact⟨own1,cs1,⟨ds,r,r',p3,p4,p5,n,⟨x.box,m.kp.toKm.at h.bW (fun hf=>by rcases hf with e |e |e;exact h.ne e.symm;omega;omega),x.c0,x.c1,x.c2,x.c3,(m.near.far _ (by omega)).trans h.k4,(m.near.far _ (by omega)).trans h.k5,h.d0,h.d1,h.d2,h.d3,h.d4,h.d5,
  x.a,x.c,h.tP.kp m.kp (hk (b+2) (by omega) (by omega) (by omega)) m.ext,h.tU.kp m.kp (hk (b+3) (by omega) (by omega) (by omega)) m.ext,h.tG.kp m.kp (hk (b+4) (by omega) (by omega) (by omega)) m.ext,x.ow,by rw[eB];exact nB,by rw[eW];exact nW,h.ne⟩⟩,
  m.near.wide (by omega) (by omega),m.kp.mono fun c _ hf=>by rcases hf with e |e |e;exact .inl e;exact .inr (.inr (by omega));exact .inr (.inr (by omega)),m.ext⟩
theorem eY.step(h:eY own b w B q cs ty W ds p1 p2 p3 p4 p5 s n)(m:Int):az own b w (w.setCell ⟨W,5,none⟩ (.int .i64 m)) B q cs ty W s:=by
 obtain⟨z,_⟩:=Rj.1 h.d5;have nW:=h.nW;have hf:∀j,j≠5→(ds.setIfInBounds 5 (.int .i64 m))[j]?=ds[j]?:=fun j hj=>by rw[UL,Pm (fun e=>hj e.symm)]
 refine⟨own,cs,⟨_,p1,p2,p3,p4,p5,m,⟨aw h.bB h.ne _,aq h.bW 5 _,h.k0,h.k1,h.k2,h.k3,h.k4,h.k5,(hf 0 (by omega)).trans h.d0,(hf 1 (by omega)).trans h.d1,(hf 2 (by omega)).trans h.d2,(hf 3 (by omega)).trans h.d3,(hf 4 (by omega)).trans h.d4,by rw[UL,Pj rfl,Pj z],
  h.tA.setCell (by omega) _,h.tC.setCell (by omega) _,h.tP.setCell (by omega) _,h.tU.setCell (by omega) _,h.tG.setCell (by omega) _,h.ow.mono (by rw[PK];exact Po _),h.nB,h.nW,h.ne⟩⟩,aT.refl _ _ _,(Kp.refl _ _).setCell (b:=W) (fun _=>.inr (.inl rfl)) _,aO.refl _ _⟩
theorem eY.post(h:eY own b w B q cs ty W ds p1 p2 p3 p4 p5 s n):be own b w B q cs ty W s:=⟨ds,p1,p2,p3,p4,p5,n,h⟩
theorem BR(h:eY own b w B q cs ty W ds p1 p2 p3 p4 p5 s n)(k:ByteArray)(r:Option Pl)(hr:ag oS s.P k=r):
 Calls prog 183 #[.pointer (some ⟨B,q+4,none⟩),.string k] w fun e w'=>e=.returned (.tuple #[AvP.vo r,.bool r.isSome])∧Below w.heap.size w w':=KP B (q+4) p3 s.P k w ((aa h.bB (q+4)).trans h.k4) h.tP r hr
theorem I6(h:eY own b w B q cs ty W ds p1 p2 p3 p4 p5 s n)(k:ByteArray)(r:Option Pl)(hr:ag oS s.U k=r):
 Calls prog 183 #[.pointer (some ⟨W,1,none⟩),.string k] w fun e w'=>e=.returned (.tuple #[AvP.vo r,.bool r.isSome])∧Below w.heap.size w w':=KP W 1 p4 s.U k w ((aa h.bW 1).trans h.d1) h.tU r hr
theorem Fx(h:eY own b w B q cs ty W ds p1 p2 p3 p4 p5 s n)(hs:s.Small)(k:ByteArray):
  Calls prog 253 #[.pointer (some ⟨B,q+4,none⟩),.string k] w fun e w'=>(∃c,e=.returned (.bool c))∧az own b w w' B q cs ty W {s with P:=aK oS s.P k}:=
 (Lu B (q+4) cs ty p3 s.P k w h.ow h.bB h.k4 h.k5 (by have:=h.nB;omega) h.tP hs.p).mono fun e w' ⟨_,he,m⟩=>⟨⟨_,he⟩,h.plc m⟩
theorem I0(h:eY own b w B q cs ty W ds p1 p2 p3 p4 p5 s n)(hs:s.Small)(k:ByteArray)(v:Pl):
  Calls prog 259 #[.pointer (some ⟨W,1,none⟩),.string k,.agg (PA v)] w fun e w'=>(∃c,e=.returned (.bool c))∧az own b w w' B q cs ty W {s with U:=ay oS s.U k v}:=
 (Gk W 1 ds 292 p4 s.U k v w h.ow h.bW h.d1 h.d2 (by have:=h.nW;omega) h.tU hs.u).mono fun e w' ⟨_,_,he,m⟩=>⟨⟨_,he⟩,h.were m⟩
theorem I1(h:eY own b w B q cs ty W ds p1 p2 p3 p4 p5 s n)(hs:s.Small)(k:ByteArray)(v:Int):
  Calls prog 168 #[.pointer (some ⟨W,3,none⟩),.string k,.int .i64 v] w fun e w'=>e=.returned (.bool (ag oS s.G k).isNone)∧az own b w w' B q cs ty W {s with G:=ay oS s.G k v}:=
 (xM W 3 ds 292 p5 s.G k v w h.ow h.bW h.d3 h.d4 (by have:=h.nW;omega) h.tG hs.g).mono fun e w' ⟨_,_,he,m⟩=>⟨he,h.lost m⟩
theorem Dh(h:eY own b w B q cs ty W ds p1 p2 p3 p4 p5 s n)(tr id:Int)(h1:aB tr)(h2:aB id)(r:Option Int)(hr:ag oS s.A (kk tr id)=r):
 Calls prog 228 #[.pointer (some ⟨B,q,none⟩),.int .i64 tr,.int .i64 id] w fun e w'=>e=.returned (.tuple #[AvI.vo r,.bool r.isSome])∧Below w.heap.size w w':=jz B q p1 s.A tr id h1 h2 w ((aa h.bB q).trans h.k0) h.tA r hr
theorem K5(h:eY own b w B q cs ty W ds p1 p2 p3 p4 p5 s n)(hs:s.Small)(tr id:Int)(h1:aB tr)(h2:aB id):
 Calls prog 258 #[.pointer (some ⟨B,q,none⟩),.int .i64 tr,.int .i64 id] w fun e w'=>e=.returned (.int .i64 (aH s.C tr id).length)∧Below w.heap.size w w':=GC B q p2 s.C tr id h1 h2 w ((aa h.bB (q+2)).trans h.k2) h.tC hs.k hs.c
theorem Fw(h:eY own b w B q cs ty W ds p1 p2 p3 p4 p5 s n)(hs:s.Small)(tr id:Int)(h1:aB tr)(h2:aB id):
  Calls prog 155 #[.pointer (some ⟨B,q,none⟩),.int .i64 tr,.int .i64 id] w fun e w'=>(∃c,e=.returned (.bool c))∧az own b w w' B q cs ty W {s with A:=(cp s.A s.C tr id).1,C:=(cp s.A s.C tr id).2}:=
 (px B q cs ty p1 p2 s.A s.C tr id h1 h2 w h.two hs.i hs.a hs.c).mono fun e w' ⟨_,_,_,_,he,m⟩=>⟨⟨_,he⟩,h.kids m⟩
theorem I5(h:eY own b w B q cs ty W ds p1 p2 p3 p4 p5 s n)(hs:s.Small)(hb:0<b)(x:Sp)(hx:x.Ok):
  Calls prog 157 #[.pointer (some ⟨B,q,none⟩),.agg (SA x)] w fun e w'=>(∃c,e=.returned c)∧az own b w w' B q cs ty W {s with A:=(gp s.A s.C x).1,C:=(gp s.A s.C x).2}:=
 (xY B q cs ty p1 p2 s.A s.C x hx w h.two hs.i hs.a hs.c (by omega) (by omega)).mono fun e w' ⟨_,_,_,_,he,m⟩=>⟨he,h.kids m⟩
end
def ku:Pl:=⟨0,0,0,0,0,0⟩
theorem FH(r:Option Pl):AvP.vo r=.agg #[.int .i64 (r.getD ku).tr,.int .i64 (r.getD ku).id,.int .i64 (r.getD ku).cl,.int .i64 (r.getD ku).de,.int .i64 (r.getD ku).to,.int .i64 (r.getD ku).fa]:=by cases r<;>rfl
def bq(s:WS)(k:ByteArray):WS:=if(ag oS s.U k).isSome then s else {s with U:=ay oS s.U k ((ag oS s.P k).getD ku)}
section
variable{own:Nat→Nat}{b:Nat}{w:World}{B q:Nat}{cs:Array Value}{ty:TypeId}{W:Nat}{s:WS}
theorem wL(h:be own b w B q cs ty W s)(hs:s.Small)(k:ByteArray):
  Calls prog 252 #[.pointer (some ⟨W,0,none⟩),.string k] w fun e w'=>(∃c,e=.returned c)∧az own b w w' B q cs ty W (bq s k):=by
 obtain⟨ds,p1,p2,p3,p4,p5,n,h⟩:=h;have hU:=fun r hr=>I6 h k r hr;have hP:=fun w1 (b1:Below w.heap.size w w1)=>BR (h.below b1) k _ rfl;simp only[FH]at hU hP;have HP:=zH hP;have HW:=zH h;have c0:=(aa h.bW 0).trans h.d0;rcases hq:ag oS s.U k with _ |u
 ·have HU:=zH (hU none hq);have HT:=zH (show bq s k={s with U:=ay oS s.U k ((ag oS s.P k).getD ku)}by unfold bq;rw[hq];rfl);have HPU:=zH (fun w1 (b1:Below w.heap.size w w1)=>I0 (h.below b1) hs k ((ag oS s.P k).getD ku));have hW0:=am h.bW;generalize (ag oS s.P k).getD ku=v at HP HT HPU;generalize (ag oS s.P k).isSome=bb at HP;clear hU hP h hq hs;go_enter func252,ntmps252;go_wp2_with (first |(go_at_call 183;(with_reducible refine(HU.out).mono ?_);rintro e1 w1 ⟨rfl,b1⟩;have b1':=ae (.cells (PA ku) 98) b1;have c1:=(b1'.cell (p:=⟨W,0,none⟩) hW0).trans c0;clear HU) |(go_at_call 183;(with_reducible refine(HP.out _ b1').mono ?_);rintro e2 w2 ⟨rfl,b2⟩;have b2':=ah b2 b1';have b3':=ae (.cells (PA v) 98) b2';have n3:=Up w2 (.cells (PA v) 98)));generalize w2.alloc (.cells (PA v) 98)=wz at b3' n3⊢;have y0:=fun u:df (wz).heap.size wz=>aa (af n3 u.h) 0;have y1:=fun u:df (wz).heap.size wz=>aa (af n3 u.h) 1;have y2:=fun u:df (wz).heap.size wz=>aa (af n3 u.h) 2;have y3:=fun u:df (wz).heap.size wz=>aa (af n3 u.h) 3;have y4:=fun u:df (wz).heap.size wz=>aa (af n3 u.h) 4;have y5:=fun u:df (wz).heap.size wz=>aa (af n3 u.h) 5;(refine dN (wz).heap.size 5 (by kernel_rfl) (by kernel_rfl) ?_);(simp only[UJ,UN,QG,Qo]);(repeat(go_big_quiet_step (fail)));refine Vt ?_;intro _ hw';obtain⟨u,hw''⟩:=hw';subst hw'';go_wp2_with (go_at_call 259;(with_reducible refine(HPU.out _ (b3'.trans (u.h.mono b3'.size))).mono ?_);rintro e4 w4 ⟨⟨c,rfl⟩,k4⟩);go_end0;refine⟨⟨_,rfl⟩,?_⟩;rw[HT.out];exact az.after (HW.out.post.below (b3'.trans (u.h.mono b3'.size))) (aT.refl _ _ _) (Kp.of_below _ (b3'.trans (u.h.mono b3'.size))) (aO.refl _ _) k4
 ·have HU:=zH (hU (some u) hq);have HF:=zH (show ∀w1,Below w.heap.size w w1→az own b w w1 B q cs ty W (bq s k)from fun w1 b1=>by
   unfold bq;rw[hq];exact h.post.same b1)
  clear hU hP h hq hs HP HW;go_enter func252,ntmps252;go_wp2_with (go_at_call 183;(with_reducible refine(HU.out).mono ?_);rintro e1 w1 ⟨rfl,b1⟩;have b1':=ae (.cells (PA u) 98) b1);go_end0;exact⟨⟨_,rfl⟩,HF.out _ b1'⟩
end
theorem eU{α:Type}[DecidableEq α]:∀{l m:List α},l.Nodup→(∀x∈l,x∈m)→l.length≤m.length
 |[],m,_,_=>by simp
 |a::l,m,hn,hs=>by
  have ha:=hs a (by simp);have hn':=PV.1 hn;have:=eU (l:=l) (m:=m.erase a) hn'.2 fun x hx=>(List.mem_erase_of_ne (fun(e:x=a)=>hn'.1 (by rw[←e];exact hx))).2 (hs x (by simp[hx]));rw[List.length_erase_of_mem ha]at this;have h0:0<m.length:=Wf ha;simp;omega
theorem bS{a b c d:Int}(ha:aB a)(hb:aB b)(hc:aB c)(hd:aB d)(h:kk a b=kk c d):a=c∧b=d:=
 ⟨by rw[←jj a b ha,h,jj c d hc],by rw[←gB a b hb,h,gB c d hd]⟩
theorem lU{K V:Type}{o:eN K}{L:List (K×V)}(h:aX o L):(L.map (·.1)).Nodup:=by
 unfold aX at h;rw[Vk,Q9];exact h.imp fun hlt e=>o.ne hlt e
theorem eX{K V:Type}{o:eN K}{L:List (K×V)}(h:aX o L){k:K}:ag o L k≠none↔k∈L.map (·.1):=by
 constructor
 ·intro hn;cases hq:ag o L k with
  |none=>exact absurd hq hn
  |some v=>exact Uu.2 ⟨_,(ax o h).1 hq,rfl⟩
 ·rintro hm e;obtain⟨⟨k',v⟩,hz,rfl⟩:=Uu.1 hm;exact(bQ o h).1 e v hz
def Nj(G:List (ByteArray×Int)):Prop:=∀k v,ag oS G k=some v→∃i,aB v∧aB i∧k=kk v i
structure WS.Ord(s:WS):Prop where
 a:aX oS s.A
 c:aX oS s.C
 p:aX oS s.P
 u:aX oS s.U
 g:aX oS s.G
structure jq(s0:WS)(tr id:Int)(s:WS)(left:List Int):Prop where
 a:s.A=s0.A
 c:s.C=s0.C
 mono:∀k v,ag oS s0.G k=some v→ag oS s.G k=some v
 new:∀k v,ag oS s.G k=some v→ag oS s0.G k=some v∨(v=tr∧∃i,aB i∧k=kk tr i∧(i=id∨ag oS s0.A k≠none))
 start:ag oS s.G (kk tr id)≠none∨id∈left
 closed:∀i,aB i→ag oS s0.G (kk tr i)=none→ag oS s.G (kk tr i)≠none→∀j∈aH s0.C tr i,ag oS s.G (kk tr j)≠none∨j∈left
 lok:∀j∈left,aB j∧(j=id∨ag oS s0.A (kk tr j)≠none)
 p:∀k,ag oS s.P k=if ag oS s0.G k=none∧ag oS s.G k≠none then none else ag oS s0.P k
 u:∀k,ag oS s.U k=if(ag oS s0.U k).isSome then ag oS s0.U k else if ag oS s0.G k=none∧ag oS s.G k≠none then some ((ag oS s0.P k).getD ku)else none
 pl:s.P.length≤s0.P.length
 ul:s.U.length+s0.G.length≤s0.U.length+s.G.length
section
variable{s0 s:WS}{tr id i:Int}{left:List Int}
theorem xS(h2:aB id):jq s0 tr id s0 [id]:=
 ⟨rfl,rfl,fun _ _ h=>h,fun _ _ h=>.inl h,.inr (by simp),fun i _ h1 h2=>absurd h1 h2,fun j hj=>by simp at hj;exact⟨hj▸h2,.inl hj⟩,
  fun k=>by rw[Pm (fun h=>h.2 h.1)],fun k=>by
   rw[Pm (c:=ag oS s0.G k=none∧ag oS s0.G k≠none) (fun h=>h.2 h.1)];cases ag oS s0.U k<;>rfl,Po _,by omega⟩
theorem jq.glen(h:jq s0 tr id s left)(hg:aX oS s.G)(hg0:aX oS s0.G)(ha:aX oS s0.A):s.G.length≤s0.G.length+1+s0.A.length:=by
 have:=eU (l:=s.G.map (·.1)) (m:=s0.G.map (·.1)++kk tr id::s0.A.map (·.1)) (lU hg) fun k hk=>by
  have hn:=(eX hg).2 hk;cases hq:ag oS s.G k with
  |none=>exact absurd hq hn
  |some v=>
   rcases h.new k v hq with h1 |⟨_,i,_,e,h1⟩
   ·exact U0 _ ((eX hg0).1 (by rw[h1];simp))
   ·rcases h1 with rfl |h1
    ·rw[e];simp
    ·exact Vy _ (Qf _ ((eX ha).1 h1))
 simp at this;omega
theorem jq.skip(h:jq s0 tr id s (i::left))(hs:s.Ord)(h0:s0.Ord)(hG:Nj s0.G)(h1:aB tr)(hk:ag oS s.G (kk tr i)≠none):jq s0 tr id {s with G:=ay oS s.G (kk tr i) tr} left:=by
 have hi:=(h.lok i (by simp)).1;have hv:ag oS s.G (kk tr i)=some tr:=by
  cases hq:ag oS s.G (kk tr i)with
  |none=>exact absurd hq hk
  |some v=>
   rcases h.new _ _ hq with h3 |⟨rfl,_⟩
   ·obtain⟨j,h4,h5,h6⟩:=hG _ _ h3;rw[(bS h1 hi h4 h5 h6).1]
   ·rfl
 have hsame:∀k,ag oS (ay oS s.G (kk tr i) tr) k=ag oS s.G k:=fun k=>by
  by_cases e:k=kk tr i
  ·rw[e,(bm oS hs.g _ _).1,hv]
  ·exact(bm oS hs.g _ _).2 k e
 have hlen:(ay oS s.G (kk tr i) tr).length=s.G.length:=by rw[cM oS hs.g,hv];simp
 refine⟨h.a,h.c,fun k v hv=>by rw[hsame];exact h.mono k v hv,fun k v hv=>h.new k v (by rw[←hsame];exact hv),?_,?_,fun j hj=>h.lok j (by simp[hj]),fun k=>by rw[hsame];exact h.p k,fun k=>by rw[hsame];exact h.u k,h.pl,by rw[hlen];exact h.ul⟩
 ·rw[hsame];rcases h.start with h3 |h3
  ·exact .inl h3
  ·rcases Pz.1 h3 with rfl |h3
   ·exact .inl hk
   ·exact .inr h3
 ·intro a ha h3 h4 j hj;rw[hsame]at h4⊢;rcases h.closed a ha h3 h4 j hj with h5 |h5
  ·exact .inl h5
  ·rcases Pz.1 h5 with rfl |h5
   ·exact .inl hk
   ·exact .inr h5
def cU(s:WS)(tr i:Int):WS:=
 {bq {s with G:=ay oS s.G (kk tr i) tr} (kk tr i)with P:=aK oS s.P (kk tr i)}
theorem mH(s:WS)(tr i:Int):(cU s tr i).A=s.A∧(cU s tr i).C=s.C∧(cU s tr i).G=ay oS s.G (kk tr i) tr∧(cU s tr i).P=aK oS s.P (kk tr i)∧
  (cU s tr i).U=if(ag oS s.U (kk tr i)).isSome then s.U else ay oS s.U (kk tr i) ((ag oS s.P (kk tr i)).getD ku):=by
 unfold cU bq;simp only;by_cases h:(ag oS s.U (kk tr i)).isSome=true
 ·simp[h]
 ·simp[h]
theorem jq.one(h:jq s0 tr id s (i::left))(hs:s.Ord)(hK:∀j∈aH s0.C tr i,aB j∧ag oS s0.A (kk tr j)≠none)(h1:aB tr)(hk:ag oS s.G (kk tr i)=none):
  jq s0 tr id (cU s tr i) (left++aH s0.C tr i):=by
 have hi:=(h.lok i (by simp)).1;obtain⟨e1,e2,e3,e4,e5⟩:=mH s tr i;have hk0:ag oS s0.G (kk tr i)=none:=by
  cases hq:ag oS s0.G (kk tr i)with
  |none=>rfl
  |some v=>rw[h.mono _ _ hq]at hk;cases hk
 have hG:∀k,ag oS (cU s tr i).G k=if k=kk tr i then some tr else ag oS s.G k:=fun k=>by
  rw[e3];split
  ·rename_i e;rw[e];exact(bm oS hs.g _ _).1
  ·rename_i e;exact(bm oS hs.g _ _).2 k e
 have hGn:∀k,ag oS s.G k≠none→ag oS (cU s tr i).G k≠none:=fun k hn=>by
  rw[hG];split
  ·simp
  ·exact hn
 refine⟨e1.trans h.a,e2.trans h.c,fun k v hv=>?_,fun k v hv=>?_,?_,?_,?_,fun k=>?_,fun k=>?_,?_,?_⟩
 ·rw[hG,Pm (fun e=>by rw[e,hk0]at hv;cases hv)];exact h.mono k v hv
 ·rw[hG]at hv;split at hv
  ·rename_i e;cases hv;exact .inr ⟨rfl,i,hi,e,e▸(h.lok i (by simp)).2⟩
  ·exact h.new k v hv
 ·rcases h.start with h3 |h3
  ·exact .inl (hGn _ h3)
  ·rcases Pz.1 h3 with rfl |h3
   ·exact .inl (by rw[hG,Pj rfl];simp)
   ·exact .inr (U0 _ h3)
 ·intro a ha h3 h4 j hj;by_cases e:kk tr a=kk tr i
  ·have:=(bS h1 ha h1 hi e).2;subst this;exact .inr (Vy _ hj)
  ·rw[hG,Pm e]at h4;rcases h.closed a ha h3 h4 j hj with h5 |h5
   ·exact .inl (hGn _ h5)
   ·rcases Pz.1 h5 with rfl |h5
    ·exact .inl (by rw[hG,Pj rfl];simp)
    ·exact .inr (U0 _ h5)
 ·intro j hj;rcases Px.1 hj with hj |hj
  ·exact h.lok j (by simp[hj])
  ·exact⟨(hK j hj).1,.inr (hK j hj).2⟩
 ·rw[e4,hG];by_cases e:k=kk tr i
  ·rw[Pj e,e,(dC oS hs.p _).1,Pj ⟨hk0,by simp⟩]
  ·rw[Pm e,(dC oS hs.p _).2 k e];exact h.p k
 ·rw[e5,hG];have hu:=h.u k;by_cases e:k=kk tr i
  ·subst e;have hp:=h.p (kk tr i);rw[Pm (fun hh=>hh.2 hk)]at hp;rw[Pj rfl];cases hq:ag oS s0.U (kk tr i)with
   |some v=>
    rw[hq,Pj (show(some v).isSome=true from rfl)]at hu;rw[Pj (by rw[hu];rfl),Pj (show(some v).isSome=true from rfl)];exact hu
   |none=>
    rw[hq,Pm (by simp),Pm (fun hh=>hh.2 hk)]at hu;rw[Pm (by rw[hu];simp),Pm (by simp),Pj ⟨hk0,by simp⟩,(bm oS hs.u _ _).1,hp]
  ·rw[Pm e];split
   ·exact hu
   ·rw[(bm oS hs.u _ _).2 k e];exact hu
 ·rw[e4];exact Pt (fC oS s.P _) h.pl
 ·have hul:=h.ul;rw[e5,e3,cM oS hs.g,hk];split
  ·simp;omega
  ·rw[cM oS hs.u];split<;>simp<;>omega
end
end
section
open PlcP
theorem el{V:Type}{L:List (ByteArray×V)}(hs:aX oS L)(k:ByteArray)(x:V)(k':ByteArray):ag oS (ay oS L k x) k'=if k'=k then some x else ag oS L k':=by
 exact O8
def fX(A:List (ByteArray×Int))(tr i:Int):Option Int:=ag oS A (kk tr i)
structure kt(A:List (ByteArray×Int))(C:List (ByteArray×Unit)):Prop where
 sa:aX oS A
 sc:aX oS C
 a:∀k v,ag oS A k=some v→∃tr i,aB tr∧aB i∧aB v∧k=kk tr i
 c:∀tr p i,aB tr→aB p→aB i→(ag oS C (ee tr (kk p i))≠none↔ag oS A (kk tr i)=some p)
 z:∀k,ag oS C k≠none→∃tr p i,aB tr∧aB p∧aB i∧k=ee tr (kk p i)
theorem Bg{a p i b q j:Int}(h1:aB a)(h2:aB p)(h3:aB i)(k1:aB b)(k2:aB q)(k3:aB j)(h:ee a (kk p i)=ee b (kk q j)):a=b∧p=q∧i=j:=by
 have e1:=jb a (kk p i) h1 (aY _ _);have e2:=ja a (kk p i) (aY _ _);rw[h,jb b _ k1 (aY _ _)]at e1;rw[h,ja b _ (aY _ _)]at e2;exact⟨e1.symm,bS h2 h3 k2 k3 e2.symm⟩
theorem Cy:kt [] []:=⟨fH _,fH _,(fun k v h=>by cases h),(fun tr p i _ _ _=>by simp[ag]),fun k h=>absurd rfl h⟩
section
variable{A:List (ByteArray×Int)}{C C':List (ByteArray×Unit)}{tr id i p:Int}
theorem kt.drop(h:kt A C)(h1:aB tr)(h2:aB id):kt (cp A C tr id).1 (cp A C tr id).2∧∀k,ag oS (cp A C tr id).1 k=if k=kk tr id then none else ag oS A k:=by
 unfold cp;cases hg:ag oS A (kk tr id)with
 |none=>
  refine⟨h,fun k=>?_⟩;show ag oS A k=_;split
  ·rename_i e;rw[e,hg]
  ·rfl
 |some par=>
  obtain⟨_,_,_,_,hp,_⟩:=h.a _ _ hg;have hA:∀k,ag oS (aK oS A (kk tr id)) k=if k=kk tr id then none else ag oS A k:=fun k=>cY h.sa _ k
  have hC:∀k,ag oS (aK oS C (ee tr (kk par id))) k=if k=ee tr (kk par id)then none else ag oS C k:=fun k=>cY h.sc _ k
  refine⟨⟨lG oS h.sa _,lG oS h.sc _,fun k v hv=>?_,fun t q j ht hq hj=>?_,fun k hk=>?_⟩,hA⟩
  ·rw[hA]at hv;split at hv
   ·cases hv
   ·exact h.a k v hv
  ·show ag oS (aK oS C (ee tr (kk par id))) (ee t (kk q j))≠none↔ag oS (aK oS A (kk tr id)) (kk t j)=some q;rw[hA,hC];by_cases e:kk t j=kk tr id
   ·obtain⟨rfl,rfl⟩:=bS ht hj h1 h2 e;rw[Pj rfl];constructor
    ·intro hn;split at hn
     ·exact absurd rfl hn
     ·rename_i he;have:=(h.c t q j ht hq hj).1 hn;rw[hg]at this;cases this;exact absurd rfl he
    ·intro hn;cases hn
   ·rw[Pm e,Pm (fun e'=>e (by
     obtain⟨rfl,_,rfl⟩:=Bg ht hq hj h1 hp h2 e';rfl))]
    exact h.c t q j ht hq hj
  ·rw[hC]at hk;split at hk
   ·exact absurd rfl hk
   ·exact h.z k hk
theorem kt.put(h:kt A C)(x:Sp)(hx:x.Ok):kt (gp A C x).1 (gp A C x).2∧∀k,ag oS (gp A C x).1 k=if k=aj x then some x.pa else ag oS A k:=by
 have h1:=hx.1;have h2:=hx.2.1;have h3:=hx.2.2.1;obtain⟨hd,hg⟩:=h.drop h1 h2;unfold gp;generalize cp A C x.tr x.id=D at hd hg;have hA:∀k,ag oS (ay oS D.1 (kk x.tr x.id) x.pa) k=if k=kk x.tr x.id then some x.pa else ag oS D.1 k:=el hd.sa _ _
 have hC:∀k,ag oS (ay oS D.2 (ee x.tr (kk x.pa x.id)) ()) k=if k=ee x.tr (kk x.pa x.id)then some ()else ag oS D.2 k:=el hd.sc _ _
 refine⟨⟨dR oS hd.sa _ _,dR oS hd.sc _ _,fun k v hv=>?_,fun t q j ht hq hj=>?_,fun k hk=>?_⟩,fun k=>?_⟩
 ·rw[hA]at hv;split at hv
  ·rename_i e;cases hv;exact⟨_,_,h1,h2,h3,e⟩
  ·exact hd.a k v hv
 ·show ag oS (ay oS D.2 _ ()) (ee t (kk q j))≠none↔ag oS (ay oS D.1 _ _) (kk t j)=some q;rw[hA,hC];by_cases e:kk t j=kk x.tr x.id
  ·obtain⟨rfl,rfl⟩:=bS ht hj h1 h2 e;rw[Pj rfl];constructor
   ·intro hn;split at hn
    ·rename_i e';rw[(Bg h1 hq h2 h1 h3 h2 e').2.1]
    ·have:=(hd.c _ q _ h1 hq h2).1 hn;rw[hg,Pj rfl]at this;cases this
   ·intro hn;cases hn;rw[Pj rfl];simp
  ·rw[Pm e,Pm (fun e'=>e (by
     obtain⟨e1,_,e2⟩:=Bg ht hq hj h1 h3 h2 e';rw[e1,e2]))]
   exact hd.c t q j ht hq hj
 ·rw[hC]at hk;split at hk
  ·rename_i e;exact⟨_,_,_,h1,h3,h2,e⟩
  ·exact hd.z k hk
 ·show ag oS (ay oS D.1 _ _) k=_;rw[hA,hg];split<;>simp_all
theorem kt.kids(h:kt A C)(h1:aB tr)(h2:aB p){j:Int}:j∈aH C tr p↔aB j∧ag oS A (kk tr j)=some p:=by
 unfold aH;rw[SV];constructor
 ·rintro⟨⟨k,u⟩,hz,hk⟩;have hn:ag oS C k≠none:=by rw[(ax oS h.sc).2 hz];simp
  obtain⟨t,q,i,ht,hq,hi,rfl⟩:=h.z k hn;unfold gY at hk;simp only[jb t _ ht (aY _ _),ja t _ (aY _ _),jj _ _ hq,gB _ _ hi]at hk;split at hk
  ·rename_i e;obtain⟨rfl,rfl⟩:=e;cases hk;exact⟨hi,(h.c _ _ _ ht hq hi).1 hn⟩
  ·cases hk
 ·rintro⟨hj,hg⟩;have hn:=(h.c tr p j h1 h2 hj).2 hg;cases hq:ag oS C (ee tr (kk p j))with
  |none=>exact absurd hq hn
  |some u=>
   refine⟨_,(ax oS h.sc).1 hq,?_⟩;unfold gY;simp only[jb tr _ h1 (aY _ _),ja tr _ (aY _ _),jj _ _ h2,gB _ _ hj];simp
theorem kt.nodup(h:kt A C)(h1:aB tr)(h2:aB p):(aH C tr p).Nodup:=by
 unfold aH;rw[Vk];refine List.Pairwise.filterMap _ ?_ (show List.Pairwise (fun a b=>a∈C∧b∈C∧a.1≠b.1) C from ?_)
 ·rintro⟨a,_⟩ ⟨b,_⟩ ⟨ha,hb,hne⟩ x hx y hy e;subst e;have na:ag oS C a≠none:=by rw[(ax oS h.sc).2 ha];simp
  have nb:ag oS C b≠none:=by rw[(ax oS h.sc).2 hb];simp
  obtain⟨t,q,i,ht,hq,hi,rfl⟩:=h.z a na;obtain⟨t',q',i',ht',hq',hi',rfl⟩:=h.z b nb;unfold gY at hx hy;simp only[jb t _ ht (aY _ _),ja t _ (aY _ _),jj _ _ hq,gB _ _ hi]at hx;simp only[jb t' _ ht' (aY _ _),ja t' _ (aY _ _),jj _ _ hq',gB _ _ hi']at hy;split at hx
  ·split at hy
   ·rename_i e1 e2;cases hx;cases hy;exact hne (by rw[e1.1,e1.2,e2.1,e2.2])
   ·cases hy
  ·cases hx
 ·have:=h.sc;unfold aX at this;exact this.imp_of_mem fun ha hb hlt=>⟨ha,hb,oS.ne hlt⟩
theorem kt.sz(h:kt A C):∀z∈C,z.1.size=24:=fun z hz=>by
 obtain⟨t,q,i,_,_,_,e⟩:=h.z z.1 (by rw[(ax oS h.sc).2 hz];simp);rw[e,oK,aY]
theorem kt.vI(h:kt A C):∀z∈A,aB z.2:=fun z hz=>by
 obtain⟨_,_,_,_,h3,_⟩:=h.a z.1 z.2 ((ax oS h.sa).2 hz);exact h3
end
section
variable{par:Int→Option Int}
theorem Kq{n:Nat}{i t e:Int}(h1:kY par n i=some t)(h2:par t=some e)(h3:par e=none){a b:Nat}(hb:b≤n)(hab:a<b):kY par a i≠kY par b i:=by
 intro he;have k1:=mg (par:=par) (n+2 - b) a i;have k2:=mg (par:=par) (n+2 - b) b i;rw[he]at k1;have k3:kY par (a+(n+2 - b)) i=kY par (b+(n+2 - b)) i:=k1.trans k2.symm;rw[show b+(n+2 - b)=n+2 by omega]at k3;exact lJ h1 h2 (m:=a+(n+2 - b)) (by omega) (k3.trans (lK h1 h2 h3 (Po _)))
theorem rT{i:Int}{p:Int×Int×Int}(h:gL par i p)(m:List Int)(hm:∀n j,kY par n i=some j→par j≠none→j∈m):0≤p.2.1∧p.2.1≤m.length:=by
 rcases h with⟨n,e,t,h1,h2,h3,rfl⟩ |⟨_,rfl⟩
 ·have hs:∀k,k≤n→∃x,kY par k i=some x∧par x≠none:=fun k hk=>by
   cases hx:kY par k i with
   |none=>exact absurd hx (lJ h1 h2 (by omega))
   |some x=>
    refine⟨x,rfl,fun h0=>?_⟩;have:=mg (par:=par) 1 k i;rw[hx]at this;exact lJ h1 h2 (m:=k+1) (by omega) (this.trans (by simp[kY,h0]))
  have hl:=eU (l:=(List.range (n+1)).map fun k=>(kY par k i).getD 0) (m:=m) (by
   rw[Vk,Q9];refine(List.pairwise_lt_range (n:=n+1)).imp_of_mem fun {a b} ha hb hab e=>?_;rw[List.mem_range]at ha hb;obtain⟨x,hx,_⟩:=hs a (by omega);obtain⟨y,hy,_⟩:=hs b (by omega);rw[hx,hy]at e;exact Kq h1 h2 h3 (by omega) hab (by rw[hx,hy];exact congrArg some e)) (fun x hx=>by
   obtain⟨k,hk,rfl⟩:=Uu.1 hx;rw[List.mem_range]at hk;obtain⟨y,hy,hp⟩:=hs k (by omega);rw[hy];exact hm k y hy hp)
  rw[Ur,List.length_range]at hl;show 0≤(n:Int)+1∧(n:Int)+1≤_;omega
 ·show(0:Int)≤0∧(0:Int)≤_;omega
theorem rU{i:Int}{p:Int×Int×Int}(h:gL par i p):p.1=1∨p.1=2∨p.1=3:=by
 rcases h with⟨n,e,t,_,_,_,rfl⟩ |⟨_,rfl⟩
 ·show(if e=0 then(1:Int)else 2)=1∨(if e=0 then(1:Int)else 2)=2∨_;split<;>simp
 ·exact .inr (.inr rfl)
def Jd(kn:Option Pl)(there:Bool)(e bZ:Int):Int×Int×Int:=match kn with
 |some k=>(k.cl,k.de,k.to)
 |none=>if there then(3,0,0)else(if e=0 then 1 else 2,0,bZ)
def Kt(par:Int→Option Int)(l:List Int)(up:Int×Int×Int):Prop:=∀a,l.getLast?=some a→gL par a (fx up)
theorem sB{l:List Int}{e bZ:Int}(h:PlcP.iD par l e)(hl:l.getLast?=some bZ):par bZ=some e:=by
 induction l with
 |nil=>cases hl
 |cons a r ih=>
  cases r with
  |nil=>cases hl;exact h
  |cons b r=>rw[List.getLast?_cons_cons]at hl;exact ih h.2 hl
theorem zA{l:List Int}{e:Int}{kn:Option Pl}(h:PlcP.iD par l e)(hk:∀k,kn=some k→gL par e (k.cl,k.de,k.to))(hc:kn=none→par e≠none→e∈l){bZ:Int}(hl:l.getLast?=some bZ):
  Kt par l (Jd kn (par e).isSome e bZ):=by
 intro a ha;rw[hl]at ha;cases ha;have hp:=sB h hl;unfold Jd;cases hq:kn with
 |some k=>exact kI hp (hk k hq)
 |none=>
  show gL par bZ (fx (if(par e).isSome=true then _ else _));cases he:par e with
  |none=>exact p9 hp he
  |some u=>
   have hm:bZ∈l:=List.mem_of_getLast? hl;exact pZ h (hc hq (by rw[he];simp)) bZ hm
theorem Dk{l:List Int}{a e:Int}{up:Int×Int×Int}(h:PlcP.iD par (l++[a]) e)(hu:Kt par (l++[a]) up):gL par a (fx up)∧Kt par l (fx up)∧PlcP.iD par l a:=by
 have ha:=hu a (by simp);have hc:PlcP.iD par l a:=by
  clear hu ha;induction l with
  |nil=>trivial
  |cons b r ih=>
   cases r with
   |nil=>exact h.1
   |cons c r=>exact⟨h.1,ih h.2⟩
 exact⟨ha,fun b hb=>kI (sB hc hb) ha,hc⟩
end
end
section
theorem uD(x:Sp)(hx:x.gn=false)(w:World):Calls prog 227 #[.agg #[.int .i64 x.tr,.int .i64 x.id,.int .i64 x.pa,.int .i64 x.rv,.string x.sv,.string x.op,.int .i64 x.st,.int .i64 x.du,.bool x.gn]] w fun e w'=>e=.returned (.bool false)∧Below w.heap.size w w':=by
 have nn:=Up w (.cells #[.int .i64 x.tr,.int .i64 x.id,.int .i64 x.pa,.int .i64 x.rv,.string x.sv,.string x.op,.int .i64 x.st,.int .i64 x.du,.bool x.gn] 93);have hb:=zB w (.cells #[.int .i64 x.tr,.int .i64 x.id,.int .i64 x.pa,.int .i64 x.rv,.string x.sv,.string x.op,.int .i64 x.st,.int .i64 x.du,.bool x.gn] 93);have c8:=aa nn 8;rw[hx]at*;go_enter func227,ntmps227;exact WA
section
variable{t ts:Nat}{own:Nat→Nat}
theorem yB(B q:Nat)(p p0:Option Addr)(S:List (ByteArray×ByteArray))(A:List (ByteArray×Int))(Ao Ai:Option Addr)(co ci:Nat)(out inn:List Sp)(ho:cD out)(hi:cD inn)(hd:∀x∈out,x∉inn)(hm:out.length≤700000)(hm':inn.length≤700000)
  (hg:∀x∈out,x.gn=false)(hg':∀x∈inn,x.gn=false)(hA:∀x∈out,ag oS A (aj x)=some x.pa)(hB:∀x∈inn,ag oS A (aj x)=none∨∃y∈out,aj y=aj x)
  (hSv:∀x∈out,ag oS S (aj x)=some x.sv)(w:World)(hc:w.cell? ⟨B,q+2,none⟩=some (.pointer p))(hT:dm AvI.nd oS own t w p A)(hcs:w.cell? ⟨B,q,none⟩=some (.pointer p0))(hTs:dm AvT.nd oS own ts w p0 S)(hr:cm w w.heap.size Ao out)(hr':cm w w.heap.size Ai inn):
  Calls prog 152 #[.pointer (some ⟨B,q,none⟩),.agg #[.slice Ao out.length co,.slice Ai inn.length ci]] w fun e w'=>e=.returned (.int .i64 0)∧Below w.heap.size w w':=by
 have hbw:=Uy w _ hc;have b0:=zB w (.cells #[.slice Ao out.length co,.slice Ai inn.length ci] 103);have n0:=Up w (.cells #[.slice Ao out.length co,.slice Ai inn.length ci] 103);have m0:=aa n0 0;have m1:=aa n0 1;have HRI:=zH (fun w1 (b:Below w.heap.size w w1)=>lE Ao Ai co ci out inn ho hi hd hm hm' w1 ((hr.below b).more b.size) ((hr'.below b).more b.size));have hany:∀l:List Sp,l.any (fun _=>false)=false:=fun l=>by simp
 have h1:=fun w1 (b1:Below w.heap.size w w1)=>qi Ao co out (fun _=>false) (by unfold maxLen;omega) w1 ((hr.below b1).more b1.size) (fun x hx W _=>uD x (hg x hx) W);have h2:=fun w1 (b1:Below w.heap.size w w1)=>qi Ai ci inn (fun _=>false) (by unfold maxLen;omega) w1 ((hr'.below b1).more b1.size) (fun x hx W _=>uD x (hg' x hx) W);simp only[hany]at h1 h2;have H1:=zH h1;have H2:=zH h2;have HPA:=zH (fun(x:Sp) (hx:x.Ok) (w1:World) (b1:Below w.heap.size w w1) (r:Option Int) (e:ag oS A (aj x)=r)=>jz (own:=own) (t:=t) B (q+2) p A x.tr x.id hx.1 hx.2.1 w1 ((b1.cell hbw).trans hc) (hT.below b1) r e);have HSG:=zH (fun(x:Sp) (hx:x∈out) (w1:World) (b1:Below w.heap.size w w1)=>KO (own:=own) (t:=ts) B q p0 S (aj x) w1 ((b1.cell (p:=⟨B,q,none⟩) hbw).trans hcs) (hTs.below b1) (some x.sv) (hSv x hx));have HO:=zH (show ∀x∈out,x.Ok from fun x hx=>(ho.vd x hx).ok);have HI:=zH (show ∀x∈inn,x.Ok from fun x hx=>(hi.vd x hx).ok);have HR:=zH hr;have HR':=zH hr';have HA:=zH hA;have HB:=zH hB;have HB0:=zH b0;clear h1 h2 hr hr' hA hB hT hc hcs hTs hSv hany hg hg' ho hi hd;go_enter func152,ntmps152;go_wp2_with (first |(go_at_call 52;(with_reducible refine(HRI.out _ HB0.out).mono ?_);rintro e w1 ⟨rfl,b1⟩;have B1:=ah b1 HB0.out;have n1:=af n0 b1;have k0:=aa n1 0;have k1:=aa n1 1;clear HRI) |(go_at_call 101;(with_reducible refine(H1.out _ B1).mono ?_);rintro e w2 ⟨rfl,b2⟩;have B2:=ah b2 B1;have n2:=af n1 b2;have j0:=aa n2 0;have j1:=aa n2 1;clear H1) |(go_at_call 101;(with_reducible refine(H2.out _ B2).mono ?_);rintro e w3 ⟨rfl,b3⟩;have B3:=ah b3 B2;have n3:=af n2 b3;have i0:=aa n3 0;have i1:=aa n3 1;have M3:=lW w3;have hmk:=QT (P:=prog) 218 w3;have n4:=ar n3 (.map #[] 0);have i2:=aa n4 0));have B4:=ae (.map #[] 0) B3;have e4:(w3.alloc (.map #[] 0)).heap.size=w3.heap.size+1:=Pq _ _;have e3:=B3.size;have s1:w.heap.size<w3.heap.size:=by have:=am n3;omega
 generalize w3.alloc (.map #[] 0)=w4 at*;clear hmk n0 n1 n2 n3 m0 m1 k0 k1 j0 j1 i0 i1 B1 B2 B3 b1 b2 b3 b0;have HN4:=zH n4;have HB4:=zH B4;have HM3:=zH M3;clear M3 n4 B4;go_loopw [36] (fun i wr=>∃(k:Nat) (f:ByteArray→Int),k≤out.length∧i=.int .i64 k∧kQ wr w3.heap.size f∧(∀x∈out.take k,0<f (aj x))∧(∀a,0≤f a∧f a≤k)∧Km (fun b=>b=w3.heap.size) w4 wr) (fun i _=>out.length - (intOf i).toNat)
 case atStart=>exact⟨0,fun _=>0,by omega,rfl,HM3.out,by simp,fun _=>⟨by simp,by simp⟩,Km.refl _ _⟩
 case round=>
  obtain⟨k,f,hk,rfl,hmap,hpos,hbd,hkm⟩:=hrel;obtain⟨wo,rfl⟩:∃wo,wo=wr:=⟨_,rfl⟩;have Bo:Below w.heap.size w wo:=HB4.out.trans (hkm.below (fun b hb e=>by omega) HB4.out.size);have hso:=Bo.size;by_cases hlt:k<out.length
  ·obtain⟨x,hk'⟩:=zg hlt;obtain⟨ad,rfl,hadl,c0,c1,c2,c3,c4,c5,c6,c7,c8⟩:=(HR.out.below Bo) k x hk';have hi1:(k:Int)< (out.length:Int):=by omega
   have hxo:=HO.out x (Pv hk');have HAX:=HA.out x (Pv hk');have hxm:=Pv hk';have HST:=zH (show ∀y∈out.take (k+1),y∈out.take k∨y=x from fun y hy=>by
    rw[PO,hk']at hy;simpa using hy)
   have nn:=Up wo (.cells (SA x) 93);have bn:=zB wo (.cells (SA x) 93);have Bn:=Bo.trans (bn.mono hso);have hmap':=hmap.below bn;have hkm':=hkm.trans (Km.of_below _ bn);have hpx:=HPA.out x hxo _ Bn.drew (some x.pa) HAX;simp only[AvI.vo]at hpx;have HPX:=zH hpx;clear hpx;have HSX:=zH (aL x hxo);have HF:=zH (Uq hpos hbd);have hM0:=hmap.lt;clear hk' hpos hbd HAX;go_wp2_with fail;generalize wo.alloc (.cells (SA x) 93)=wx at nn bn Bn hmap' hkm' HPX⊢;have HNN:=zH nn;refine zr (fun V=>V.heap[wo.heap.size]?=some (.cells (SA x) 93 (0,0))) nn fun hS0=>?_;(refine zh hS0 6 7 0 ?_;simp only[zd];((iterate 7 (refine zt (fun W hW=>by have y0:=aa hW;exact zq) ?_;simp only[zp]));refine ac ?_));(refine zo 7 rfl fun K hK=>?_;go_simp);go_at_call 228;(with_reducible refine(HPX.out).mono ?_);rintro e5 w5 ⟨rfl,b5⟩;have x5:=af hS0 b5;go_wp2_with fail;(refine zu hK x5 ?_;clear hK K;try simp only[zp]);(refine zh x5 0 5 8 ?_;simp only[zd];((iterate 5 (refine zU ?_;simp only[zp]));refine ac ?_));(refine ze ?_);clear hS0;have HSGX:=zH (fun w7 (b7:Below wx.heap.size wx w7)=>HSG.out x hxm w7 (Bn.trans (b7.mono Bn.size)));have HSPX:=HSX;have b5':Below wx.heap.size wx w5:=((Pk _ wx).drew).trans b5;go_wp2_with fail;refine zr (fun V=>V.heap[wo.heap.size]?=some (.cells (SA x) 93 (0,0))) x5 fun hS0=>?_;clear x5;(refine zh hS0 7 4 0 ?_;simp only[zd];((iterate 4 (refine zt (fun W hW=>by have y0:=aa hW;exact zq) ?_;simp only[zp]));refine ac ?_));(refine zo 4 rfl fun K hK=>?_;go_simp);go_at_call 27;(with_reducible refine(HSPX.out _).mono ?_);rintro e7 w7 ⟨rfl,b7⟩;have x7:=af hS0 b7;have b7':Below wx.heap.size wx w7:=ah b7 b5'.drew;(refine zu hK x7 ?_;clear hK K;try simp only[zp]);(refine zo 5 rfl fun K hK=>?_;go_simp);go_at_call 229;(with_reducible refine(HSGX.out _ b7').mono ?_);rintro e8 w8 ⟨rfl,rfl⟩;simp only[AvT.vo,RH];(refine zu hK x7 ?_;clear hK K;try simp only[zp]);(refine zh x7 0 5 6 ?_;simp only[zd];((iterate 5 (refine zU ?_;simp only[zp]));refine ac ?_));(refine ze ?_);clear hS0;have hmap5:=hmap'.below b7';have hkm5:=hkm'.trans (Km.of_below _ b7');have y0:=aa x7;go_wp2_with (go_at_call 27;(with_reducible refine(HSX.out _).mono ?_);rintro e6 w6 ⟨rfl,b6⟩;have hmap6:=hmap5.below b6;have hkm6:=hkm5.trans (Km.of_below _ b6);have hl6:=hmap6.look (cQ x.tr x.id);have hbk:=HF.out.2 (kk x.tr x.id);have gw:=Qp (f (kk x.tr x.id)+1) (by omega);obtain⟨w7,hrun,hm7,hk7,hs7⟩:=hmap6.put (cQ x.tr x.id) (f (kk x.tr x.id)+1));exact IN
  ·obtain rfl:k=out.length:=by omega
   rw[PM]at hpos;have HPOS:=zH hpos;have no:wo.heap[w.heap.size]?=some (.cells #[.slice Ao out.length co,.slice Ai inn.length ci] 103 (0,0)):=hkm.at HN4.out (fun e=>by omega);have o1:=aa no 1;have HMP:=zH hmap;clear hpos hbd hkm hmap;go_wp2_with fail;go_loopw [83] (fun i wi=>∃k:Nat,k≤inn.length∧i=.int .i64 k∧Below wo.heap.size wo wi) (fun i _=>inn.length - (intOf i).toNat)
   case atStart=>exact⟨0,by omega,rfl,Pk _ _⟩
   case round=>
    obtain⟨k,hk,rfl,hbi⟩:=hrel;obtain⟨wi,rfl⟩:∃wi,wi=wr:=⟨_,rfl⟩;have Bi:=Bo.trans (hbi.mono hso);by_cases hlt:k<inn.length
    ·obtain⟨x,hk'⟩:=zg hlt;exact Ug
    ·obtain rfl:k=inn.length:=by omega
     exact Pb
end
section
variable{own:Nat→Nat}{b:Nat}{w w':World}{B q:Nat}{cs:Array Value}{ty:TypeId}{W:Nat}{s s0:WS}
theorem AF{base:Nat}{v:Value}{xs:List Value}{e:TypeId}(hv:gJ w base e v xs)(hg:w.grownBy w' v.ownBlock):Kp (fun c=>v.ownBlock=some c) w w':=
 ⟨⟨hg.os,hg.tape,hg.output,hg.size,fun c hc hn=>hg.block c hc fun e=>hn e.symm⟩,fun c o hc hoc=>by
  refine(hg.block c (am hc) fun e=>?_).trans hc;obtain⟨_,_,cur,h3⟩:=hv.lt e.symm;rw[hc]at h3;cases h3;simp[Obj.isCells]at hoc⟩
theorem be.grown{base:Nat}{v:Value}{xs:List Value}{e:TypeId}(h:be own b w B q cs ty W s)(hv:gJ w base e v xs)(ho:∀k,v.ownBlock=some k→own k=0∧k≠B∧k≠W)(hb:0<b)(hg:w.grownBy w' v.ownBlock):
  be own b w' B q cs ty W s:=by
 obtain⟨ds,p1,p2,p3,p4,p5,n,h⟩:=h;have hk:=AF hv hg;have hf:∀t,0<t→∀c,c<w.heap.size→own c=t→¬v.ownBlock=some c:=fun t ht c _ e e'=>by have:=(ho c e').1;omega
 exact⟨ds,p1,p2,p3,p4,p5,n,⟨hk.toKm.at h.bB (fun e=>(ho B e).2.1 rfl),hk.toKm.at h.bW (fun e=>(ho W e).2.2 rfl),h.k0,h.k1,h.k2,h.k3,h.k4,h.k5,h.d0,h.d1,h.d2,h.d3,h.d4,h.d5,
  h.tA.kp hk (hf b hb) (aO.refl _ _),h.tC.kp hk (hf _ (by omega)) (aO.refl _ _),h.tP.kp hk (hf _ (by omega)) (aO.refl _ _),h.tU.kp hk (hf _ (by omega)) (aO.refl _ _),h.tG.kp hk (hf _ (by omega)) (aO.refl _ _),h.ow.mono hg.size,h.nB,h.nW,h.ne⟩⟩
theorem eY.ord{ds:Array Value}{p1 p2 p3 p4 p5:Option Addr}{n:Int}(h:eY own b w B q cs ty W ds p1 p2 p3 p4 p5 s n):s.Ord:=⟨h.tA.srt,h.tC.srt,h.tP.srt,h.tU.srt,h.tG.srt⟩
theorem iE(s:WS)(k:ByteArray):(bq s k).A=s.A∧(bq s k).C=s.C∧(bq s k).P=s.P∧(bq s k).G=s.G:=by
 unfold bq;by_cases h:(ag oS s.U k).isSome=true
 ·simp[h]
 ·simp[h]
def ER(W:Nat)(w:World):Nat:=match w.cell? ⟨W,4,none⟩with
 |some (.int _ n)=>n.toNat
 |_=>0
theorem eY.cnt{ds:Array Value}{p1 p2 p3 p4 p5:Option Addr}{n:Int}(h:eY own b w B q cs ty W ds p1 p2 p3 p4 p5 s n):ER W w=s.G.length:=by
 unfold ER;rw[(aa h.bW 4).trans h.d4];simp
theorem be.cnt(h:be own b w B q cs ty W s):ER W w=s.G.length:=by
 obtain⟨ds,p1,p2,p3,p4,p5,n,h⟩:=h;exact h.cnt
section
variable{own1:Nat→Nat}{w0:World}{cs1:Array Value}{s':WS}
theorem MW{P:Program}{f:FuncId}{args:Array Value}{R:Ending→Prop}(D:az own b w0 w B q cs ty W s)(H:∀own1 cs1,be own1 b w B q cs1 ty W s→Calls P f args w fun e w'=>R e∧az own1 b w w' B q cs1 ty W s'):
  Calls P f args w fun e w'=>R e∧az own b w0 w' B q cs ty W s':=by
 obtain⟨own1,cs1,h1,h2,h3,h4⟩:=D;exact(H own1 cs1 h1).mono fun e w' ⟨a,k⟩=>⟨a,az.after h1 h2 h3 h4 k⟩
theorem Dg(h:be own b w B q cs ty W s)(hs:s.Small)(k:ByteArray):
  Calls prog 253 #[.pointer (some ⟨B,q+4,none⟩),.string k] w fun e w'=>(∃c,e=.returned (.bool c))∧az own b w w' B q cs ty W {s with P:=aK oS s.P k}:=by
 obtain⟨ds,p1,p2,p3,p4,p5,n,h⟩:=h;exact Fx h hs k
theorem Ft(h:be own b w B q cs ty W s)(hs:s.Small)(k:ByteArray)(v:Int):
  Calls prog 168 #[.pointer (some ⟨W,3,none⟩),.string k,.int .i64 v] w fun e w'=>e=.returned (.bool (ag oS s.G k).isNone)∧az own b w w' B q cs ty W {s with G:=ay oS s.G k v}:=by
 obtain⟨ds,p1,p2,p3,p4,p5,n,h⟩:=h;exact I1 h hs k v
theorem az.reads(D:az own b w0 w B q cs ty W s):w.cell? ⟨W,0,none⟩=some (.pointer (some ⟨B,q,none⟩))∧∃n,w.cell? ⟨W,5,none⟩=some (.int .i64 n)∧w.frozen? ⟨W,5,none⟩=false:=by
 obtain⟨own1,cs1,⟨ds,p1,p2,p3,p4,p5,n,h⟩,_⟩:=D;exact⟨(aa h.bW 0).trans h.d0,n,(aa h.bW 5).trans h.d5,ak h.bW 5⟩
theorem az.step(D:az own b w0 w B q cs ty W s)(m:Int):az own b w0 (w.setCell ⟨W,5,none⟩ (.int .i64 m)) B q cs ty W s:=
 D.trans fun own1 cs1 ⟨ds,p1,p2,p3,p4,p5,n,h⟩=>h.step m
end
def MA(v:Value):Nat:=match v with | .slice _ n _=>n |_=>0
theorem I2(h:be own b w B q cs ty W s0)(hb:0<b)(hs:s0.Small)(hu:s0.U.length+1+s0.A.length≤700000)(hg:s0.G.length+1+s0.A.length≤700000)(hM:(s0.A.length+2)*(s0.C.length+2)≤60000000)(hG:Nj s0.G)(tr id:Int)(h1:aB tr)(h2:aB id)
  (hK:∀i,aB i→∀j∈aH s0.C tr i,aB j∧ag oS s0.A (kk tr j)≠none):
  Calls prog 182 #[.pointer (some ⟨W,0,none⟩),.int .i64 tr,.int .i64 id] w fun e w'=>(∃c,e=.returned c)∧∃s',az own b w w' B q cs ty W s'∧jq s0 tr id s' []:=by
 have hBW:B<w.heap.size∧W<w.heap.size∧s0.Ord:=by
  obtain⟨ds,p1,p2,p3,p4,p5,n,h⟩:=h;exact⟨am h.bB,am h.bW,h.ord⟩
 have hord0:=hBW.2.2;have hBw:=hBW.1;have hWw:=hBW.2.1;clear hBW;have b0:=zB w (.cells #[.int .i64 id] 3);have n0:=Up w (.cells #[.int .i64 id] 3);have ow0:own w.heap.size=0:=by
  obtain⟨ds,p1,p2,p3,p4,p5,n,h⟩:=h;exact h.ow _ (Po _)
 have HS:=zH (Uq hs (Uq hu (Uq hg (Uq hG (Uq hK hM)))));have HOF:=zH (fun i (hi:aB i)=>cz tr i h1 hi);have HST:=zH (show ∃(left:List Int) (own':Nat→Nat) (cs':Array Value) (s:WS),gJ (w.alloc (.cells #[.int .i64 id] 3)) w.heap.size 3 (.slice (some ⟨w.heap.size,0,none⟩) 1 1) (left.map iV)∧(∀k,(Value.slice (some ⟨w.heap.size,0,none⟩) 1 1).ownBlock=some k→own' k=0)∧be own' b (w.alloc (.cells #[.int .i64 id] 3)) B q cs' ty W s∧aT q 6 cs cs'∧Kp (FW own b B W) w (w.alloc (.cells #[.int .i64 id] 3))∧aO own own' w∧jq s0 tr id s left∧left.length+(s0.G.length+1+s0.A.length+1 - s.G.length)*(s0.C.length+2)≤(s0.A.length+2)*(s0.C.length+2)+1 from
  ⟨[id],own,cs,s0,.inr ⟨w.heap.size,0,1,_,rfl,Po _,n0,by simp,by unfold maxLen;omega,by simp,by simp⟩,fun k e=>by simp[Value.ownBlock]at e;rw[←e];exact ow0,h.below b0,aT.refl _ _ _,Kp.of_below _ b0,aO.refl _ _,xS h2,by rw[show s0.G.length+1+s0.A.length+1 - s0.G.length=s0.A.length+2 by omega];simp;omega⟩)
 clear hs hu hg hG hK hM ow0 n0 b0 h;go_enter func182,ntmps182;go_wp2_with fail;go_loopw [6] (fun v wr=>∃(left:List Int) (own':Nat→Nat) (cs':Array Value) (s:WS),gJ wr w.heap.size 3 v (left.map iV)∧(∀k,v.ownBlock=some k→own' k=0)∧be own' b wr B q cs' ty W s∧aT q 6 cs cs'∧Kp (FW own b B W) w wr∧aO own own' w∧jq s0 tr id s left∧left.length+(s0.G.length+1+s0.A.length+1 - s.G.length)*(s0.C.length+2)≤(s0.A.length+2)*(s0.C.length+2)+1) (fun v wr=>(s0.G.length+1+s0.A.length+1 - ER W wr)*(s0.C.length+2)+MA v)
 case atStart=>exact HST.out
 case round=>
  obtain⟨wo,rfl⟩:∃wo,wo=wr:=⟨_,rfl⟩;obtain⟨left,own1,cs1,s1,hv,hov,hwk,hnear,hkp,hext,hI,hbnd⟩:=hrel;obtain⟨ds,p1,p2,p3,p4,p5,n,hat⟩:=(show _ from hwk);have hso:=hkp.size;cases left with
  |nil=>
   obtain⟨A,c,rfl,_⟩:=hv.slice;have HF:=zH (show ∃s',az own b w wo B q cs ty W s'∧jq s0 tr id s' []from⟨s1,⟨own1,cs1,hwk,hnear,hkp,hext⟩,hI⟩);clear hv hov hwk hnear hkp hext hI hat;go_wp2_with fail;go_end0;exact⟨⟨_,rfl⟩,HF.out⟩
  |cons i rest=>
   rcases(show gJ _ _ _ _ _ from hv)with⟨_,e⟩ |⟨g,o,c,cur,rfl,hg1,hg2,hg3,hg4,hg5,hg6⟩
   ·simp at e
   have hlen:(List.map iV (i::rest)).length=rest.length+1:=by simp
   rw[hlen]at hg3 hg6;have hcur:cur[o]?=some (.int .i64 i):=by
    have e:=congrArg (fun l:List Value=>l[0]?) hg6;simp only[UA,VK]at e;rw[Wg,Pj (by omega),RS]at e;simpa using e
   have c0:wo.cell? ⟨g,o,none⟩=some (.int .i64 i):=(aa hg2 o).trans hcur;have hHV:=zH hv;have HG2:=zH hg2;have hone:(1:Int)≤(rest.length:Int)+1:=by omega
   have hpos:(0:Int)< ((rest.length+1:Nat):Int):=by omega
   simp only[UA,PC,Ur];have hg6':=hg6;clear hv hg6;have hord:=hat.ord;have HBD:=zH hbnd;have hrl:rest.length≤60000001:=by have:=HS.out.2.2.2.2.2;simp only[PC]at hbnd;omega
   clear hbnd;have hgl:=hI.glen hord.g hord0.g hord0.a;have hul:=hI.ul;have HSM:=zH (show s1.Small from⟨by rw[hI.a];exact HS.out.1.a,by rw[hI.c];exact HS.out.1.c,Pt hI.pl HS.out.1.p,by have:=HS.out.2.1;omega,by have:=HS.out.2.2.1;omega,by rw[hI.a];exact HS.out.1.i,by rw[hI.c];exact HS.out.1.k⟩);have hi:aB i:=(hI.lok i (by simp)).1;have hgW:g≠B∧g≠W∧own1 g=0:=⟨by omega,by omega,hov g (by simp[Value.ownBlock])⟩;have hv2:gJ wo w.heap.size 3 (.slice (if c=1 then some ⟨g,o,none⟩else some ⟨g,o+1,none⟩) rest.length (c - 1)) (rest.map iV):=by
    have e:(cur.toList.drop (o+1)).take rest.length=rest.map iV:=by
     have e:=congrArg (List.drop 1) hg6';rw[UA,QG,Qo,List.drop_take,List.drop_drop]at e;simpa using e
    by_cases hc1:c=1
    ·have:rest=[]:=QW (by omega);subst this;rw[Pj hc1];exact .inr ⟨g,o,c - 1,cur,by simp,hg1,hg2,by simp,by omega,by omega,by simp⟩
    ·rw[Pm hc1];exact .inr ⟨g,o+1,c - 1,cur,by simp,hg1,hg2,by simp;omega,by omega,by omega,by simpa using e⟩
   obtain⟨A',hA',hA2⟩:∃A':Option Addr,A'=(if c=1 then some ⟨g,o,none⟩else some ⟨g,o+1,none⟩)∧∀k,(Value.slice A' rest.length (c - 1)).ownBlock=some k→k=g:=⟨_,rfl,fun k e=>by split at e<;>simp[Value.ownBlock]at e<;>omega⟩;rw[←hA']at hv2;have HOV:=zH hA2;have HA':=zH hA';clear hA';have HV2:=zH hv2;have HC:=zH (show ∀w4 own4 cs4 s4,be own4 b w4 B q cs4 ty W s4→aT q 6 cs1 cs4→Kp (FW own1 b B W) wo w4→aO own1 own4 wo→aT q 6 cs cs4∧Kp (FW own b B W) w w4∧aO own own4 w∧gJ w4 w.heap.size 3 (.slice A' rest.length (c - 1)) (rest.map iV)∧(∀k,(Value.slice A' rest.length (c - 1)).ownBlock=some k→own4 k=0∧k≠B∧k≠W)from
    fun w4 own4 cs4 s4 k1 k2 k3 k4=>⟨hnear.trans k2,hkp.trans' k3 (fun c hc hf=>hf.ext hext hc),hext.trans k4 hkp.size,HV2.out.kept (fun k e=>by
     rw[HOV.out k e];exact k3.block g (am HG2.out) (fun hf=>by
      rcases hf with e |e |e
      ·exact hgW.1 e
      ·exact hgW.2.1 e
      ·have:=hgW.2.2;omega)),fun k e=>by rw[HOV.out k e];exact⟨by rw[k4 g (am HG2.out)];exact hgW.2.2,hgW.1,hgW.2.1⟩⟩)
   have HPG:=zH (show ∀w3,Below wo.heap.size wo w3→Calls prog 168 #[.pointer (some ⟨W,3,none⟩),.string (kk tr i),.int .i64 tr] w3 fun e w4=>e=.returned (.bool (ag oS s1.G (kk tr i)).isNone)∧az own1 b wo w4 B q cs1 ty W {s1 with G:=ay oS s1.G (kk tr i) tr}from
    fun w3 b3=>MW (hwk.same b3) fun own3 cs3 h3=>Ft h3 HSM.out (kk tr i) tr)
   have HOI:=zH (HOF.out i hi);have HWK:=zH hwk;clear hwk hv2 hA2 hov hat hgl hul hnear hkp hext;go_wp2_with fail;refine zr (fun V=>V.heap[g]?=some (.cells cur 3 (0,0))) hg2 fun hS0=>?_;(refine zh hS0 0 7 0 ?_;simp only[zd];((iterate 7 (refine zt (fun W hW=>by have c0:=(aa hW o).trans hcur;exact zq) ?_;simp only[zp]));refine ac ?_));(refine ze ?_);clear hS0;rw[←HA'.out];rcases hq:ag oS s1.G (kk tr i)with _ |gv
   ·rw[hq]at HPG;have hone1:=hI.one hord (hK:=fun j hj=>HS.out.2.2.2.2.1 i hi j hj) h1 hq;have hp5:=mH s1 tr i;have hgl2:=hone1.glen (by rw[hp5.2.2.1];exact dR oS hord.g _ _) hord0.g hord0.a;have hul2:=hone1.ul;have hul1:=hI.ul;have hgl1:=hI.glen hord.g hord0.g hord0.a;have hb1:=HS.out.2.1;have hb2:=HS.out.2.2.1;have tp:=iE {s1 with G:=ay oS s1.G (kk tr i) tr} (kk tr i);have HSM2:=zH (show WS.Small {s1 with G:=ay oS s1.G (kk tr i) tr}from⟨HSM.out.a,HSM.out.c,HSM.out.p,HSM.out.u,(show(ay oS s1.G (kk tr i) tr).length≤700000 by rw[←hp5.2.2.1];omega),HSM.out.i,HSM.out.k⟩);have HSM3:=zH (show(bq {s1 with G:=ay oS s1.G (kk tr i) tr} (kk tr i)).Small from
     ⟨by rw[tp.1];exact HSM2.out.a,by rw[tp.2.1];exact HSM2.out.c,by rw[tp.2.2.1];exact HSM2.out.p,by have:(bq {s1 with G:=ay oS s1.G (kk tr i) tr} (kk tr i)).U.length=(cU s1 tr i).U.length:=rfl;omega,by rw[tp.2.2.2];exact HSM2.out.g,by rw[tp.1];exact HSM2.out.i,by rw[tp.2.1];exact HSM2.out.k⟩)
    have HON:=zH hone1;have HTO:=zH (fun w5 (D:az own1 b wo w5 B q cs1 ty W {s1 with G:=ay oS s1.G (kk tr i) tr})=>MW D fun own3 cs3 h3=>wL h3 HSM2.out (kk tr i));have HDP:=zH (show ∀w6,az own1 b wo w6 B q cs1 ty W (bq {s1 with G:=ay oS s1.G (kk tr i) tr} (kk tr i))→Calls prog 253 #[.pointer (some ⟨B,q+4,none⟩),.string (kk tr i)] w6 fun e w'=>(∃c,e=.returned (.bool c))∧az own1 b wo w' B q cs1 ty W (cU s1 tr i)from fun w6 D=>by
     have e:cU s1 tr i={bq {s1 with G:=ay oS s1.G (kk tr i) tr} (kk tr i)with P:=aK oS (bq {s1 with G:=ay oS s1.G (kk tr i) tr} (kk tr i)).P (kk tr i)}:=by rw[tp.2.2.1];rfl
     rw[e];exact MW D fun own3 cs3 h3=>Dg h3 HSM3.out (kk tr i))
    have HAS:=zH (show ∀w7,az own1 b wo w7 B q cs1 ty W (cU s1 tr i)→Calls prog 254 #[.slice A' rest.length (c - 1),.func (.func 290) #[] #[.pointer (some ⟨w7.heap.size,0,none⟩),.pointer (some ⟨w7.heap.size+1,0,none⟩),.pointer (some ⟨w7.heap.size+2,0,none⟩)]]
      (((w7.alloc (.cells #[.pointer (some ⟨B,q,none⟩)] 353)).alloc (.cells #[.int .i64 tr] 3)).alloc (.cells #[.int .i64 i] 3)) fun e w9=>∃A9 c9,e=.returned (.slice A9 (rest.length+(aH s0.C tr i).length) c9)∧gJ w9 w.heap.size 3 (.slice A9 (rest.length+(aH s0.C tr i).length) c9) ((rest++aH s0.C tr i).map iV)∧
       ∃own' cs',(∀k,(Value.slice A9 (rest.length+(aH s0.C tr i).length) c9).ownBlock=some k→own' k=0)∧be own' b w9 B q cs' ty W (cU s1 tr i)∧aT q 6 cs cs'∧Kp (FW own b B W) w w9∧aO own own' w from fun w7 D=>by
     obtain⟨own7,cs7,k1,k2,k3,k4⟩:=D;obtain⟨j1,j2,j3,j4,j5⟩:=HC.out _ _ _ _ k1 k2 k3 k4;obtain⟨ds,p1,p2,p3,p4,p5,n,h7⟩:=(show be own7 b w7 B q cs7 ty W (cU s1 tr i)from k1);obtain⟨T,hp,hTl,hT,hTn,hTs⟩:=h7.tC;have hTC:T.toL=s0.C:=by rw[hTl,hp5.2.1];exact hI.c
     have a1:=Up w7 (.cells #[.pointer (some ⟨B,q,none⟩)] 353);have a2:=Up (w7.alloc (.cells #[.pointer (some ⟨B,q,none⟩)] 353)) (.cells #[.int .i64 tr] 3);have a3:=Up ((w7.alloc (.cells #[.pointer (some ⟨B,q,none⟩)] 353)).alloc (.cells #[.int .i64 tr] 3)) (.cells #[.int .i64 i] 3);have c1:=ar (ar a1 (.cells #[.int .i64 tr] 3)) (.cells #[.int .i64 i] 3);have c2:=ar a2 (.cells #[.int .i64 i] 3);have bV:Below w7.heap.size w7 (((w7.alloc (.cells #[.pointer (some ⟨B,q,none⟩)] 353)).alloc (.cells #[.int .i64 tr] 3)).alloc (.cells #[.int .i64 i] 3)):=ae _ (ae _ (ae _ (Pk _ _)));have s3:(((w7.alloc (.cells #[.pointer (some ⟨B,q,none⟩)] 353)).alloc (.cells #[.int .i64 tr] 3)).alloc (.cells #[.int .i64 i] 3)).heap.size=w7.heap.size+3:=by rw[Pq,Pq,Pq]
     rw[Pq,Pq]at a3;rw[Pq]at c2;generalize ((w7.alloc (.cells #[.pointer (some ⟨B,q,none⟩)] 353)).alloc (.cells #[.int .i64 tr] 3)).alloc (.cells #[.int .i64 i] 3)=w8 at c1 c2 a3 bV s3⊢;have bqw:=am h7.bB;have hst:=mW (own:=own7) (t:=b+1) 8 (by omega) w7.heap.size (w7.heap.size+1) (w7.heap.size+2) B q T tr i h1 hi w8 (aa c1 0) (aa c2 0) (aa a3 0) ((bV.cell (p:=⟨B,q+2,none⟩) bqw).trans (((aa h7.bB (q+2)).trans h7.k2).trans (by rw[hp]))) (hT.below bV) (by rw[hTl];exact hTs) (fun z hz=>HS.out.1.k z (by rw[←hTC];exact hz));have hTw:∀c∈T.blocks,c<w7.heap.size∧own7 c=b+1:=fun c hc=>⟨(hT.at c hc).2,(hT.at c hc).1⟩;have hkl:T.toL.length≤700000:=by rw[hTC];exact HS.out.1.c
     have hw8:=j4.below bV;have hsz7:wo.heap.size≤w7.heap.size:=k3.size;have hgs:=am HG2.out;refine(BB (fun z:{k // k∈aH T.toL tr i}=>z.1) _ _ _ _ _ _ hkl w8 hst (QS func290 (by kernel_rfl) rfl) (fun c hc=>?_) w.heap.size (by omega) _ _ hw8 (by simp;omega) (fun c hc hf=>?_)).mono ?_
     ·rcases hc with rfl |rfl |hc
      ·omega
      ·omega
      ·have:=(hTw c hc).1;omega
     ·have hcg:=HOV.out c hc;rcases hf with e |e |e
      ·omega
      ·omega
      ·have:=(hTw c e).2;have:=(j5 c hc).1;omega
     ·rintro e w9 ⟨v',ys,rfl,hS,hw,hg,hd⟩;have hcont:rest.map iV++ys.map (fun z=>Value.int .i64 z.1)=(rest++aH s0.C tr i).map iV:=by
       have e:=congrArg (List.map iV) hS;rw[UQ]at e;rw[PU,←hTC];exact congrArg (rest.map iV++·) e
      rw[hcont]at hw;obtain⟨A9,c9,rfl,_⟩:=hw.slice;rw[Ur,Pu]at hw hd⊢;refine⟨A9,c9,rfl,hw,own7,cs7,fun k hk=>?_,(k1.below bV).grown hw8 j5 hb hg,j1,(j2.trans (Kp.of_below _ bV)).trans' (AF hw8 hg) (fun c hc e=>?_),j3⟩
      ·rcases hd k hk with e |e
       ·exact(j5 k e).1
       ·exact h7.ow k (by omega)
      ·have:=(hw8.lt e).1;omega)
    have HGL:=zH (show(cU s1 tr i).G.length=s1.G.length+1∧s1.G.length+1≤s0.G.length+1+s0.A.length∧(aH s0.C tr i).length≤s0.C.length from⟨by rw[hp5.2.2.1,cM oS hord.g,hq];simp,by have:=hgl2;rw[hp5.2.2.1,cM oS hord.g,hq]at this;simpa using this,xX _ _ _⟩);clear hI hq hone1 hgl2 hul2 hul1 hgl1 hb1 hb2 tp hp5 hord;go_wp2_with (first
     |(go_at_call 61;(with_reducible refine(HOI.out _).mono ?_);rintro e3 w3 ⟨rfl,b3⟩;have b3':Below wo.heap.size wo w3:=((Pk _ wo).drew).trans b3)
     |(go_at_call 168;(with_reducible refine(HPG.out _ b3').mono ?_);rintro e4 w4 ⟨rfl,D4⟩;obtain⟨r4,n4,q4,f4⟩:=D4.reads;have D5:=D4.step;clear HPG)
     |(go_at_call 252;(with_reducible refine(HTO.out _ (D5 _)).mono ?_);rintro e6 w6 ⟨⟨c6,rfl⟩,D6⟩;obtain⟨r6,n6,q6,f6⟩:=D6.reads;clear D5)
     |(go_at_call 253;(with_reducible refine(HDP.out _ D6).mono ?_);rintro e7 w7 ⟨⟨c7,rfl⟩,D7⟩;obtain⟨r7,n7,q7,f7⟩:=D7.reads)
     |(go_at_call 231;(with_reducible refine(pw ⟨B,q,none⟩ tr i _).mono ?_);rintro e8 w8 ⟨rfl,rfl⟩)
     |(go_at_call 254;(with_reducible refine(HAS.out _ D7).mono ?_);rintro e9 w9 ⟨A9,c9,rfl,v9,own9,cs9,o9,k9,m9,t9,x9⟩))
    obtain⟨g1,g2,g3⟩:=HGL.out;have hbd:=HBD.out;have e2:s0.G.length+1+s0.A.length+1 - s1.G.length=(s0.G.length+1+s0.A.length+1 - (s1.G.length+1))+1:=by omega
    rw[e2,RL,PC]at hbd;refine⟨⟨rest++aH s0.C tr i,own9,cs9,_,v9,o9,k9,m9,t9,x9,HON.out,by rw[g1,Pu];omega⟩,?_⟩;rw[k9.cnt,HWK.out.cnt,g1];rw[e2,RL];show _+(rest.length+(aH s0.C tr i).length)<_+(rest.length+1);generalize (s0.G.length+1+s0.A.length+1 - (s1.G.length+1))*(s0.C.length+2)=m0;omega
   ·rw[hq]at HPG;have HSK:=zH (hI.skip hord hord0 HS.out.2.2.2.1 h1 (by rw[hq];simp));have HGL:=zH (show(ay oS s1.G (kk tr i) tr).length=s1.G.length by rw[cM oS hord.g,hq];simp);clear hI hq;go_wp2_with (first |(go_at_call 61;(with_reducible refine(HOI.out _).mono ?_);rintro e3 w3 ⟨rfl,b3⟩;have b3':Below wo.heap.size wo w3:=((Pk _ wo).drew).trans b3) |(go_at_call 168;(with_reducible refine(HPG.out _ b3').mono ?_);rintro e4 w4 ⟨rfl,own4,cs4,k1,k2,k3,k4⟩));obtain⟨j1,j2,j3,j4,j5⟩:=HC.out _ _ _ _ k1 k2 k3 k4;refine⟨⟨rest,own4,cs4,_,j4,fun k e=>(j5 k e).1,k1,j1,j2,j3,HSK.out,by have:=HBD.out;rw[PC]at this;rw[show({s1 with G:=ay oS s1.G (kk tr i) tr}:WS).G.length=s1.G.length from HGL.out];omega⟩,?_⟩;have e1:ER W w4=ER W wo:=by
     rw[k1.cnt,HWK.out.cnt,HGL.out]
    rw[e1];exact Nat.add_lt_add_left (Nat.lt_succ_self _) _
end
end
