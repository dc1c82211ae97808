/- For WholeGossip: contracts of functions and plain laws. -/
import Derived.Lib.SplitLaws
import Derived.Test.YtfgfbacnkpeneaaGreatDoorVBl
set_option maxRecDepth 100000
set_option maxHeartbeats 4000000
set_option linter.unusedVariables false
set_option linter.unusedSimpArgs false
namespace Go.Proofs.YtfgfbacnkpeneaaGreatDoor
open Go.Proofs.Tryz Go.ChangeShapes Go.WideShapes Go.ChangeAt Go.RowKit Go.Deep AvlP
theorem Ue{P:Prop}(h:P:=by
 (refine zh hS0 2 2 5 ?_;simp only[zd];((iterate 2 (refine zt (fun W hW=>by have y4:=aa hW 4;exact zq) ?_;simp only[zp]));refine ac ?_));(refine zo 4 rfl fun K hK=>?_;go_simp);go_at_call 27;(with_reducible refine(HSP.out _).mono ?_);rintro e8 w8 ⟨rfl,b8⟩;have b8':Below w7.heap.size w7 w8:=((Pk _ w7).drew).trans b8;have n8:=af n7 b8';go_wp2_with fail;(refine zu hK n8 ?_;clear hK K;try simp only[zp]);(refine zo 7 rfl fun K hK=>?_;go_simp);go_at_call 158;(with_reducible refine(HS.out _ b8').mono ?_);rintro e9 w9 ⟨own9,r9,rfl,D9⟩;obtain⟨cs9,a9,q9,kk9,ka9,HF⟩:=HO.out _ _ _ _ _ _ _ _ _ D7 b8' D9;have hz:=am n7;have h07:own7 wr.heap.size=0:=(D7.ext _ (am nn)).trans hw0;have n9:=D9.kp.toKm.at n8 (fun hf=>by rcases hf with e |e;exact hnB e;omega);have HA:=zH (pC 159 (fun _ _=>by kernel_rfl) _ 1 a9 q9 (lR HV.out) HX.out kk9 kk9.sz (by
  have h2:=vD HV.out kk9.sa ka9;have h3:=kk9.clen;have:=HSM.out;omega) (CO _ HR.out.sm))
 go_wp2_with fail;(refine zu hK n9 ?_;clear hK K;try simp only[zp]);(refine ze ?_);have z0:=aa n9;go_wp2_with (go_at_call 153;(with_reducible refine(HA.out).mono ?_);rintro e4 w4 ⟨⟨v4,rfl⟩,P4,k4⟩);exact⟨⟨k+1,by omega,by go_num,by rw[t5];exact HJ.out _ (HF P4 k4)⟩,by simp[intOf];omega⟩):P:=h
theorem OM{P:Prop}(h:P:=by
 obtain⟨_,_,_,_,_,_,h1,_⟩:=s1;have:=h1.mp.lt;omega):P:=h
theorem ON{P:Prop}(h:P:=by
 clear h H0 henL;go_enter func161,ntmps161;go_wp2_with fail;go_ret;exact⟨rfl,bR.of HO.out b0⟩):P:=h
section
structure oZ where
 sv:ByteArray
 op:ByteArray
 trs:List Int
def mr(k:ByteArray):ByteArray:=k.extract 0 (k.size - 16)
def J7(k:ByteArray):Int:=tk (k.extract (k.size - 16) k.size)
def gQ:ByteArray:=⟨#[0]⟩
def CG(s:ByteArray):List ByteArray:=Lib.splitB gQ 0 (Lib.countB s gQ) s
def cO:List oZ→Int→List oZ
 |[],_=>[]
 |[a],t=>[{a with trs:=a.trs++[t]}]
 |a::b::r,t=>a::cO (b::r) t
def gE(a:List oZ×ByteArray)(k:ByteArray):List oZ×ByteArray:=
 (cO (if mr k=a.2 then a.1 else a.1++[⟨(CG (mr k)).getD 0 ⟨#[]⟩,(CG (mr k)).getD 1 ⟨#[]⟩,[]⟩]) (J7 k),mr k)
def MH(K:List ByteArray):List oZ:=(K.foldl gE ([],⟨#[]⟩)).1
theorem kN:∀(l:List oZ) (a:oZ) (t:Int),cO (l++[a]) t=l++[{a with trs:=a.trs++[t]}]
 |[],_,_=>rfl
 |[b],a,t=>rfl
 |b::c::r,a,t=>by
  have:=kN (c::r) a t;simp only[PN]at this⊢;rw[cO,this]
theorem yA(x:Sp):(me x).size=x.sv.size+x.op.size+18:=by
 unfold me fe;simp only[QC,aY];show x.sv.size+1+x.op.size+1+16=_;omega
theorem CH(x:Sp):mr (me x)=fe x.sv x.op++gQ:=by
 unfold mr;rw[yA];unfold me;refine ByteArray.extract_append_eq_left ?_;unfold fe;simp only[QC];show _=x.sv.size+1+x.op.size+1;omega
theorem LO(x:Sp):mr (me x)≠⟨#[]⟩:=fun e=>by
 have:=congrArg ByteArray.size e;rw[CH]at this;unfold fe at this;simp only[QC]at this;have h2:gQ.size=1:=rfl;have h3:(⟨#[]⟩:ByteArray).size=0:=rfl;omega
theorem J6(x:Sp):2≤(CG (mr (me x))).length:=by
 unfold CG;rw[Lib.splitB_all gQ (by decide) 0 _ _ rfl];have:1≤Lib.countB (mr (me x)) gQ:=by
  unfold Lib.countB;rw[show gQ.data.toList=[0]from rfl,Lib.count_one,CH];refine VN.2 ?_;rw[Wc,TU];exact Vy _ (by simp[gQ])
 omega
theorem BS(r:Option Int):AvI.vo r=.int .i64 (r.getD 0):=by cases r<;>rfl
section
variable{own own':Nat→Nat}{t:Nat}{w w':World}{B q:Nat}{cs cs':Array Value}{ty:TypeId}{p p':Option Addr}{L L':List (ByteArray×Int)}{R R':List Sp}{x:Sp}
structure qm(own:Nat→Nat)(t:Nat)(w:World)(B q:Nat)(cs:Array Value)(ty:TypeId)(p:Option Addr)(L:List (ByteArray×Int))(R:List Sp):Prop where
 box:w.heap[B]?=some (.cells cs ty (0,0))
 c0:cs[q]?=some (.pointer p)
 c1:cs[q+1]?=some (.int .i64 (L.length:Nat))
 tr:dm AvI.nd oS own t w p L
 ow:Ow own w
 oB:own B≠t
 tl:eM L (sk R)
def dZ(own:Nat→Nat)(t:Nat)(w:World)(B q:Nat)(cs:Array Value)(ty:TypeId)(R:List Sp):Prop:=∃p L,qm own t w B q cs ty p L R
def wy(own:Nat→Nat)(t B b:Nat):Prop:=b=B∨own b=t
structure bR(own:Nat→Nat)(t:Nat)(w w':World)(B q:Nat)(cs:Array Value)(ty:TypeId)(R:List Sp):Prop where
 ex:∃own' cs',dZ own' t w' B q cs' ty R∧aT q 2 cs cs'∧aO own own' w
 kp:Km (wy own t B) w w'
theorem qm.far{F:Nat→Prop}(h:qm own t w B q cs ty p L R)(hk:Km F w w')(hf:∀b,b<w.heap.size→wy own t B b→¬F b)(he:aO own own' w)(ho:Ow own' w'):qm own' t w' B q cs ty p L R:=by
 have hlB:=am h.box;exact⟨hk.at h.box (hf B hlB (.inl rfl)),h.c0,h.c1,h.tr.kmE hk (fun b hb e=>hf b hb (.inr e)) he,ho,by rw[he B hlB];exact h.oB,h.tl⟩
theorem qm.below(h:qm own t w B q cs ty p L R)(b:Below w.heap.size w w'):qm own t w' B q cs ty p L R:=h.far (Km.of_below (fun _=>False) b) (fun _ _ _=>id) (aO.refl _ _) (h.ow.mono b.size)
theorem dZ.below(h:dZ own t w B q cs ty R)(b:Below w.heap.size w w'):dZ own t w' B q cs ty R:=by
 obtain⟨p,L,h⟩:=h;exact⟨p,L,h.below b⟩
theorem dZ.perm(h:dZ own t w B q cs ty R)(hp:R.Perm R'):dZ own t w B q cs ty R':=by
 obtain⟨p,L,h⟩:=h;exact⟨p,L,h.box,h.c0,h.c1,h.tr,h.ow,h.oB,h.tl.perm (sj hp)⟩
theorem dZ.ow(h:dZ own t w B q cs ty R):Ow own w:=by
 obtain⟨_,_,h⟩:=h;exact h.ow
theorem dZ.lt(h:dZ own t w B q cs ty R):B<w.heap.size:=by
 obtain⟨_,_,h⟩:=h;exact am h.box
theorem bR.of(h:dZ own t w B q cs ty R)(b:Below w.heap.size w w'):bR own t w w' B q cs ty R:=⟨⟨_,_,h.below b,aT.refl _ _ _,aO.refl _ _⟩,Km.of_below _ b⟩
theorem wy.ext{b:Nat}(he:aO own own' w)(hlt:b<w.heap.size)(h:wy own' t B b):wy own t B b:=by
 unfold wy at*;rw[he b hlt]at h;exact h
theorem bR.join{own1:Nat→Nat}{cs1:Array Value}{w1 w2:World}(n1:aT q 2 cs cs1)(e1:aO own own1 w)(k1:Km (wy own t B) w w1)(h:bR own1 t w1 w2 B q cs1 ty R):bR own t w w2 B q cs ty R:=by
 exact Ov
theorem pz(m:bI AvI.nd oS own t w w' B q cs ty L' own' p')(h0:cs[q]?=some (.pointer p))(h1:cs[q+1]?=some (.int .i64 (L.length:Nat)))(hB:B<w.heap.size)(oB:own B≠t)(tl:eM L' (sk R)):bR own t w w' B q cs ty R:=by
 have t01:=gh (u:=.pointer p') (v:=.int .i64 (L'.length:Nat)) h0 h1;exact⟨⟨own',_,⟨p',L',m.box,t01.1,t01.2,m.tr,m.ow,by rw[m.ext B hB];exact oB,tl⟩,cX _ _ _ _,m.ext⟩,m.kp.toKm⟩
theorem EH(sv op:ByteArray)(h1:sv.size≤100000)(h2:op.size≤100000)(w:World):
  Calls prog 298 #[.string sv,.string op] w fun e w'=>e=.returned (.string (fe sv op++⟨#[0]⟩))∧w=w':=by
 have e1:(sv++⟨#[0]⟩:ByteArray).size=sv.size+1:=by rw[QC];rfl
 have e2:(sv++⟨#[0]⟩++op:ByteArray).size=sv.size+1+op.size:=by rw[QC,e1]
 have g1:(sv++⟨#[0]⟩:ByteArray).size≤maxLen:=by rw[e1];unfold maxLen;omega
 have g2:(sv++⟨#[0]⟩++op:ByteArray).size≤maxLen:=by rw[e2];unfold maxLen;omega
 have g3:(sv++⟨#[0]⟩++op++⟨#[0]⟩:ByteArray).size≤maxLen:=by
  rw[QC,e2];show _+1≤maxLen;unfold maxLen;omega
 go_enter func298,ntmps298;exact NR
theorem CE(x:Sp)(hx:x.In)(w:World):Calls prog 240 #[.agg (SA x)] w fun e w'=>e=.returned (.string (me x))∧Below w.heap.size w w':=by
 have hf:=hx.few;have HF:=zH (fun w1=>EH x.sv x.op (Pt hf.1 (by omega)) (Pt hf.2 (by omega)) w1);have HO:=zH (fun w1=>cz x.tr 0 hx.ok.1 (by unfold aB;omega) w1);have hb:=zB w (.cells (SA x) 93);have nn:=Up w (.cells (SA x) 93);have g1:(9223372036854775807< (fe x.sv x.op).size+1+(kk x.tr 0).size)=False:=by
  have e1:(fe x.sv x.op).size=x.sv.size+1+x.op.size:=by
   unfold fe;rw[QC,QC];rfl
  have h1:=hf.1;have h2:=hf.2;rw[aY,e1];exact eq_false (by omega)
 go_enter func240,ntmps240;go_wp2_with fail;refine zr (fun V=>V.heap[w.heap.size]?=some (.cells (SA x) 93 (0,0))) nn fun hS0=>?_;have b0:=hb.drew;clear nn;(refine zh hS0 6 4 0 ?_;simp only[zd];((iterate 4 (refine zt (fun W hW=>by have y0:=aa hW;exact zq) ?_;simp only[zp]));refine ac ?_));(refine zh hS0 4 2 5 ?_;simp only[zd];((iterate 2 (refine zt (fun W hW=>by have y0:=aa hW;exact zq) ?_;simp only[zp]));refine ac ?_));(refine zo 4 rfl fun K hK=>?_;go_simp);go_at_call 298;(with_reducible refine(HF.out _).mono ?_);rintro e1 w1 ⟨rfl,rfl⟩;(refine zu hK hS0 ?_;clear hK K;try simp only[zp]);(refine zo 7 rfl fun K hK=>?_;go_simp);go_at_call 61;(with_reducible refine(HO.out _).mono ?_);rintro e2 w2 ⟨rfl,b2⟩;have S2:=af hS0 b2;(refine zu hK S2 ?_;clear hK K;try simp only[zp]);(refine zh S2 0 2 8 ?_;simp only[zd];((iterate 2 (refine zU ?_;simp only[zp]));refine ac ?_));(refine ze ?_);go_wp2_with fail;go_ret;exact⟨rfl,ah b2 b0⟩
end
section
variable{own own':Nat→Nat}{t:Nat}{w w':World}{B q:Nat}{cs cs':Array Value}{ty:TypeId}{p p':Option Addr}{L L':List (ByteArray×Int)}{R R':List Sp}{x:Sp}
theorem Ho(x:Sp)(h:dZ own t w B q cs ty R)(ht:t≠0)(hx:x.In)(hl:R.length≤100000):
  Calls prog 161 #[.pointer (some ⟨B,q,none⟩),.agg (SA x),.int .i64 1] w fun e w'=>e=.returned (.bool true)∧bR own t w w' B q cs ty (x::R):=by
 obtain⟨p,L,h⟩:=h;have b0:=zB w (.cells (SA x) 93);have n0:=Up w (.cells (SA x) 93);have H0:=h.below b0;have hBw:=am h.box;have hso:own w.heap.size=0:=h.ow _ (Po _);have HKY:=zH (fun w1=>CE x hx w1);have hlen:=h.tl.len;have hle:=vZ R;by_cases hpa:x.pa=0
 ·have hcnt:0≤(ag oS L (me x)).getD 0∧(ag oS L (me x)).getD 0≤100000:=by
   rw[h.tl.get,rD];have:=UO (a:=me x) (l:=sk R);omega
  have htl:=h.tl.add (me x);have henL:sk (x::R)=me x::sk R:=by rw[oI,Pj hpa]
  have HG:=zH (fun w1 (b:Below w.heap.size w w1)=>Cq (own:=own) (t:=t) B q p L (me x) w1 ((aa (h.below b).box q).trans h.c0) (h.below b).tr _ rfl);have HP:=zH (fun w1 (b:Below w.heap.size w w1) n=>xM (own:=own) (t:=t) B q cs ty p L (me x) n w1 (h.below b).ow (h.below b).box h.c0 h.c1 h.oB (h.below b).tr (by omega));have HF:=zH (fun w1 (b:Below w.heap.size w w1) w2 own2 p2 (m:bI AvI.nd oS own t w1 w2 B q cs ty (ay oS L (me x) ((ag oS L (me x)).getD 0+1)) own2 p2)=>bR.join (aT.refl _ _ _) (aO.refl _ _) (Km.of_below (wy own t B) b) (pz (R:=x::R) m h.c0 h.c1 (Ut hBw b.size) h.oB (by rw[henL];exact htl)));have y0:=aa n0 0;have y1:=aa n0 1;have y2:=aa n0 2;have y3:=aa n0 3;have y4:=aa n0 4;have y5:=aa n0 5;have y6:=aa n0 6;have y7:=aa n0 7;have y8:=aa n0 8;rw[show #[Value.int .i64 x.tr,.int .i64 x.id,.int .i64 x.pa,.int .i64 x.rv,.string x.sv,.string x.op,.int .i64 x.st,.int .i64 x.du,.bool x.gn][2]?=some (.int .i64 0)by rw[←hpa];rfl]at y2;clear hpa;generalize hmany:(ag oS L (me x)).getD 0=many at hcnt HF HP htl;have gw:=Qp (many+1) (by omega);have g1:decide (many+1<0)=false:=UM (by omega);have g2:(many+1==0)=false:=by rw[Qz];omega
  have HN0:=zH n0;clear h H0 htl henL hx hlen hle hl n0;go_enter func161,ntmps161;go_wp2_with fail;refine zr (fun V=>V.heap[w.heap.size]?=some (.cells (SA x) 93 (0,0))) HN0.out fun hS0=>?_;have c0:=b0.drew;clear y0 y1 y2 y3 y4 y5 y6 y7 y8;(refine zh hS0 7 4 0 ?_;simp only[zd];((iterate 4 (refine zt (fun W hW=>by have y0:=aa hW 0;have y1:=aa hW 1;have y2:=aa hW 2;have y3:=aa hW 3;have y4:=aa hW 4;have y5:=aa hW 5;have y6:=aa hW 6;have y7:=aa hW 7;have y8:=aa hW 8;exact zq) ?_;simp only[zp]));refine ac ?_));(refine zo 4 rfl fun K hK=>?_;go_simp);go_at_call 240;(with_reducible refine(HKY.out _).mono ?_);rintro e1 w1 ⟨rfl,b1⟩;have c1:=ah b1 c0;have S1:=af hS0 b1;(refine zu hK S1 ?_;clear hK K;try simp only[zp]);(refine zo 5 rfl fun K hK=>?_;go_simp);go_at_call 239;(with_reducible refine(HG.out _ c1).mono ?_);rintro e2 w2 ⟨rfl,rfl⟩;rw[BS,hmany];(refine zu hK S1 ?_;clear hK K;try simp only[zp]);(refine zh S1 0 5 6 ?_;simp only[zd];((iterate 5 (refine zU ?_;simp only[zp]));refine ac ?_));(refine ze ?_);go_wp2_with fail;refine zr (fun V=>V.heap[w.heap.size]?=some (.cells (SA x) 93 (0,0))) S1 fun hS3=>?_;have c3:=c1.drew;clear hS0;(refine zh hS3 3 4 0 ?_;simp only[zd];((iterate 4 (refine zt (fun W hW=>by have y0:=aa hW 0;have y1:=aa hW 1;have y2:=aa hW 2;have y3:=aa hW 3;have y4:=aa hW 4;have y5:=aa hW 5;have y6:=aa hW 6;have y7:=aa hW 7;have y8:=aa hW 8;exact zq) ?_;simp only[zp]));refine ac ?_));(refine zh hS3 2 1 5 ?_;simp only[zd];((iterate 1 (refine zU ?_;simp only[zp]));refine ac ?_));(refine zo 4 rfl fun K hK=>?_;go_simp);go_at_call 240;(with_reducible refine(HKY.out _).mono ?_);rintro e4 w4 ⟨rfl,b4⟩;have c4:=ah b4 c3;have S4:=af hS3 b4;(refine zu hK S4 ?_;clear hK K;try simp only[zp]);(refine zo 6 rfl fun K hK=>?_;go_simp);go_at_call 168;(with_reducible refine(HP.out _ c4 _).mono ?_);rintro e5 w5 ⟨own5,p5,rfl,m5⟩;have S5:w5.heap[w.heap.size]?=some (.cells (SA x) 93 (0,0)):=m5.kp.at S4 (fun hf=>hf.elim (fun e=>by omega) (fun e=>ht (by rw[←e];exact hso)));(refine zu hK S5 ?_;clear hK K;try simp only[zp]);(refine ze ?_);go_wp2_with fail;go_ret;exact⟨rfl,HF.out _ c4 _ _ _ m5⟩
 ·have henL:sk (x::R)=sk R:=by rw[oI,Pm hpa]
  have hne:(x.pa==0)=false:=by rw[Qz];exact hpa
  have y0:=aa n0 0;have y1:=aa n0 1;have y2:=aa n0 2;have y3:=aa n0 3;have y4:=aa n0 4;have y5:=aa n0 5;have y6:=aa n0 6;have y7:=aa n0 7;have y8:=aa n0 8;have HO:=zH (show dZ own t w B q cs ty (x::R)from⟨p,L,h.box,h.c0,h.c1,h.tr,h.ow,h.oB,by rw[henL];exact h.tl⟩);exact ON
theorem Hp(x:Sp)(h:dZ own t w B q cs ty (x::R))(ht:t≠0)(hx:x.In)(hl:R.length≤100000):
  Calls prog 161 #[.pointer (some ⟨B,q,none⟩),.agg (SA x),.int .i64 (-1)] w fun e w'=>e=.returned (.bool true)∧bR own t w w' B q cs ty R:=by
 obtain⟨p,L,h⟩:=h;have b0:=zB w (.cells (SA x) 93);have n0:=Up w (.cells (SA x) 93);have H0:=h.below b0;have hBw:=am h.box;have hso:own w.heap.size=0:=h.ow _ (Po _);have HKY:=zH (fun w1=>CE x hx w1);have hlen:=h.tl.len;have hle:=vZ (x::R);rw[PC]at hle;by_cases hpa:x.pa=0
 ·have henL:sk (x::R)=me x::sk R:=by rw[oI,Pj hpa]
  have hcnt:1≤(ag oS L (me x)).getD 0∧(ag oS L (me x)).getD 0≤100001:=by
   rw[h.tl.get,rD];have h1:=UO (a:=me x) (l:=sk (x::R));have h2:1≤(sk (x::R)).count (me x):=by rw[henL,Vv];omega
   omega
  have htl0:=h.tl;rw[henL]at htl0;have htl:=htl0.take;have HG:=zH (fun w1 (b:Below w.heap.size w w1)=>Cq (own:=own) (t:=t) B q p L (me x) w1 ((aa (h.below b).box q).trans h.c0) (h.below b).tr _ rfl);have HP:=zH (fun w1 (b:Below w.heap.size w w1) n=>xM (own:=own) (t:=t) B q cs ty p L (me x) n w1 (h.below b).ow (h.below b).box h.c0 h.c1 h.oB (h.below b).tr (by omega));have HF:=zH (fun w1 (b:Below w.heap.size w w1) w2 own2 p2 (m:bI AvI.nd oS own t w1 w2 B q cs ty (ay oS L (me x) ((ag oS L (me x)).getD 0+ -1)) own2 p2) (hn:¬(ag oS L (me x)).getD 0 - 1=0)=>bR.join (aT.refl _ _ _) (aO.refl _ _) (Km.of_below (wy own t B) b) (pz (R:=R) m h.c0 h.c1 (Ut hBw b.size) h.oB (by rw[Pm hn]at htl;exact htl)));have HD:=zH (fun w1 (b:Below w.heap.size w w1)=>AC (own:=own) (t:=t) B q cs ty p L (me x) w1 (h.below b).ow (h.below b).box h.c0 h.c1 h.oB (h.below b).tr (by omega));have HFD:=zH (fun w1 (b:Below w.heap.size w w1) w2 p2 (m:bI AvI.nd oS own t w1 w2 B q cs ty (aK oS L (me x)) own p2) (hn:(ag oS L (me x)).getD 0 - 1=0)=>bR.join (aT.refl _ _ _) (aO.refl _ _) (Km.of_below (wy own t B) b) (pz (R:=R) m h.c0 h.c1 (Ut hBw b.size) h.oB (by rw[Pj hn]at htl;exact htl)));have y0:=aa n0 0;have y1:=aa n0 1;have y2:=aa n0 2;have y3:=aa n0 3;have y4:=aa n0 4;have y5:=aa n0 5;have y6:=aa n0 6;have y7:=aa n0 7;have y8:=aa n0 8;rw[show #[Value.int .i64 x.tr,.int .i64 x.id,.int .i64 x.pa,.int .i64 x.rv,.string x.sv,.string x.op,.int .i64 x.st,.int .i64 x.du,.bool x.gn][2]?=some (.int .i64 0)by rw[←hpa];rfl]at y2;clear hpa;generalize hmany:(ag oS L (me x)).getD 0=many at hcnt HF HFD HP htl;have gw:=Qp (many+ -1) (by omega);have g1:decide (many+ -1<0)=false:=UM (by omega);have HN0:=zH n0;clear h H0 htl htl0 henL hx hlen hle hl n0;go_enter func161,ntmps161;go_wp2_with fail;refine zr (fun V=>V.heap[w.heap.size]?=some (.cells (SA x) 93 (0,0))) HN0.out fun hS0=>?_;have c0:=b0.drew;clear y0 y1 y2 y3 y4 y5 y6 y7 y8;(refine zh hS0 7 4 0 ?_;simp only[zd];((iterate 4 (refine zt (fun W hW=>by have y0:=aa hW 0;have y1:=aa hW 1;have y2:=aa hW 2;have y3:=aa hW 3;have y4:=aa hW 4;have y5:=aa hW 5;have y6:=aa hW 6;have y7:=aa hW 7;have y8:=aa hW 8;exact zq) ?_;simp only[zp]));refine ac ?_));(refine zo 4 rfl fun K hK=>?_;go_simp);go_at_call 240;(with_reducible refine(HKY.out _).mono ?_);rintro e1 w1 ⟨rfl,b1⟩;have c1:=ah b1 c0;have S1:=af hS0 b1;(refine zu hK S1 ?_;clear hK K;try simp only[zp]);(refine zo 5 rfl fun K hK=>?_;go_simp);go_at_call 239;(with_reducible refine(HG.out _ c1).mono ?_);rintro e2 w2 ⟨rfl,rfl⟩;rw[BS,hmany];(refine zu hK S1 ?_;clear hK K;try simp only[zp]);(refine zh S1 0 5 6 ?_;simp only[zd];((iterate 5 (refine zU ?_;simp only[zp]));refine ac ?_));(refine ze ?_);by_cases hz:many+ -1=0
  ·have g2:(many+ -1==0)=true:=by rw[RV];exact hz
   have HZ:=zH hz;clear hz;go_wp2_with fail;refine zr (fun V=>V.heap[w.heap.size]?=some (.cells (SA x) 93 (0,0))) S1 fun hS3=>?_;have c3:=c1.drew;clear hS0;(refine zh hS3 2 4 0 ?_;simp only[zd];((iterate 4 (refine zt (fun W hW=>by have y0:=aa hW 0;have y1:=aa hW 1;have y2:=aa hW 2;have y3:=aa hW 3;have y4:=aa hW 4;have y5:=aa hW 5;have y6:=aa hW 6;have y7:=aa hW 7;have y8:=aa hW 8;exact zq) ?_;simp only[zp]));refine ac ?_));(refine zo 4 rfl fun K hK=>?_;go_simp);go_at_call 240;(with_reducible refine(HKY.out _).mono ?_);rintro e4 w4 ⟨rfl,b4⟩;have c4:=ah b4 c3;have S4:=af hS3 b4;(refine zu hK S4 ?_;clear hK K;try simp only[zp]);(refine zo 5 rfl fun K hK=>?_;go_simp);go_at_call 232;(with_reducible refine(HD.out _ c4).mono ?_);rintro e5 w5 ⟨p5,rfl,m5⟩;have S5:w5.heap[w.heap.size]?=some (.cells (SA x) 93 (0,0)):=m5.kp.at S4 (fun hf=>hf.elim (fun e=>by omega) (fun e=>ht (by rw[←e];exact hso)));(refine zu hK S5 ?_;clear hK K;try simp only[zp]);(refine ze ?_);go_wp2_with fail;go_ret;exact⟨rfl,HFD.out _ c4 _ _ m5 (by have:=HZ.out;omega)⟩
  ·have g2:(many+ -1==0)=false:=by rw[Qz];exact hz
   have HZ:=zH hz;clear hz;go_wp2_with fail;refine zr (fun V=>V.heap[w.heap.size]?=some (.cells (SA x) 93 (0,0))) S1 fun hS3=>?_;have c3:=c1.drew;clear hS0;(refine zh hS3 3 4 0 ?_;simp only[zd];((iterate 4 (refine zt (fun W hW=>by have y0:=aa hW 0;have y1:=aa hW 1;have y2:=aa hW 2;have y3:=aa hW 3;have y4:=aa hW 4;have y5:=aa hW 5;have y6:=aa hW 6;have y7:=aa hW 7;have y8:=aa hW 8;exact zq) ?_;simp only[zp]));refine ac ?_));(refine zh hS3 2 1 5 ?_;simp only[zd];((iterate 1 (refine zU ?_;simp only[zp]));refine ac ?_));(refine zo 4 rfl fun K hK=>?_;go_simp);go_at_call 240;(with_reducible refine(HKY.out _).mono ?_);rintro e4 w4 ⟨rfl,b4⟩;have c4:=ah b4 c3;have S4:=af hS3 b4;(refine zu hK S4 ?_;clear hK K;try simp only[zp]);(refine zo 6 rfl fun K hK=>?_;go_simp);go_at_call 168;(with_reducible refine(HP.out _ c4 _).mono ?_);rintro e5 w5 ⟨own5,p5,rfl,m5⟩;have S5:w5.heap[w.heap.size]?=some (.cells (SA x) 93 (0,0)):=m5.kp.at S4 (fun hf=>hf.elim (fun e=>by omega) (fun e=>ht (by rw[←e];exact hso)));(refine zu hK S5 ?_;clear hK K;try simp only[zp]);(refine ze ?_);go_wp2_with fail;go_ret;exact⟨rfl,HF.out _ c4 _ _ _ m5 (by have:=HZ.out;omega)⟩
 ·have henL:sk (x::R)=sk R:=by rw[oI,Pm hpa]
  have hne:(x.pa==0)=false:=by rw[Qz];exact hpa
  have y0:=aa n0 0;have y1:=aa n0 1;have y2:=aa n0 2;have y3:=aa n0 3;have y4:=aa n0 4;have y5:=aa n0 5;have y6:=aa n0 6;have y7:=aa n0 7;have y8:=aa n0 8;have HO:=zH (show dZ own t w B q cs ty R from⟨p,L,h.box,h.c0,h.c1,h.tr,h.ow,h.oB,by rw[←henL];exact h.tl⟩);exact ON
end
end
section
open BigP
section
variable{own own' own1 own2 own3:Nat→Nat}{b:Nat}{w w' w1 w2 w3 w4:World}{B q M:Nat}{cs cs' cs1 cs2:Array Value}{ty:TypeId}{p0 p1 p2 r0 r1 r2:Option Addr}{S S':List (ByteArray×ByteArray)}{A A':List (ByteArray×Int)}{C C':List (ByteArray×Unit)}{E:Pr→Int}{x:Sp}{V V':List (ByteArray×Sp)}{out inn:List Sp}
def dg(V:List (ByteArray×Sp))(l:List Sp):List (ByteArray×Sp):=l.foldl (fun V x=>aK oS V (aj x)) V
def eL(V:List (ByteArray×Sp))(l:List Sp):List (ByteArray×Sp):=l.foldl (fun V x=>ay oS V (aj x) x) V
theorem uK(l:List Sp):dg V (l++[x])=aK oS (dg V l) (aj x):=by simp[dg]
theorem uh(l:List Sp):eL V (l++[x])=ay oS (eL V l) (aj x) x:=by simp[eL]
theorem su(hV:aJ V)(l:List Sp):aJ (dg V l)∧∀k,(∀x∈l,aj x≠k)→ag oS (dg V l) k=ag oS V k:=by
 induction l generalizing V with
 |nil=>exact⟨hV,fun _ _=>rfl⟩
 |cons y l ih=>
  obtain⟨h1,h2⟩:=ih (hV.delR (aj y));refine⟨h1,fun k hk=>?_⟩;show ag oS (dg (aK oS V (aj y)) l) k=_;rw[h2 k fun x hx=>hk x (Qf _ hx),cY hV.srt,Pm (Qj (hk y (UI ..)))]
theorem uL (hV : aJ V) (l : List Sp) {k : ByteArray} (h : ag oS V k = none ∨ ∃ y ∈ l, aj y = k) : ag oS (dg V l) k = none := by
  induction l generalizing V with
  | nil => rcases h with h | ⟨y, hy, _⟩
           · exact h
           · cases hy
  | cons y l ih =>
    refine ih (hV.delR (aj y)) ?_
    by_cases e : aj y = k
    · exact .inl (by rw [cY hV.srt, Pj e.symm])
    · rcases h with h | ⟨z, hz, hk⟩
      · exact .inl (by rw [cY hV.srt, Pm (Qj e)]; exact h)
      · rcases Pz.1 hz with rfl | hz
        · exact (e hk).elim
        · exact .inr ⟨z, hz, hk⟩
theorem rV(hV:aJ V)(l:List Sp)(hl:∀x∈l,x.Vd):aJ (eL V l)∧∀k,(∀x∈l,aj x≠k)→ag oS (eL V l) k=ag oS V k:=by
 induction l generalizing V with
 |nil=>exact⟨hV,fun _ _=>rfl⟩
 |cons y l ih=>
  obtain⟨h1,h2⟩:=ih (hV.ins (hl y (UI ..))) fun x hx=>hl x (Qf _ hx);refine⟨h1,fun k hk=>?_⟩;show ag oS (eL (ay oS V (aj y) y) l) k=_;rw[h2 k fun x hx=>hk x (Qf _ hx),dI hV.srt,Pm (Qj (hk y (UI ..)))]
theorem GM(hV:aJ V){l:List Sp}(hl:∀x∈l,x.Vd)(hn:l.Pairwise fun x y=>aj x≠aj y)(hx:x∈l):ag oS (eL V l) (aj x)=some x:=by
 induction l generalizing V with
 |nil=>cases hx
 |cons y l ih=>
  have hy:=hV.ins (hl y (UI ..));have hl':∀x∈l,x.Vd:=fun x hx=>hl x (Qf _ hx);obtain⟨n1,n2⟩:=QL.1 hn;show ag oS (eL (ay oS V (aj y) y) l) _=_;rcases Pz.1 hx with rfl |hx
  ·rw[(rV hy l hl').2 _ fun z hz=>(n1 z hz).symm,dI hV.srt,Pj rfl]
  ·exact ih hy hl' n2 hx
theorem oE(l:List Sp):(eL V l).length≤V.length+l.length:=by
 induction l generalizing V with
 |nil=>simp[eL]
 |cons y l ih=>
  have h1:=ih (V:=ay oS V (aj y) y);have h2:=cL oS V (aj y) y;have e:eL V (y::l)=eL (ay oS V (aj y) y) l:=rfl;rw[e,PC];omega
theorem jY(l:List Sp):(dg V l).length≤V.length:=by
 induction l generalizing V with
 |nil=>exact Po _
 |cons y l ih=>exact Pt ih (fC oS V _)
theorem kO.fin(h:kO V V' out inn):eL (dg V out) inn=V':=by
 obtain⟨d1,d2⟩:=su h.v out;obtain⟨i1,i2⟩:=rV d1 inn h.i.vd;refine ky oS i1.srt h.v'.srt fun k=>?_;by_cases h1:∃x∈inn,aj x=k
 ·obtain⟨x,hx,rfl⟩:=h1;rw[GM d1 h.i.vd h.i.ne hx,h.gi x hx]
 ·have h1':∀x∈inn,aj x≠k:=fun x hx e=>h1 ⟨x,hx,e⟩;rw[i2 k h1'];by_cases h2:∃x∈out,aj x=k
  ·obtain⟨x,hx,rfl⟩:=h2;rw[uL h.v out (.inr ⟨x,hx,rfl⟩),h.go x hx h1']
  ·have h2':∀x∈out,aj x≠k:=fun x hx e=>h2 ⟨x,hx,e⟩;rw[d2 k h2',h.gr k fun x hx=>(Px.1 hx).elim (h2' x) (h1' x)]
theorem LQ(h:cE own b w B q cs ty M p0 p1 p2 S A C (fun t=>(((mf V).count t:Nat):Int)))(hS:∀k,ag oS S k=nt V k)(hs:aX oS S)(hK:kt A C)(hA:∀k,ag oS A k=(ag oS V k).map (·.pa))(hV:aJ V)(hx:ag oS V (aj x)=some x)
  (m:fF w1 M (iP (fun t=>(((mf V).count t:Nat):Int)) (-1) (IL V C x)))(k1:Km (fun c=>c=M) w w1):
  cE own b w1 B q cs ty M p0 p1 p2 S A C (fun t=>(((mf (aK oS V (aj x))).count t:Nat):Int))∧∀{w2 w3 w4 own2 cs2 r0 r1 r2},
   bJ own (b+1) (b+2) w1 w2 B (q+2) cs ty (cp A C x.tr x.id).1 (cp A C x.tr x.id).2 own2 cs2 r1 r2→Below w2.heap.size w2 w3→
   bI AvT.nd oS own2 b w3 w4 B q cs2 ty (aK oS S (aj x)) own2 r0→dw own b w w4 B q cs ty M (aK oS V (aj x)):=by
 have h1:=h.turn k1 m;rw[Kg hV hK hA hx]at h1;have hv:=(hV.get hx).2.ok;refine⟨h1,fun {w2 w3 w4 own2 cs2 r0 r1 r2} k2 b3 m4=>?_⟩;obtain⟨h2,n2,e2,k2⟩:=h1.kids k2;obtain⟨h4,n4,e4,k4⟩:=(h2.below b3).svc m4;obtain⟨kk1,kk2⟩:=hK.drop hv.1 hv.2.1;have e2':aO own own2 w:=fun c hc=>e2 c (Ut hc k1.size);have km1:Km (mh own b B) w w1:=k1.mono fun c hc hf=>by
  have:=h.oM;subst hf;exact .inr ⟨by omega,by omega⟩
 have km2:=km1.trans' k2 fun c hc hf=>hf;refine⟨⟨_,_,⟨_,_,_,_,_,_,h4,fun k=>?_,kk1,fun k=>?_⟩,n2.trans n4,e2'⟩,?_⟩
 ·rw[cY hs,Jg hV,hS]
 ·rw[kk2,cY hV.srt,hA];show(if k=aj x then _ else _)=_;split<;>rfl
 ·exact(km2.trans' (Km.of_below (fun _=>False) b3) fun c hc hf=>hf.elim).trans' k4 fun c hc hf=>hf.ext e2' hc
theorem KS(h:cE own b w B q cs ty M p0 p1 p2 S A C (fun t=>(((mf V).count t:Nat):Int)))(hS:∀k,ag oS S k=nt V k)(hs:aX oS S)(hK:kt A C)(hA:∀k,ag oS A k=(ag oS V k).map (·.pa))(hV:aJ V)(hx:x.Vd)(hn:ag oS V (aj x)=none)
  (k1:bJ own (b+1) (b+2) w w1 B (q+2) cs ty (gp A C x).1 (gp A C x).2 own1 cs1 r1 r2)(b2:Below w1.heap.size w1 w2)(m3:bI AvT.nd oS own1 b w2 w3 B q cs1 ty (ay oS S (aj x) x.sv) own3 r0):
  ∃cs3,cE own3 b w3 B q cs3 ty M r0 r1 r2 (ay oS S (aj x) x.sv) (gp A C x).1 (gp A C x).2 (fun t=>(((mf V).count t:Nat):Int))∧(∀k,ag oS (ay oS S (aj x) x.sv) k=nt (ay oS V (aj x) x) k)∧kt (gp A C x).1 (gp A C x).2∧(∀k,ag oS (gp A C x).1 k=(ag oS (ay oS V (aj x) x) k).map (·.pa))∧
   ∀{w4},fF w4 M (iP (fun t=>(((mf V).count t:Nat):Int)) 1 (IL (ay oS V (aj x) x) (gp A C x).2 x))→Km (fun c=>c=M) w3 w4→dw own b w w4 B q cs ty M (ay oS V (aj x) x):=by
 obtain⟨h1,n1,e1,k1⟩:=h.kids k1;obtain⟨h3,n3,e3,k3⟩:=(h1.below b2).svc m3;obtain⟨kk1,kk2⟩:=hK.put x hx.ok;have hS':∀k,ag oS (ay oS S (aj x) x.sv) k=nt (ay oS V (aj x) x) k:=fun k=>by
  rw[Jf hV,←hS];by_cases e:k=aj x
  ·rw[Pj e,e,(bm oS hs (aj x) x.sv).1]
  ·rw[Pm e,(bm oS hs (aj x) x.sv).2 k e]
 have hA':∀k,ag oS (gp A C x).1 k=(ag oS (ay oS V (aj x) x) k).map (·.pa):=fun k=>by
  rw[kk2,dI hV.srt,hA];split<;>rfl
 have e3':aO own own3 w:=e1.trans (fun c hc=>e3 c (Ut hc b2.size)) k1.size;have km2:=(k1.trans' (Km.of_below (fun _=>False) b2) fun c hc hf=>hf.elim).trans' k3 fun c hc hf=>hf.ext e1 hc;refine⟨_,h3,hS',kk1,hA',fun {w4} m4 k4=>?_⟩;have h4:=h3.turn k4 m4;rw[Kf hV hx hn kk1 hA']at h4;refine⟨⟨_,_,⟨_,_,_,_,_,_,h4,hS',kk1,hA'⟩,n1.trans n3,e3'⟩,km2.trans' k4 fun c hc hf=>?_⟩;have hM:=h.oM;have hl:=h.mp.lt;subst hf;exact .inr ⟨by omega,by omega⟩
end
end
section
open Go.Shelf BigP
section
variable{own own' own1 own2 own3:Nat→Nat}{b:Nat}{w w' w1 w2 w3 w4:World}{B q M:Nat}{cs cs' cs1 cs2:Array Value}{ty:TypeId}{x:Sp}{V V':List (ByteArray×Sp)}{out inn:List Sp}{E:Pr→Int}
theorem gM.b0(h:gM own b w B q cs ty M V):0<b:=by
 obtain⟨_,_,_,_,_,_,h1,_⟩:=h;exact h1.b0
theorem gM.box(h:gM own b w B q cs ty M V):w.heap[B]?=some (.cells cs ty (0,0)):=by
 obtain⟨_,_,_,_,_,_,h1,_⟩:=h;exact h1.box
theorem gM.c6(h:gM own b w B q cs ty M V):cs[q+6]?=some (.map (some M)):=by
 obtain⟨_,_,_,_,_,_,h1,_⟩:=h;exact h1.c6
structure kR(own:Nat→Nat)(b:Nat)(w:World)(B q:Nat)(cs:Array Value)(ty:TypeId)(M:Nat)(V:List (ByteArray×Sp))(p0 p1 p2:Option Addr)(S:List (ByteArray×ByteArray))(A:List (ByteArray×Int))(C:List (ByteArray×Unit)):Prop where
 at':cE own b w B q cs ty M p0 p1 p2 S A C (fun t=>(((mf V).count t:Nat):Int))
 s:∀k,ag oS S k=nt V k
 ss:aX oS S
 k:kt A C
 a:∀k,ag oS A k=(ag oS V k).map (·.pa)
 v:aJ V
 l:V.length≤40001
theorem kR.of(h:gM own b w B q cs ty M V)(hV:aJ V)(hl:V.length≤40001):∃p0 p1 p2 S A C,kR own b w B q cs ty M V p0 p1 p2 S A C:=by
 obtain⟨p0,p1,p2,S,A,C,h1,h2,h3,h4⟩:=h;obtain⟨T,_,hT,_,_,hs⟩:=h1.tS;exact⟨p0,p1,p2,S,A,C,h1,h2,hs,h3,h4,hV,hl⟩
variable{p0 p1 p2 r0 r1 r2:Option Addr}{S S':List (ByteArray×ByteArray)}{A A':List (ByteArray×Int)}{C C':List (ByteArray×Unit)}
theorem kR.below(h:kR own b w B q cs ty M V p0 p1 p2 S A C)(hb:Below w.heap.size w w'):kR own b w' B q cs ty M V p0 p1 p2 S A C:=⟨h.at'.below hb,h.s,h.ss,h.k,h.a,h.v,h.l⟩
theorem kR.len(h:kR own b w B q cs ty M V p0 p1 p2 S A C):S.length≤700000∧A.length≤700000∧C.length≤700000:=by
 have h1:=Je h.v h.ss h.s;have h2:=vD h.v h.k.sa h.a;have h3:=h.k.clen;have h4:=h.l;omega
theorem kR.sm(h:kR own b w B q cs ty M V p0 p1 p2 S A C)(t:Pr):0≤(((mf V).count t:Nat):Int)∧(((mf V).count t:Nat):Int)≤50000:=by
 have h1:=EQ V t;have h4:=h.l;omega
theorem kR.around(h:kR own b w B q cs ty M V p0 p1 p2 S A C)(hx:x.Vd):
  Calls prog 153 #[.pointer (some ⟨B,q,none⟩),.agg (SA x),.func (.func 154) #[.pointer (some ⟨B,q,none⟩)] #[]] w fun e w'=>(∃v,e=.returned v)∧fF w' M (iP (fun t=>(((mf V).count t:Nat):Int)) (-1) (IL V C x))∧Km (fun c=>c=M) w w':=
 pC _ (fun _ _=>by kernel_rfl) _ _ h.at' h.s (lR h.v) hx h.k h.k.sz h.len.2.2 (Ia _ h.sm)
theorem kR.kDrop(h:kR own b w B q cs ty M V p0 p1 p2 S A C)(hat:cE own b w1 B q cs ty M p0 p1 p2 S A C E)(hx:x.Ok):
  Calls prog 155 #[.pointer (some ⟨B,q+2,none⟩),.int .i64 x.tr,.int .i64 x.id] w1 fun e w'=>∃own' cs' r1 r2,e=.returned (.bool (ag oS A (kk x.tr x.id)).isSome)∧bJ own (b+1) (b+2) w1 w' B (q+2) cs ty (cp A C x.tr x.id).1 (cp A C x.tr x.id).2 own' cs' r1 r2:=
 px B (q+2) cs ty p1 p2 A C x.tr x.id hx.1 hx.2.1 w1 hat.kidsIn h.k.vI h.len.2.1 h.len.2.2
theorem kR.sDrop(h:kR own b w B q cs ty M V p0 p1 p2 S A C)(hat:cE own b w1 B q cs ty M p0 p1 p2 S A C E)(hk:bJ own (b+1) (b+2) w1 w2 B (q+2) cs ty A' C' own2 cs2 r1 r2)(hb:Below w2.heap.size w2 w3):
  Calls prog 156 #[.pointer (some ⟨B,q,none⟩),.string (aj x)] w3 fun e w'=>∃p',e=.returned (.bool (ag oS S (aj x)).isSome)∧bI AvT.nd oS own2 b w3 w' B q cs2 ty (aK oS S (aj x)) own2 p':=by
 have h2:=((hat.kids hk).1).below hb;exact Ls B q cs2 ty p0 S (aj x) w3 h2.ow h2.box h2.c0 h2.c1 (by have:=h2.nB;omega) h2.tS h.len.1
theorem kR.kPut(h:kR own b w B q cs ty M V p0 p1 p2 S A C)(hx:x.Ok):
  Calls prog 157 #[.pointer (some ⟨B,q+2,none⟩),.agg (SA x)] w fun e w'=>∃own' cs' r1 r2,(∃v,e=.returned v)∧bJ own (b+1) (b+2) w w' B (q+2) cs ty (gp A C x).1 (gp A C x).2 own' cs' r1 r2:=
 xY B (q+2) cs ty p1 p2 A C x hx w h.at'.kidsIn h.k.vI h.len.2.1 h.len.2.2 (by omega) (by omega)
theorem kR.sPut(h:kR own b w B q cs ty M V p0 p1 p2 S A C)(hk:bJ own (b+1) (b+2) w w2 B (q+2) cs ty A' C' own2 cs2 r1 r2)(hb:Below w2.heap.size w2 w3)(v:ByteArray):
  Calls prog 158 #[.pointer (some ⟨B,q,none⟩),.string (aj x),.string v] w3 fun e w'=>∃own' p',e=.returned (.bool (ag oS S (aj x)).isNone)∧bI AvT.nd oS own2 b w3 w' B q cs2 ty (ay oS S (aj x) v) own' p':=by
 have h2:=((h.at'.kids hk).1).below hb;exact Mr B q cs2 ty p0 S (aj x) v w3 h2.ow h2.box h2.c0 h2.c1 (by have:=h2.nB;omega) h2.tS h.len.1
theorem qR{α:Type}{l:List α}{k:Nat}{x:α}(hk:l[k]?=some x):l.take (k+1)=l.take k++[x]:=by
 rw[PO,hk];rfl
theorem BW{l:List Sp}(hn:l.Pairwise fun x y=>aj x≠aj y){k:Nat}(hk:l[k]?=some x):∀y∈l.take k,aj y≠aj x:=fun y hy=>by
 have h1:l=l.take k++l.drop k:=(VD k l).symm;have h2:x∈l.drop k:=by
  refine Pv (i:=0) ?_;rw[RS];exact hk
 rw[h1]at hn;exact(Sc.1 hn).2.2 y hy x h2
theorem kO.outs(T:kO V V' out inn){k:Nat}(hk:out[k]?=some x):aJ (dg V (out.take k))∧(dg V (out.take k)).length≤V.length∧ag oS (dg V (out.take k)) (aj x)=some x∧x.Vd∧dg V (out.take (k+1))=aK oS (dg V (out.take k)) (aj x):=by
 have hx:=Pv hk;obtain⟨h1,h2⟩:=su T.v (out.take k);exact⟨h1,jY _,(h2 _ (BW T.o.ne hk)).trans (T.there x hx),T.o.vd x hx,by rw[qR hk,uK]⟩
theorem kO.ins(T:kO V V' out inn){k:Nat}(hk:inn[k]?=some x):aJ (eL (dg V out) (inn.take k))∧(eL (dg V out) (inn.take k)).length≤V.length+inn.length∧ag oS (eL (dg V out) (inn.take k)) (aj x)=none∧x.Vd∧eL (dg V out) (inn.take (k+1))=ay oS (eL (dg V out) (inn.take k)) (aj x) x:=by
 have hx:=Pv hk;obtain⟨h1,h2⟩:=su T.v out;obtain⟨h3,h4⟩:=rV h1 (inn.take k) fun y hy=>T.i.vd y (RG hy);have h5:=oE (V:=dg V out) (inn.take k);have h6:=jY (V:=V) out;rw[UD]at h5;exact⟨h3,by omega,(h4 _ (BW T.i.ne hk)).trans (uL T.v out (T.new x hx)),T.i.vd x hx,by rw[qR hk,uh]⟩
end
section
variable{own own' own1 own2 own3:Nat→Nat}{b:Nat}{w w' w1 w2 w3 w4:World}{B q M:Nat}{cs cs' cs1 cs2:Array Value}{ty:TypeId}{x:Sp}{V V':List (ByteArray×Sp)}{out inn:List Sp}
theorem xQ(M:Nat)(w:World):(binOp BinOp.eql 66 (.map (some M)) (.map none)).run prog w=.ok (.bool false) w:=V7 w _ _ _ (some M) Vh
theorem Gp(w:World):(binOp BinOp.eql 66 (.map none) (.map none)).run prog w=.ok (.bool true) w:=V7 w _ _ _ none Vh
theorem yD(h:gM own b w B q cs ty M V)(T:kO V V' out inn)(hl:V.length≤20000)(Ao Ai:Option Addr)(c1 c2:Nat)(hm:out.length≤20000)(hm':inn.length≤20000)(ho:pI own B w Ao out)(hi:pI own B w Ai inn):
  Calls prog 88 #[.pointer (some ⟨B,q,none⟩),.agg #[.slice Ao out.length c1,.slice Ai inn.length c2]] w fun e w'=>e=.returned (.int .i64 0)∧dw own b w w' B q cs ty M V':=by
 have hmf:∀(fn:Fn) (first cap:Array Value) (w:World),(Instr.makeFunc fn first cap).run prog w=.ok (.func fn first cap) w:=fun _ _ _ _=>rfl;have b0:=zB w (.cells #[.slice Ao out.length c1,.slice Ai inn.length c2] 103);have n0:=Up w (.cells #[.slice Ao out.length c1,.slice Ai inn.length c2] 103);have m0:=aa n0 0;have m1:=aa n0 1;have hBw:=am h.box;have hb:=h.b0;have hso:=h.ow w.heap.size (Po _);have H1:=zH (show ∀w1,Below w.heap.size w w1→Calls prog 152 #[.pointer (some ⟨B,q,none⟩),.agg #[.slice Ao out.length c1,.slice Ai inn.length c2]] w1 fun e w'=>e=.returned (.int .i64 0)∧Below w1.heap.size w1 w' from fun w1 b1=>by
  obtain⟨p0,p1,p2,S,A,C,hat,hS,hK,hA⟩:=h.below b1;exact yB B q p1 p0 S A Ao Ai c1 c2 out inn T.o T.i T.a (by omega) (by omega) T.od T.id (fun x hx=>by rw[hA,T.there x hx];rfl) (fun x hx=>(T.new x hx).imp (fun e=>by rw[hA,e];rfl) id) (fun x hx=>by rw[hS];unfold nt;rw[T.there x hx];rfl) w1 ((aa hat.box (q+2)).trans hat.c2) hat.tA ((aa hat.box q).trans hat.c0) hat.tS ((ho.rd.below b1).more b1.size) ((hi.rd.below b1).more b1.size))
 have HRO:=zH (fun wr (k:Km (mh own b B) w wr)=>ho.rd.km k (Po _) (fun ad e=>mh.none hb (ho.at' ad e).1 (ho.at' ad e).2.1));have HRI:=zH (fun wr (k:Km (mh own b B) w wr)=>hi.rd.km k (Po _) (fun ad e=>mh.none hb (hi.at' ad e).1 (hi.at' ad e).2.1));have HNF:=zH (mh.none (B:=B) hb hso (by omega:w.heap.size≠B));have HT:=zH T;have HB0:=zH b0;have HH:=zH h;clear h ho hi T b0 hso;go_enter func88,ntmps88;go_wp2_with (go_at_call 152;(with_reducible refine(H1.out _ HB0.out).mono ?_);rintro e w2 ⟨rfl,b2⟩;have B2:=ah b2 HB0.out;have n2:=af n0 b2;have j0:=aa n2;have HP2:=zH (HH.out.below B2);have hc6:=(aa HP2.out.box (q+6)).trans HP2.out.c6;have hnn:=xQ M w2;clear H1);have HN2:=zH n2;have HB2:=zH B2;clear n0 n2 m0 m1 b2 B2 HH;go_loopw [44] (fun i wr=>∃k:Nat,k≤out.length∧i=.int .i64 k∧dw own b w2 wr B q cs ty M (dg V (out.take k))) (fun i _=>out.length - (intOf i).toNat)
 case atStart=>exact⟨0,by omega,rfl,⟨_,_,HP2.out,aT.refl _ _ _,aO.refl _ _⟩,Km.refl _ _⟩
 case round=>
  obtain⟨k,hk,rfl,hP⟩:=hrel;by_cases hlt:k<out.length
  ·obtain⟨x,hk'⟩:=zg hlt;obtain⟨⟨own1,cs1,s1,m1,e1⟩,k1⟩:=hP;obtain⟨ad,rfl,hadl,c0,c1,c2,c3,c4,c5,c6,c7,c8⟩:=(HRO.out _ ((Km.of_below _ HB2.out).trans' k1 (fun b hb hf=>hf))) k x hk';have hi1:(k:Int)< (out.length:Int):=by omega
   obtain⟨t1,t2,t3,t4,t5⟩:=HT.out.outs hk';have bn:=zB wr (.cells (SA x) 93);have nn:=Up wr (.cells (SA x) 93);have hw0:=s1.ow _ (Po _);obtain⟨p0,p1,p2,S,A,C,R⟩:=kR.of (s1.below bn) t1 (by omega);have hMn:wr.heap.size≠M:=by
    exact OM
   have hnB:wr.heap.size≠B:=by have:=am s1.box;omega
   have hb1:=hb;have HJ:=zH (fun w5=>dw.join (w2:=w5) (ty:=ty) (M:=M) (V:=aK oS (dg V (out.take k)) (aj x)) m1 e1 (k1.trans (Km.of_below (mh own b B) bn)));have HA:=zH (R.around t4);have HO:=zH (fun w1 m k=>LQ (w1:=w1) R.at' R.s R.ss R.k R.a R.v t3 m k);have HR:=zH R;have HX:=zH t4.ok;have HN:=zH nn;have y0:=aa nn 0;have y1:=aa nn 1;have y2:=aa nn 2;have y3:=aa nn 3;have y4:=aa nn 4;have y5:=aa nn 5;have y6:=aa nn 6;have y7:=aa nn 7;have y8:=aa nn 8;clear s1 m1 e1 k1 hk' bn nn R t1 t2 t3 t4;go_wp2_with (go_at_call 153;(with_reducible refine(HA.out).mono ?_);rintro e2 w5 ⟨⟨v5,rfl⟩,P5,k5⟩);have n5:=k5.at HN.out hMn;obtain⟨a5,HF⟩:=HO.out _ (P5.below (Pk _ w5).drew) (k5.trans (Km.of_below _ (Pk _ w5).drew));have HD:=zH (HR.out.kDrop a5 HX.out);refine zr (fun W=>W.heap[wr.heap.size]?=some (.cells (SA x) 93 (0,0))) n5 fun hS0=>?_;clear y0 y1 y2 y3 y4 y5 y6 y7 y8;(refine zh hS0 1 7 0 ?_;simp only[zd];((iterate 7 (refine zt (fun W hW=>by have y0:=aa hW 0;have y1:=aa hW 1;exact zq) ?_;simp only[zp]));refine ac ?_));(refine zo 7 rfl fun K hK=>?_;go_simp);go_at_call 155;(with_reducible refine(HD.out).mono ?_);rintro e7 w7 ⟨own7,cs7,r1,r2,rfl,D7⟩;have n7:=D7.kp.toKm.at n5 (fun hf=>by rcases hf with e |e |e;exact hnB e;all_goals omega);have HS:=zH (fun w8 b8=>HR.out.sDrop (x:=x) (w3:=w8) a5 D7 b8);have HSP:=zH (aL x HX.out);go_wp2_with fail;(refine zu hK n7 ?_;clear hK K;try simp only[zp]);(refine ze ?_);go_wp2_with fail;refine zr (fun W=>W.heap[wr.heap.size]?=some (.cells (SA x) 93 (0,0))) n7 fun hS0=>?_;(refine zh hS0 2 4 0 ?_;simp only[zd];((iterate 4 (refine zt (fun W hW=>by have y0:=aa hW 0;have y1:=aa hW 1;have y2:=aa hW 2;have y3:=aa hW 3;have y4:=aa hW 4;have y5:=aa hW 5;have y6:=aa hW 6;have y7:=aa hW 7;have y8:=aa hW 8;exact zq) ?_;simp only[zp]));refine ac ?_));(refine zo 4 rfl fun K hK=>?_;go_simp);go_at_call 27;(with_reducible refine(HSP.out _).mono ?_);rintro e8 w8 ⟨rfl,b8⟩;have b8':Below w7.heap.size w7 w8:=((Pk _ w7).drew).trans b8;have n8:=af n7 b8';go_wp2_with fail;(refine zu hK n8 ?_;clear hK K;try simp only[zp]);(refine zo 5 rfl fun K hK=>?_;go_simp);go_at_call 156;(with_reducible refine(HS.out _ b8').mono ?_);rintro e9 w9 ⟨r9,rfl,D9⟩;have hP9:=HJ.out _ (HF D7 b8' D9);have hz:=am n5;have h07:own7 wr.heap.size=0:=(D7.ext _ hz).trans hw0;have n9:=D9.kp.toKm.at n8 (fun hf=>by rcases hf with e |e;exact hnB e;omega);go_wp2_with fail;(refine zu hK n9 ?_;clear hK K;try simp only[zp]);(refine ze ?_);go_wp2_with fail;exact⟨⟨k+1,by omega,by go_num,by rw[t5];exact hP9⟩,by simp[intOf];omega⟩
  ·obtain rfl:k=out.length:=by omega
   rw[PM]at hP;have n3:=hP.kp.at HN2.out (fun hf=>HNF.out hf);have i1:=aa n3 1;have HP3:=zH (dw.join (aT.refl _ _ _) (aO.refl _ _) (Km.of_below _ HB2.out) hP);clear hP n3;go_wp2_with fail;go_loopw [71] (fun i wr=>∃k:Nat,k≤inn.length∧i=.int .i64 k∧dw own b w wr B q cs ty M (eL (dg V out) (inn.take k))) (fun i _=>inn.length - (intOf i).toNat)
   case atStart=>exact⟨0,by omega,rfl,by simpa[eL]using HP3.out⟩
   case round=>
    obtain⟨k,hk,rfl,hP⟩:=hrel;by_cases hlt:k<inn.length
    ·obtain⟨x,hk'⟩:=zg hlt;obtain⟨⟨own1,cs1,s1,m1,e1⟩,k1⟩:=hP;obtain⟨ad,rfl,hadl,c0,c1,c2,c3,c4,c5,c6,c7,c8⟩:=(HRI.out _ k1) k x hk';have hi1:(k:Int)< (inn.length:Int):=by omega
     obtain⟨t1,t2,t3,t4,t5⟩:=HT.out.ins hk';have bn:=zB wr (.cells (SA x) 93);have nn:=Up wr (.cells (SA x) 93);have hw0:=s1.ow _ (Po _);obtain⟨p0,p1,p2,S,A,C,R⟩:=kR.of ((s1.below bn).below (Pk _ _).drew) t1 (by omega);have hMn:wr.heap.size≠M:=by
      exact OM
     have hnB:wr.heap.size≠B:=by have:=am s1.box;omega
     have HJ:=zH (fun w5=>dw.join (w2:=w5) (ty:=ty) (M:=M) (V:=ay oS (eL (dg V out) (inn.take k)) (aj x) x) m1 e1 (k1.trans (Km.of_below (mh own b B) (bn.trans (Pk _ _).drew))));have HD:=zH (R.kPut t4.ok);have HO:=zH (fun w1 w2 w3 own1 cs1 r1 r2 own3 r0 k1 b2 m3=>KS (w1:=w1) (w2:=w2) (w3:=w3) (own1:=own1) (cs1:=cs1) (r1:=r1) (r2:=r2) (own3:=own3) (r0:=r0) R.at' R.s R.ss R.k R.a R.v t4 t3 k1 b2 m3);have HV:=zH (R.v.ins t4);have HSM:=zH (show((ay oS (eL (dg V out) (inn.take k)) (aj x) x).length≤50000)from by have:=cL oS (eL (dg V out) (inn.take k)) (aj x) x;omega);have HR:=zH R;have HX:=zH t4;have HSP:=zH (aL x t4.ok);clear s1 m1 e1 k1 hk' bn R t1 t2 t3 t4;go_wp2_with fail;refine zr (fun W=>W.heap[wr.heap.size]?=some (.cells (SA x) 93 (0,0))) nn fun hS0=>?_;(refine zh hS0 1 4 0 ?_;simp only[zd];((iterate 4 (refine zt (fun W hW=>by have y0:=aa hW 0;have y1:=aa hW 1;have y2:=aa hW 2;have y3:=aa hW 3;have y4:=aa hW 4;have y5:=aa hW 5;have y6:=aa hW 6;have y7:=aa hW 7;have y8:=aa hW 8;exact zq) ?_;simp only[zp]));refine ac ?_));(refine zo 4 rfl fun K hK=>?_;go_simp);go_at_call 157;(with_reducible refine(HD.out).mono ?_);rintro e7 w7 ⟨own7,cs7,r1,r2,⟨v7,rfl⟩,D7⟩;have n7:=D7.kp.toKm.at nn (fun hf=>by rcases hf with e |e |e;exact hnB e;all_goals omega);have HS:=zH (fun w8 b8=>HR.out.sPut (x:=x) (w3:=w8) D7 b8 x.sv);go_wp2_with fail;(refine zu hK n7 ?_;clear hK K;try simp only[zp]);(refine ze ?_);go_wp2_with fail;refine zr (fun W=>W.heap[wr.heap.size]?=some (.cells (SA x) 93 (0,0))) n7 fun hS0=>?_;(refine zh hS0 4 4 0 ?_;simp only[zd];((iterate 4 (refine zt (fun W hW=>by have y0:=aa hW 0;have y1:=aa hW 1;have y2:=aa hW 2;have y3:=aa hW 3;have y4:=aa hW 4;have y5:=aa hW 5;have y6:=aa hW 6;have y7:=aa hW 7;have y8:=aa hW 8;exact zq) ?_;simp only[zp]));refine ac ?_));exact Ue
    ·obtain rfl:k=inn.length:=by omega
     go_wp2_with fail;go_ret;rw[PM,HT.out.fin]at hP;exact⟨rfl,id hP⟩
end
section
variable{own own' own1 own2 own3:Nat→Nat}{b:Nat}{w w' w1 w2 w3 w4:World}{B q M:Nat}{cs cs' cs1 cs2:Array Value}{ty:TypeId}{x:Sp}{V V':List (ByteArray×Sp)}{out inn:List Sp}
structure BK(own:Nat→Nat)(b:Nat)(w:World)(B q:Nat)(cs:Array Value)(ty:TypeId):Prop where
 box:w.heap[B]?=some (.cells cs ty (0,0))
 c0:cs[q]?=some (.pointer none)
 c1:cs[q+1]?=some (.int .i64 0)
 c2:cs[q+2]?=some (.pointer none)
 c3:cs[q+3]?=some (.int .i64 0)
 c4:cs[q+4]?=some (.pointer none)
 c5:cs[q+5]?=some (.int .i64 0)
 c6:cs[q+6]?=some (.map none)
 ow:Ow own w
 nB:own B<b∨b+3<own B
 b0:0<b
theorem BK.made(h:BK own b w B q cs ty)(hb:Below w.heap.size w w1):
  gM (fun c=>if c=w1.heap.size then b+3 else own c) b ((w1.alloc (.map #[] 0)).setCell ⟨B,q+6,none⟩ (.map (some w1.heap.size))) B q (cs.setIfInBounds (q+6) (.map (some w1.heap.size))) ty w1.heap.size []∧
   Km (fun c=>c=B) w ((w1.alloc (.map #[] 0)).setCell ⟨B,q+6,none⟩ (.map (some w1.heap.size)))∧aT q 7 cs (cs.setIfInBounds (q+6) (.map (some w1.heap.size))):=by
 have hBw:=am h.box;have hz:=hb.size;have hbx:=aq (ar (af h.box hb) (.map #[] 0)) (q+6) (.map (some w1.heap.size));have hkm2:Km (fun b=>b=B) (w1.alloc (.map #[] 0)) ((w1.alloc (.map #[] 0)).setCell ⟨B,q+6,none⟩ (.map (some w1.heap.size))):=(Km.refl (fun b=>b=B) _).setCell (b:=B) (fun _=>rfl) _;have far:∀n,n<6→(cs.setIfInBounds (q+6) (.map (some w1.heap.size)))[q+n]?=cs[q+n]?:=fun n hn=>by rw[UL,Pm (by omega)]
 have h6:=h.c6;have hlt:q+6<cs.size:=by
  rcases Rc (q+6) cs.size with e |e
  ·exact e
  ·rw[SK (by omega)]at h6;cases h6
 refine⟨⟨none,none,none,[],[],[],⟨hbx,(far 0 (by omega)).trans h.c0,(far 1 (by omega)).trans h.c1,(far 2 (by omega)).trans h.c2,(far 3 (by omega)).trans h.c3,(far 4 (by omega)).trans h.c4,(far 5 (by omega)).trans h.c5,by rw[UL,Pj rfl,Pj hlt],
  bM _ _ _ _ _,bM _ _ _ _ _,bM _ _ _ _ _,(Ea w1).kp hkm2 (by omega),Pj rfl,fun c hc=>?_,?_,h.b0⟩,fun k=>rfl,Cy,fun k=>rfl⟩,?_,?_⟩
 ·rw[PK,Pq]at hc;exact(Pm (by omega)).trans (h.ow c (by omega))
 ·rw[Pm (show B≠w1.heap.size by omega)];exact h.nB
 ·exact((Km.of_below (fun b=>b=B) hb).alloc _).setCell (b:=B) (fun _=>rfl) _
 ·refine⟨by rw[Array.size_setIfInBounds],fun j hj=>?_⟩;rw[UL,Pm (by omega)]
theorem qg(h:BK own b w B q cs ty)(T:kO [] V' [] inn)(Ao Ai:Option Addr)(c1 c2:Nat)(hm':inn.length≤20000)(hi:pI own B w Ai inn):
  Calls prog 88 #[.pointer (some ⟨B,q,none⟩),.agg #[.slice Ao 0 c1,.slice Ai inn.length c2]] w fun e w'=>e=.returned (.int .i64 0)∧∃M own' cs',gM own' b w' B q cs' ty M V'∧aT q 7 cs cs'∧aO own own' w∧Km (mh own b B) w w':=by
 have hmf:∀(fn:Fn) (first cap:Array Value) (w:World),(Instr.makeFunc fn first cap).run prog w=.ok (.func fn first cap) w:=fun _ _ _ _=>rfl;have b0:=zB w (.cells #[.slice Ao 0 c1,.slice Ai inn.length c2] 103);have n0:=Up w (.cells #[.slice Ao 0 c1,.slice Ai inn.length c2] 103);have m0:=aa n0 0;have m1:=aa n0 1;have hBw:=am h.box;have hb:=h.b0;have hsB:w.heap.size≠B:=by omega
 have H1:=zH (show ∀w1,Below w.heap.size w w1→Calls prog 152 #[.pointer (some ⟨B,q,none⟩),.agg #[.slice Ao 0 c1,.slice Ai inn.length c2]] w1 fun e w'=>e=.returned (.int .i64 0)∧Below w1.heap.size w1 w' from fun w1 b1=>
  yB (own:=own) (t:=b) (ts:=b) B q none none [] [] Ao Ai c1 c2 [] inn T.o T.i T.a (QZ _) (by omega) T.od T.id (fun x hx=>by cases hx) (fun x hx=>.inl rfl) (fun x hx=>by cases hx) w1 ((aa (af h.box b1) (q+2)).trans h.c2) (bM _ _ _ _ _) ((aa (af h.box b1) q).trans h.c0) (bM _ _ _ _ _) (fun k x hk=>by simp at hk) ((hi.rd.below b1).more b1.size))
 have HI0:=zH hi;have HT:=zH T;have HB0:=zH b0;have HH:=zH h;clear h hi T b0;go_enter func88,ntmps88;go_wp2_with (go_at_call 152;(with_reducible refine(H1.out _ HB0.out).mono ?_);rintro e w2 ⟨rfl,b2⟩;have B2:=ah b2 HB0.out;have n2:=af n0 b2;have hbx:=af HH.out.box B2;have hc6:=(aa hbx (q+6)).trans HH.out.c6;have hnn:=Gp w2;clear H1;have hmk1:=QT (P:=prog) 66 w2;have hbx2:=ar hbx (.map #[] 0);have hfq:=ak hbx2 (q+6);have hcc:=(aa hbx2 (q+6)).trans HH.out.c6;have hsn:=aw (ar n2 (.map #[] 0)) hsB (j:=q+6) (.map (some w2.heap.size));have i0:=aa hsn 0;have i1:=aa hsn 1);obtain⟨hV,hkm,hnr⟩:=HH.out.made B2;have hz2:=B2.size;have hex:aO own (fun c=>if c=w2.heap.size then b+3 else own c) w:=fun c hc=>Pm (by omega);have hzs:w.heap.size<w2.heap.size:=am n2;generalize (w2.alloc (.map #[] 0)).setCell ⟨B,q+6,none⟩ (.map (some w2.heap.size))=w3 at*;have hO:(fun c=>if c=w2.heap.size then b+3 else own c) w.heap.size=0:=(Pm (by omega)).trans (HH.out.ow _ (Po _));generalize (fun c=>if c=w2.heap.size then b+3 else own c)=own3 at*;generalize cs.setIfInBounds (q+6) (.map (some w2.heap.size))=cs3 at*;generalize w2.heap.size=M at*;have hkF:∀wr,Km (mh own3 b B) w3 wr→Km (mh own b B) w wr:=fun wr k=>(hkm.mono fun c hc hf=>.inl hf).trans' k fun c hc hf=>hf.ext hex hc;have HRI:=zH (fun wr (k:Km (mh own3 b B) w3 wr)=>HI0.out.rd.km (hkF wr k) (Po _) (fun ad e=>mh.none hb (HI0.out.at' ad e).1 (HI0.out.at' ad e).2.1));have HNF:=zH (mh.none (B:=B) hb hO hsB);have HFIN:=zH (fun wr (hP:dw own3 b w3 wr B q cs3 ty M V')=>show ∃M own' cs',gM own' b wr B q cs' ty M V'∧aT q 7 cs cs'∧aO own own' w∧Km (mh own b B) w wr from by
  obtain⟨⟨own4,cs4,s4,m4,e4⟩,k4⟩:=hP;exact⟨M,own4,cs4,s4,hnr.trans m4,hex.trans e4 hkm.size,hkF _ k4⟩)
 have HP0:=zH (show dw own3 b w3 w3 B q cs3 ty M (eL (dg [] []) (inn.take 0))from⟨⟨_,_,by simpa[eL,dg]using hV,aT.refl _ _ _,aO.refl _ _⟩,Km.refl _ _⟩);have hV0:([]:List (ByteArray×Sp)).length≤20000:=QZ _;clear hV hkm hnr hex hkF n0 n2 m0 m1 b2 B2 hbx hc6 hnn hmk1 hbx2 hfq hcc HH i0;have j1:=aa hsn 1;go_loopw [44] (fun i wr=>i=.int .i64 0∧w3=wr) (fun _ _=>0)
 case atStart=>exact⟨rfl,rfl⟩
 case round=>
  obtain⟨rfl,rfl⟩:=hrel;go_wp2_with fail;have HP3:=HP0;go_loopw [71] (fun i wr=>∃k:Nat,k≤inn.length∧i=.int .i64 k∧dw own3 b w3 wr B q cs3 ty M (eL (dg [] []) (inn.take k))) (fun i _=>inn.length - (intOf i).toNat)
  case atStart=>exact⟨0,by omega,rfl,by simpa[eL]using HP3.out⟩
  case round=>
   obtain⟨k,hk,rfl,hP⟩:=hrel;by_cases hlt:k<inn.length
   ·obtain⟨x,hk'⟩:=zg hlt;obtain⟨⟨own1,cs1,s1,m1,e1⟩,k1⟩:=hP;obtain⟨ad,rfl,hadl,c0,c1,c2,c3,c4,c5,c6,c7,c8⟩:=(HRI.out _ k1) k x hk';have hi1:(k:Int)< (inn.length:Int):=by omega
    obtain⟨t1,t2,t3,t4,t5⟩:=HT.out.ins hk';have bn:=zB wr (.cells (SA x) 93);have nn:=Up wr (.cells (SA x) 93);have hw0:=s1.ow _ (Po _);obtain⟨p0,p1,p2,S,A,C,R⟩:=kR.of ((s1.below bn).below (Pk _ _).drew) t1 (by omega);have hMn:wr.heap.size≠M:=by
     exact OM
    have hnB:wr.heap.size≠B:=by have:=am s1.box;omega
    have HJ:=zH (fun w5=>dw.join (w2:=w5) (ty:=ty) (M:=M) (V:=ay oS (eL (dg [] []) (inn.take k)) (aj x) x) m1 e1 (k1.trans (Km.of_below (mh own3 b B) (bn.trans (Pk _ _).drew))));have HD:=zH (R.kPut t4.ok);have HO:=zH (fun w1 w2 w3 own1 cs1 r1 r2 own3 r0 k1 b2 m3=>KS (w1:=w1) (w2:=w2) (w3:=w3) (own1:=own1) (cs1:=cs1) (r1:=r1) (r2:=r2) (own3:=own3) (r0:=r0) R.at' R.s R.ss R.k R.a R.v t4 t3 k1 b2 m3);have HV:=zH (R.v.ins t4);have HSM:=zH (show((ay oS (eL (dg [] []) (inn.take k)) (aj x) x).length≤50000)from by have:=cL oS (eL (dg [] []) (inn.take k)) (aj x) x;omega);have HR:=zH R;have HX:=zH t4;have HSP:=zH (aL x t4.ok);clear s1 m1 e1 k1 hk' bn R t1 t2 t3 t4;go_wp2_with fail;refine zr (fun W=>W.heap[wr.heap.size]?=some (.cells (SA x) 93 (0,0))) nn fun hS0=>?_;(refine zh hS0 1 4 0 ?_;simp only[zd];((iterate 4 (refine zt (fun W hW=>by have y0:=aa hW;exact zq) ?_;simp only[zp]));refine ac ?_));(refine zo 4 rfl fun K hK=>?_;go_simp);go_at_call 157;(with_reducible refine(HD.out).mono ?_);rintro e7 w7 ⟨own7,cs7,r1,r2,⟨v7,rfl⟩,D7⟩;have n7:=D7.kp.toKm.at nn (fun hf=>by rcases hf with e |e |e;exact hnB e;all_goals omega);have HS:=zH (fun w8 b8=>HR.out.sPut (x:=x) (w3:=w8) D7 b8 x.sv);go_wp2_with fail;(refine zu hK n7 ?_;clear hK K;try simp only[zp]);(refine ze ?_);go_wp2_with fail;refine zr (fun W=>W.heap[wr.heap.size]?=some (.cells (SA x) 93 (0,0))) n7 fun hS0=>?_;(refine zh hS0 4 4 0 ?_;simp only[zd];((iterate 4 (refine zt (fun W hW=>by have y0:=aa hW;exact zq) ?_;simp only[zp]));refine ac ?_));exact Ue
   ·obtain rfl:k=inn.length:=by omega
    go_wp2_with fail;go_ret;rw[PM,HT.out.fin]at hP;exact⟨rfl,HFIN.out _ hP⟩
end
end
section
section
variable{own own':Nat→Nat}{t:Nat}{w w':World}{B q:Nat}{cs cs':Array Value}{ty:TypeId}{out inn R R':List Sp}{x:Sp}
theorem wy.none{b:Nat}(ht:t≠0)(h0:own b=0)(hne:b≠B):¬wy own t B b:=fun hf=>hf.elim hne fun e=>ht (by rw[←e];exact h0)
theorem uC(h:dZ own t w B q cs ty (out++R))(ht:t≠0)(Ao Ai:Option Addr)(c1 c2:Nat)(hlo:∀x∈out,x.In)(hli:∀x∈inn,x.In)(hm:out.length+R.length≤40000)(hm':inn.length≤40000)(ho:pI own B w Ao out)(hi:pI own B w Ai inn):
  Calls prog 89 #[.pointer (some ⟨B,q,none⟩),.agg #[.slice Ao out.length c1,.slice Ai inn.length c2]] w fun e w'=>e=.returned (.bool true)∧bR own t w w' B q cs ty (inn.reverse++R):=by
 have b0:=zB w (.cells #[.slice Ao out.length c1,.slice Ai inn.length c2] 103);have n0:=Up w (.cells #[.slice Ao out.length c1,.slice Ai inn.length c2] 103);have m0:=aa n0 0;have m1:=aa n0 1;have hBw:=h.lt;have hso:=h.ow w.heap.size (Po _);have H1:=zH (fun w1 (b:Below w.heap.size w w1)=>uB Ao c1 out hlo (by omega) w1 ((ho.rd.below b).more b.size));have H2:=zH (fun w1 (b:Below w.heap.size w w1)=>uB Ai c2 inn hli (by omega) w1 ((hi.rd.below b).more b.size));have HRO:=zH (fun wr (k:Km (wy own t B) w wr)=>ho.rd.km k (Po _) (fun ad e=>wy.none ht (ho.at' ad e).1 (ho.at' ad e).2.1));have HRI:=zH (fun wr (k:Km (wy own t B) w wr)=>hi.rd.km k (Po _) (fun ad e=>wy.none ht (hi.at' ad e).1 (hi.at' ad e).2.1));have HNF:=zH (wy.none (B:=B) ht hso (by omega:w.heap.size≠B));have HFO:=zH hlo;have HF:=zH hli;have HB0:=zH b0;have HH:=zH h;clear h ho hi hlo hli b0 hso;go_enter func89,ntmps89;go_wp2_with (first |(go_at_call 160;(with_reducible refine(H1.out _ HB0.out).mono ?_);rintro e w1 ⟨rfl,b1⟩;have B1:=ah b1 HB0.out;have n1:=af n0 b1;have k0:=aa n1 0;have k1:=aa n1 1;clear H1) |(go_at_call 160;(with_reducible refine(H2.out _ B1).mono ?_);rintro e w2 ⟨rfl,b2⟩;have B2:=ah b2 B1;have n2:=af n1 b2;have j0:=aa n2 0;have j1:=aa n2 1));have HP2:=zH (HH.out.below B2);have HN2:=zH n2;have HB2:=zH B2;clear n0 n1 n2 m0 m1 k0 k1 j0 j1 b1 b2 B1 B2 H2 HH;go_loopw [36] (fun i wr=>∃k:Nat,k≤out.length∧i=.int .i64 k∧bR own t w2 wr B q cs ty (out.drop k++R)) (fun i _=>out.length - (intOf i).toNat)
 case atStart=>exact⟨0,by omega,rfl,⟨⟨_,_,HP2.out,aT.refl _ _ _,aO.refl _ _⟩,Km.refl _ _⟩⟩
 case round=>
  obtain⟨k,hk,rfl,hP⟩:=hrel;by_cases hlt:k<out.length
  ·obtain⟨x,hk'⟩:=zg hlt;obtain⟨⟨own1,cs1,s1,m1,e1⟩,k1⟩:=hP;obtain⟨ad,rfl,hadl,c0,c1,c2,c3,c4,c5,c6,c7,c8⟩:=(HRO.out _ ((Km.of_below _ HB2.out).trans' k1 (fun b hb hf=>hf))) k x hk';have hi1:(k:Int)< (out.length:Int):=by omega
   have hdr:out.drop k++R=x::(out.drop (k+1)++R):=by
    exact Oh
   have bn:=zB wr (.cells (SA x) 93);have nn:=Up wr (.cells (SA x) 93);have k2:=k1.trans (Km.of_below _ bn);rw[hdr]at s1;have HA:=zH (Hp x (s1.below bn) ht (HFO.out x (Pv hk')) (by rw[Pu,Vn];omega));have HJ:=zH (fun w5=>bR.join (t:=t) (w2:=w5) (B:=B) (q:=q) (ty:=ty) (R:=out.drop (k+1)++R) m1 e1 k2);have y0:=aa nn;clear s1 m1 e1 k1 k2 hk' bn nn;go_wp2_with (go_at_call 161;(with_reducible refine(HA.out).mono ?_);rintro e2 w5 ⟨rfl,P2⟩);exact⟨⟨k+1,by omega,by go_num,HJ.out _ P2⟩,by simp[intOf];omega⟩
  ·obtain rfl:k=out.length:=by omega
   have hP0:bR own t w2 wr B q cs ty R:=by simpa using hP
   have n3:=hP0.kp.at HN2.out (fun hf=>HNF.out hf);have i1:=aa n3 1;have HP3:=zH (bR.join (aT.refl _ _ _) (aO.refl _ _) (Km.of_below _ HB2.out) hP0);clear hP hP0 n3;go_wp2_with fail;go_loopw [61] (fun i wr=>∃k:Nat,k≤inn.length∧i=.int .i64 k∧bR own t w wr B q cs ty ((inn.take k).reverse++R)) (fun i _=>inn.length - (intOf i).toNat)
   case atStart=>exact⟨0,by omega,rfl,by simpa using HP3.out⟩
   case round=>
    obtain⟨k,hk,rfl,hP⟩:=hrel;by_cases hlt:k<inn.length
    ·obtain⟨x,hk'⟩:=zg hlt;obtain⟨⟨own1,cs1,s1,m1,e1⟩,k1⟩:=hP;obtain⟨ad,rfl,hadl,c0,c1,c2,c3,c4,c5,c6,c7,c8⟩:=(HRI.out _ k1) k x hk';have hi1:(k:Int)< (inn.length:Int):=by omega
     have hdr:(inn.take (k+1)).reverse++R=x::((inn.take k).reverse++R):=by
      rw[PO,hk'];simp
     have bn:=zB wr (.cells (SA x) 93);have nn:=Up wr (.cells (SA x) 93);have k2:=k1.trans (Km.of_below _ bn);have HA:=zH (Ho x (s1.below bn) ht (HF.out x (Pv hk')) (by rw[Pu,Vq,UD];omega));have HJ:=zH (fun w2=>bR.join (t:=t) (w2:=w2) (B:=B) (q:=q) (ty:=ty) (R:=x::((inn.take k).reverse++R)) m1 e1 k2);have y0:=aa nn;clear s1 m1 e1 k1 k2 hk' bn nn;go_wp2_with (go_at_call 161;(with_reducible refine(HA.out).mono ?_);rintro e2 w2 ⟨rfl,P2⟩);exact Of
    ·obtain rfl:k=inn.length:=by omega
     go_wp2_with fail;go_ret;rw[PM]at hP;exact⟨rfl,hP⟩
end
end
