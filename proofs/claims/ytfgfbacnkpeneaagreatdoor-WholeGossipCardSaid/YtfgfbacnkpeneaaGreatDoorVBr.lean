/- For WholeGossip: contracts of functions and plain laws. -/
import Derived.Test.YtfgfbacnkpeneaaGreatDoorVBp
set_option maxRecDepth 100000
set_option maxHeartbeats 4000000
set_option linter.unusedVariables false
set_option linter.unusedSimpArgs false
namespace Go.Proofs.YtfgfbacnkpeneaaGreatDoor
open Go.Proofs.Tryz Go.ChangeShapes Go.WideShapes Go.ChangeAt Go.RowKit Go.Deep Go.Shelf AvlP
abbrev Vi:=@Go.results_cell_row
abbrev VR:=@Go.Proofs.Tryz.underlying98
abbrev Wb:=@Go.Proofs.Tryz.underlying258
theorem Oi{P:Prop}(h:P:=by
 have:=bh hl;unfold aA
 rwa [Ur]):P:=h
section
section
variable{own own':Nat→Nat}{t tm th hb:Nat}{w w':World}{B q:Nat}{cs cs':Array Value}{ty:TypeId}{p p':Option Addr}{R R':List Sp}{x:Sp}
theorem DW(x:Sp)(hx:x.few):(fe x.sv x.op).size≤100000:=by
 unfold fe;rw[QC,QC];have h1:=hx.1;have h2:=hx.2;have:(⟨#[0]⟩:ByteArray).size=1:=rfl;omega
theorem Ke{R:List Sp}{k:ByteArray}(h:qu R k≠[]):∃x∈R,k=fe x.sv x.op:=by
 unfold qu at h;cases hf:R.filter fun x=>decide (fe x.sv x.op=k)with
 |nil=>rw[hf]at h;exact absurd rfl h
 |cons y r=>
  have hm:y∈R.filter fun x=>decide (fe x.sv x.op=k):=by rw[hf];exact UI ..
  obtain⟨m1,m2⟩:=Uz.1 hm;simp only[P7]at m2;exact⟨y,m1,m2.symm⟩
theorem xC(h:cH own tm th hb w B q cs ty R)(hx:∀x∈R,x.few)(hl:R.length≤90000):
  Calls prog 35 #[.pointer (some ⟨B,q,none⟩)] w fun e w'=>∃v,e=.returned v∧(∃l,zx w' w.heap.size v l∧oR cg R (l.map (·.1)))∧Below w.heap.size w w':=by
 obtain⟨p,L,D,h1,h2,h3⟩:=h;have hs:=h1.tr.srt;have hlen:=rN hs fun k v hv=>lV (h3 k) (h2 k v hv);have hmem:∀k,k∈L.map (·.1)↔qu R k≠[]:=fun k=>by
  rw[←eX hs];constructor
  ·intro hn;cases e:ag oS L k with
   |none=>exact absurd e hn
   |some v=>exact lV (h3 k) (h2 k v e)
  ·intro hn e;have:=h3 k;rw[h1.lack k e]at this;exact hn this.symm.eq_nil
 refine(JE h1 (fun z hz=>?_) (by omega)).mono ?_
 ·obtain⟨y,hy,e⟩:=Ke ((hmem z.1).1 (Uu.2 ⟨z,hz,rfl⟩));refine⟨by rw[e];exact DW y (hx y hy),?_⟩;rw[(h3 _).length_eq];exact Pt (qF _ _) hl
 ·rintro e w' ⟨v,rfl,⟨l,n1,e1⟩,b⟩;refine⟨v,rfl,⟨l,n1,⟨L.map (·.1),BZ hs,hmem,?_⟩⟩,b⟩;rw[e1,UQ];exact RZ fun z _=>rC _ _ (h3 z.1)
theorem oR.perm{sp:ByteArray→ByteArray×ByteArray}{O:List Fj}(h:oR sp R O)(hp:R.Perm R'):oR sp R' O:=by
 obtain⟨K,h1,h2,h3⟩:=h.ex;refine⟨K,h1,fun k=>?_,?_⟩
 ·rw[h2];exact⟨lV (jZ hp k),lV (jZ hp k).symm⟩
 ·rw[h3];exact RZ fun k _=>rC sp k (jZ hp k)
theorem xA(hB:w.heap[B]?=some (.cells cs ty (0,0)))(h0:cs[q]?=some (.pointer none))(h1:cs[q+1]?=some (.int .i64 0))(ho:Ow own w)(oB:own B=0):cH own tm th hb w B q cs ty []:=
 ⟨none,[],fun _=>[],⟨hB,h0,h1,bM _ _ _ _ _,ho,oB,fun k v hv=>by simp[ag]at hv,fun _ _=>rfl,fun k k' v hv _=>by simp[ag]at hv⟩,fun k v hv=>by simp[ag]at hv,fun k=>Q0 _⟩
@[local go_sem] theorem MG(a b:Option Addr)(n c n' c':Nat)(w:World):(Instr.field 103 (.agg #[.slice a n c,.slice b n' c']) 1).run prog w=.ok (.slice b n' c') w:=by kernel_rfl
theorem Ln(A:Option Addr)(c:Nat)(l:List Sp)(hl:∀x∈l,x.In)(hm:l.length≤80000)(w:World)(hr:cm w w.heap.size A l):
  Calls prog 42 #[.slice A l.length c] w fun e w'=>∃v,e=.returned v∧(∃ls,zx w' w.heap.size v ls∧oR cg (bF (aA l)) (ls.map (·.1)))∧Below w.heap.size w w':=by
 have b0:=zB w (.cells #[.pointer none,.int .i64 0] 62);have n0:=Up w (.cells #[.pointer none,.int .i64 0] 62);have hT:Ku 1 2 3:=⟨by decide,by decide,by decide,by decide,by decide⟩;have hss:(aA l).length≤l.length:=by
  exact Oi
 have hll:(bF (aA l)).length≤(aA l).length:=Qc _ _;have hlv:∀x∈bF (aA l),x.few:=fun x hx=>((cV hl).vd x (bC.1 hx).1).few;have HS:=zH (fun w1 (b:Below w.heap.size w w1)=>fy A c l hl (by omega) w1 ((hr.below b).more b.size));have HAL:=zH (fun(w1:World) vi (Bi:Nat) (hi:w1.ownsRow Bi 93 9 vi (aA l).length ((aA l).flatMap bg))=>gS (vo:=.slice none 0 0) (lo:=[]) (B:=0) (PS _ _ _ _) hi (by simp) (by omega));generalize bF (aA l)=R at HAL hll hlv⊢;generalize aA l=S at HS HAL hss hll;have HB0:=zH b0;have HN0:=zH n0;have HLV:=zH hlv;clear hr b0 n0 hlv;go_enter func42,ntmps42;go_wp2_with (first |(go_at_call 26;(with_reducible refine(HS.out _ HB0.out).mono ?_);rintro e w1 ⟨vi,rfl,o1,b1⟩;obtain⟨iA,ic,rfl⟩:=an o1;have B1:=ah b1 HB0.out) |(go_at_call 53;(with_reducible refine(HAL.out _ _ _ o1).mono ?_);rintro e w2 ⟨uo,ui,rfl,_,o2,b2⟩;obtain⟨uA,uc,rfl⟩:=an o2;obtain⟨oA,oc,rfl⟩:∃oA oc,uo=.slice oA 0 oc:=an (by assumption)));have z1:w.heap.size<w1.heap.size:=by have:=am (af HN0.out b1);exact this
 have z2:=b2.size;have n2:=af (af HN0.out b1) b2;have hin0:=xA (own:=fun _=>0) (tm:=1) (th:=2) (hb:=3) (q:=0) n2 rfl rfl (fun _ _=>rfl) rfl;obtain⟨_,_,er,hr2,_,_,hat⟩:=bE o2;cases er;have HOF:=zH (fun b (hb:b≠w.heap.size)=>mJ.none (own:=fun _=>0) hT rfl hb);have HRD:=zH (fun wr (k:Km (mJ (fun _=>0) 1 2 3 w.heap.size) w2 wr)=>hr2.km k (Po _) (fun ad e=>HOF.out _ (by have:=(hat ad e).1;omega)));have HT:=zH hT;have HI0:=zH hin0;have HB2:=zH (ah b2 B1);clear hr2 hat o1 o2 b1 b2 B1 n2 hT hin0 HS HAL;go_loopw [12] (fun i wr=>∃k:Nat,k≤R.length∧i=.int .i64 k∧dv (fun _=>0) 1 2 3 w2 wr w.heap.size 0 #[.pointer none,.int .i64 0] 62 ((R.take k).reverse)) (fun i _=>R.length - (intOf i).toNat)
 case atStart=>exact⟨0,by omega,rfl,⟨⟨_,_,HI0.out,aT.refl _ _ _,aO.refl _ _⟩,Km.refl _ _⟩⟩
 case round=>
  obtain⟨k,hk,rfl,hP⟩:=hrel;by_cases hlt:k<R.length
  ·obtain⟨x,hk'⟩:=zg hlt;obtain⟨⟨own1,cs1,s1,m1,e1⟩,k1⟩:=hP;obtain⟨ad,rfl,hadl,c0,c1,c2,c3,c4,c5,c6,c7,c8⟩:=(HRD.out _ k1) k x hk';have hi1:(k:Int)< (R.length:Int):=by omega
   have hdr:(R.take (k+1)).reverse=x::(R.take k).reverse:=by
    rw[PO,hk'];simp
   have bn:=zB wr (.cells (SA x) 93);have nn:=Up wr (.cells (SA x) 93);have k2:=k1.trans (Km.of_below _ bn);have HA:=zH (Co (s1.below bn) HT.out x (HLV.out x (Pv hk')) (by rw[Vq,UD];omega));have HJ:=zH (fun w5=>dv.join (tm:=1) (th:=2) (hb:=3) (w2:=w5) (B:=w.heap.size) (q:=0) (ty:=62) (R:=x::(R.take k).reverse) m1 e1 k2);have y0:=aa nn;clear s1 m1 e1 k1 k2 hk' bn nn;go_wp2_with (go_at_call 87;(with_reducible refine(HA.out).mono ?_);rintro e2 w5 ⟨⟨_,rfl⟩,P2⟩);exact Of
  ·obtain rfl:k=R.length:=by omega
   rw[PM]at hP;obtain⟨⟨own1,cs1,s1,m1,e1⟩,k1⟩:=hP;have hbr:Below w.heap.size w wr:=HB2.out.trans (k1.below (fun b hb hf=>HOF.out b (by omega) hf) (by omega));have HTD:=zH (xC s1 (fun x hx=>HLV.out x (List.mem_reverse.1 hx)) (by rw[Vq];omega));clear s1 m1 e1 k1;go_wp2_with (go_at_call 35;(with_reducible refine(HTD.out).mono ?_);rintro e2 w5 ⟨v,rfl,⟨ls,n5,i5⟩,b5⟩);go_ret;exact⟨_,rfl,⟨ls,n5.low hbr.size,i5.perm (Ub _)⟩,ah b5 hbr⟩
end
@[local go_sem] theorem Md(a b:Option Addr)(n c n' c':Nat)(w:World):(Instr.field 103 (.agg #[.slice a n c,.slice b n' c']) 1).run prog w=.ok (.slice b n' c') w:=by kernel_rfl
theorem yV(A:Option Addr)(c:Nat)(l:List Sp)(hl:∀x∈l,x.In)(hm:l.length≤80000)(w:World)(hr:cm w w.heap.size A l):
  Calls prog 83 #[.slice A l.length c] w fun e w'=>∃v,e=.returned v∧w'.ownsRow w.heap.size 93 9 v (bF (aA l)).length ((bF (aA l)).flatMap bg)∧Below w.heap.size w w':=by
 have hss:(aA l).length≤l.length:=by
  exact Oi
 have HS:=zH (fun w1 (b:Below w.heap.size w w1)=>fy A c l hl (by omega) w1 ((hr.below b).more b.size));have HAL:=zH (fun(w1:World) vi (Bi:Nat) (hi:w1.ownsRow Bi 93 9 vi (aA l).length ((aA l).flatMap bg))=>gS (vo:=.slice none 0 0) (lo:=[]) (B:=0) (PS _ _ _ _) hi (by simp) (by omega));generalize bF (aA l)=R at HAL⊢;generalize aA l=S at HS HAL hss;clear hr;go_enter func83,ntmps83;go_wp2_with (first |(go_at_call 26;(with_reducible refine(HS.out _ (Pk _ w)).mono ?_);rintro e w1 ⟨vi,rfl,o1,b1⟩;obtain⟨iA,ic,rfl⟩:=an o1) |(go_at_call 53;(with_reducible refine(HAL.out _ _ _ o1).mono ?_);rintro e w2 ⟨uo,ui,rfl,o0,o2,b2⟩;obtain⟨uA,uc,rfl⟩:=an o2;obtain⟨oA,oc,er0,hr0,_,_,hat0⟩:=bE (l:=[]) o0;subst er0));go_ret;exact⟨_,rfl,aI o2 b1.size,b1.trans (b2.mono b1.size)⟩
end
section
open PlcP
def Nm(x:Sp):Value:=.agg (SA x)
def Np(x:Pl):Value:=.agg (PA x)
abbrev MP(w:World)(M:Nat)(g:ByteArray→Option Sp):Prop:=cF prog 9 sV zy Nm w M g
abbrev MO(w:World)(M:Nat)(g:ByteArray→Option Pl):Prop:=cF prog 9 sV zy Np w M g
def Br(l:List Sp):ByteArray→Option Sp:=l.foldl (fun g x k=>if k=aj x then some x else g k) fun _=>none
def wF(l:List Sp)(k:ByteArray):Int:=((l.filter fun x=>decide (kk x.tr x.pa=k)).length:Nat)
theorem Ip(l:List Sp)(x:Sp):Br (l++[x])=fun k=>if k=aj x then some x else Br l k:=by simp[Br]
theorem IC(l:List Sp)(x:Sp):wF (l++[x])=fun k=>if k=kk x.tr x.pa then wF l (kk x.tr x.pa)+1 else wF l k:=funext fun k=>by
 unfold wF;rw[VG,Pu];by_cases e:k=kk x.tr x.pa
 ·subst e;simp
 ·rw[Pm e];simp[Qj e]
structure eQ(w:World)(F M1 M2 M3:Nat)(R:List Sp)(g:ByteArray→Option Pl)(ab:ByteArray→Int):Prop where
 box:w.heap[F]?=some (.cells #[.map (some M1),.map (some M2),.map (some M3)] 260 (0,0))
 s:MP w M1 (Br R)
 p:MO w M2 g
 f:kQ w M3 ab
 n12:M1≠M2
 n13:M1≠M3
 n23:M2≠M3
section
variable{w w':World}{F M1 M2 M3:Nat}{R:List Sp}{g:ByteArray→Option Pl}{ab:ByteArray→Int}
theorem eQ.ne(h:eQ w F M1 M2 M3 R g ab):F≠M1∧F≠M2∧F≠M3:=by
 obtain⟨e1,c1,a1,_⟩:=h.s.ex;obtain⟨e2,c2,a2,_⟩:=h.p.ex;obtain⟨g3,hm,_⟩:=h.f;obtain⟨e3,c3,a3,_⟩:=hm.ex;have hb:=h.box;refine⟨fun e=>?_,fun e=>?_,fun e=>?_⟩
 ·rw[e,a1]at hb;cases hb
 ·rw[e,a2]at hb;cases hb
 ·rw[e,a3]at hb;cases hb
theorem eQ.below(h:eQ w F M1 M2 M3 R g ab)(hb:Below w.heap.size w w'):eQ w' F M1 M2 M3 R g ab:=⟨af h.box hb,h.s.below hb,h.p.below hb,h.f.below hb,h.n12,h.n13,h.n23⟩
theorem eQ.km{S:Nat→Prop}(h:eQ w F M1 M2 M3 R g ab)(hk:Km S w w')(hF:¬S F)(h1:¬S M1)(h2:¬S M2)(h3:¬S M3):eQ w' F M1 M2 M3 R g ab:=⟨hk.at h.box hF,h.s.kp hk h1,h.p.kp hk h2,h.f.kp hk h3,h.n12,h.n13,h.n23⟩
theorem eQ.span(h:eQ w F M1 M2 M3 R g ab)(x:Sp):∃w',(Instr.mapUpdate 257 (.map (some M1)) (.string (aj x)) (.agg (SA x))).run prog w=.ok () w'∧eQ w' F M1 M2 M3 (R++[x]) g ab∧Km (fun b=>b=M1) w w'∧w'.heap.size=w.heap.size:=by
 have hne:=h.ne;obtain⟨w',e,h1,k,hs⟩:=h.s.put ta underlying257 (a:=aj x) (cQ _ _) x;refine⟨w',e,⟨k.at h.box hne.1,by rw[Ip];exact h1,h.p.kp k (Qj h.n12),h.f.kp k (Qj h.n13),h.n12,h.n13,h.n23⟩,k,hs⟩
theorem eQ.fan(h:eQ w F M1 M2 M3 R g ab)(t i:Int)(n:Int):∃w',(Instr.mapUpdate 218 (.map (some M3)) (.string (kk t i)) (.int .i64 n)).run prog w=.ok () w'∧eQ w' F M1 M2 M3 R g (fun k=>if k=kk t i then n else ab k)∧Km (fun b=>b=M3) w w'∧w'.heap.size=w.heap.size:=by
 have hne:=h.ne;obtain⟨w',e,h1,k,hs⟩:=h.f.put (a:=kk t i) (cQ _ _) n;exact⟨w',e,⟨k.at h.box hne.2.2,h.s.kp k h.n13,h.p.kp k h.n23,h1,h.n12,h.n13,h.n23⟩,k,hs⟩
theorem eQ.place(h:eQ w F M1 M2 M3 R g ab)(t i:Int)(p:Pl):∃w',(Instr.mapUpdate 258 (.map (some M2)) (.string (kk t i)) (.agg (PA p))).run prog w=.ok () w'∧eQ w' F M1 M2 M3 R (fun k=>if k=kk t i then some p else g k) ab∧Km (fun b=>b=M2) w w'∧w'.heap.size=w.heap.size:=by
 have hne:=h.ne;obtain⟨w',e,h1,k,hs⟩:=h.p.put ta Wb (a:=kk t i) (cQ _ _) p;exact⟨w',e,⟨k.at h.box hne.2.1,h.s.kp k h.n12,h1,h.f.kp k (Qj h.n23),h.n12,h.n13,h.n23⟩,k,hs⟩
theorem yW(A:Option Addr)(c:Nat)(l:List Sp)(hl:∀x∈l,x.Ok)(hm:l.length≤80000)(w:World)(hr:cm w w.heap.size A l):
  Calls prog 84 #[.slice A l.length c] w fun e w'=>∃F M1 M2 M3,e=.returned (.pointer (some ⟨F,0,none⟩))∧eQ w' F M1 M2 M3 l (fun _=>none) (wF l)∧w.heap.size≤F∧w.heap.size≤M1∧w.heap.size≤M2∧w.heap.size≤M3∧Below w.heap.size w w':=by
 have hmk1:=QT (P:=prog) 257 w;have hmk2:=QT (P:=prog) 258 (w.alloc (.map #[] 0));have hmk3:=QT (P:=prog) 218 ((w.alloc (.map #[] 0)).alloc (.map #[] 0));have HR:=zH hr;have HL:=zH hl;clear hr hl;go_enter func84,ntmps84;go_wp2_with fail;obtain⟨w1,hw1⟩:∃w1,w1=w.alloc (.map #[] 0):=⟨_,rfl⟩;obtain⟨w2,hw2⟩:∃w2,w2=w1.alloc (.map #[] 0):=⟨_,rfl⟩;obtain⟨w3,hw3⟩:∃w3,w3=w2.alloc (.map #[] 0):=⟨_,rfl⟩;obtain⟨W1,hW1⟩:∃W1,W1=w3.alloc (.cells #[.map (some w.heap.size),.map (some (w.heap.size+1)),.map (some (w.heap.size+1+1))] 260):=⟨_,rfl⟩;have s1:w1.heap.size=w.heap.size+1:=by rw[hw1,Pq]
 have s2:w2.heap.size=w.heap.size+1+1:=by rw[hw2,Pq,s1]
 have s3:w3.heap.size=w.heap.size+1+1+1:=by rw[hw3,Pq,s2]
 have B1:Below w.heap.size w W1:=by
  rw[hW1,hw3,hw2,hw1];exact zb
 have hC1:eQ W1 (w.heap.size+1+1+1) w.heap.size (w.heap.size+1) (w.heap.size+1+1) [] (fun _=>none) (wF []):=by
  refine⟨?_,?_,?_,?_,by omega,by omega,by omega⟩
  ·rw[hW1,←s3];exact Up _ _
  ·have h1:MP w1 w.heap.size (Br []):=by rw[hw1];exact gy w
   have b:Below w1.heap.size w1 W1:=by
    rw[hW1,hw3,hw2];exact zb
   exact h1.below b
  ·have h1:MO w2 (w.heap.size+1) (fun _=>none):=by rw[hw2,←s1];exact gy w1
   have b:Below w2.heap.size w2 W1:=by
    rw[hW1,hw3];exact zb
   exact h1.below b
  ·have h1:kQ w3 (w.heap.size+1+1) (wF []):=by rw[hw3,←s2];exact lW w2
   have b:Below w3.heap.size w3 W1:=by
    rw[hW1];exact zb
   exact h1.below b
 rw[←hw1,←hw2,←hw3,←hW1];obtain⟨F,hF⟩:∃F,F=w.heap.size+1+1+1:=⟨_,rfl⟩;obtain⟨M1,hM1⟩:∃M1,M1=w.heap.size:=⟨_,rfl⟩;obtain⟨M2,hM2⟩:∃M2,M2=w.heap.size+1:=⟨_,rfl⟩;obtain⟨M3,hM3⟩:∃M3,M3=w.heap.size+1+1:=⟨_,rfl⟩;have HC1:=zH (show eQ W1 F M1 M2 M3 [] (fun _=>none) (wF [])from by rw[hF,hM1,hM2,hM3];exact hC1);rw[←hF,←hM3,←hM2,←hM1];have hge:w.heap.size≤F∧w.heap.size≤M1∧w.heap.size≤M2∧w.heap.size≤M3:=⟨by omega,by omega,by omega,by omega⟩;have HB1:=zH B1;clear hC1 B1 hw1 hw2 hw3 hW1 s1 s2 s3 hmk1 hmk2 hmk3 hF hM1 hM2 hM3;go_loopw [13] (fun i wr=>∃k:Nat,k≤l.length∧i=.int .i64 k∧eQ wr F M1 M2 M3 (l.take k) (fun _=>none) (wF (l.take k))∧Below w.heap.size w wr) (fun i _=>l.length - (intOf i).toNat)
 case atStart=>exact⟨0,by omega,rfl,by simpa using HC1.out,HB1.out⟩
 case round=>
  obtain⟨k,hk,rfl,hC,hB⟩:=hrel;by_cases hlt:k<l.length
  ·obtain⟨x,hk'⟩:=zg hlt;obtain⟨ad,rfl,hadl,c0,c1,c2,c3,c4,c5,c6,c7,c8⟩:=((HR.out.below hB).more hB.size) k x hk';have hi1:(k:Int)< (l.length:Int):=by omega
   have hx:=HL.out x (Pv hk');have ht:=qR hk';have bn:=zB wr (.cells (SA x) 93);have nn:=Up wr (.cells (SA x) 93);have hCn:=hC.below bn;have hFl:=am hC.box;have hM1l:=hC.s.lt;have hM2l:=hC.p.lt;have hM3l:=hC.f.lt;have HCN:=zH hCn;have HSP:=zH (aL x hx);have HOF:=zH (cz x.tr x.pa hx.1 hx.2.2.1);have hbn:Below w.heap.size w (wr.alloc (.cells (SA x) 93)):=hB.trans (bn.mono hB.size);clear hk' hC hCn;go_wp2_with fail;refine zr (fun W=>W.heap[wr.heap.size]?=some (.cells (SA x) 93 (0,0))∧W.heap[F]?=some (.cells #[.map (some M1),.map (some M2),.map (some M3)] 260 (0,0))) ⟨nn,HCN.out.box⟩ fun hS0=>?_;(refine zh hS0 3 5 0 ?_;simp only[zd];((iterate 5 (refine zt (fun W hW=>by have f0:=aa hW.2 0;have y0:=aa hW.1;exact zq) ?_;simp only[zp]));refine ac ?_));(refine zh hS0 2 1 6 ?_;simp only[zd];((iterate 1 (refine zt (fun W hW=>by have y0:=aa hW.1;exact zq) ?_;simp only[zp]));refine ac ?_));(refine zo 5 rfl fun K hK=>?_;go_simp);go_at_call 27;(with_reducible refine(HSP.out _).mono ?_);rintro e8 w8 ⟨rfl,b8⟩;have b8':=((Pk _ (wr.alloc (.cells (SA x) 93))).drew).trans b8;have n8:=af nn b8';have C8:=HCN.out.below b8';go_wp2_with fail;(refine zu hK ⟨n8,C8.box⟩ ?_;clear hK K;try simp only[zp]);obtain⟨w9,hr9,C9,k9,z9⟩:=C8.span x;have n9:=k9.at n8 (show wr.heap.size≠M1 by omega);have hr9':(Instr.mapUpdate 257 (.map (some M1)) (.string (kk x.tr x.id)) (.agg (SA x))).run prog w8=.ok () w9:=hr9;(refine zo 7 rfl fun K hK=>?_;go_simp);(refine zu hK ⟨n9,C9.box⟩ ?_;clear hK K;try simp only[zp]);(refine ze ?_);go_wp2_with fail;have hab:0≤wF (l.take k) (kk x.tr x.pa)∧wF (l.take k) (kk x.tr x.pa)≤80000:=by
    have h1:=Qc (fun y:Sp=>decide (kk y.tr y.pa=kk x.tr x.pa)) (l.take k);have h2:(l.take k).length≤l.length:=by rw[UD];exact Nat.min_le_right _ _
    unfold wF;omega
   refine zr (fun W=>W.heap[wr.heap.size]?=some (.cells (SA x) 93 (0,0))∧W.heap[F]?=some (.cells #[.map (some M1),.map (some M2),.map (some M3)] 260 (0,0))) ⟨n9,C9.box⟩ fun hS0=>?_;(refine zh hS0 4 8 0 ?_;simp only[zd];((iterate 8 (refine zt (fun W hW=>by have f0:=aa hW.2 2;have y0:=aa hW.1;exact zq) ?_;simp only[zp]));refine ac ?_));(refine zo 8 rfl fun K hK=>?_;go_simp);go_at_call 61;(with_reducible refine(HOF.out _).mono ?_);rintro e10 w10 ⟨rfl,b10⟩;have b10':Below w9.heap.size w9 w10:=((Pk _ w9).drew).trans b10;have n10:=af n9 b10';have C10:=C9.below b10';have hlk:=C10.f.look (cQ x.tr x.pa);obtain⟨w11,hr11,C11,k11,z11⟩:=C10.fan x.tr x.pa (wF (l.take k) (kk x.tr x.pa)+1);have hwr:IntKind.i64.wrap (wF (l.take k) (kk x.tr x.pa)+1)=wF (l.take k) (kk x.tr x.pa)+1:=by rw[IntKind.wrap_i64];omega
   have n11:=k11.at n10 (show wr.heap.size≠M3 by omega);go_wp2_with fail;(refine zu hK ⟨n10,C10.box⟩ ?_;clear hK K;try simp only[zp]);(refine zo 9 rfl fun K hK=>?_;go_simp);(refine zu hK ⟨n10,C10.box⟩ ?_;clear hK K;try simp only[zp]);(refine zo 10 rfl fun K hK=>?_;go_simp);(refine zu hK ⟨n10,C10.box⟩ ?_;clear hK K;try simp only[zp]);(refine zo 11 rfl fun K hK=>?_;go_simp);(refine zu hK ⟨n11,C11.box⟩ ?_;clear hK K;try simp only[zp]);(refine ze ?_);go_wp2_with fail;refine⟨⟨k+1,by omega,by go_num,?_,?_⟩,by simp[intOf];omega⟩
   ·rw[ht,IC];exact C11
   ·have k2:Km (fun b=>b=M1∨b=M3) (wr.alloc (.cells (SA x) 93)) w11:=(((Km.of_below _ b8').trans (k9.mono fun b hb hf=>.inl hf)).trans (Km.of_below _ b10')).trans (k11.mono fun b hb hf=>.inr hf);exact hbn.trans (k2.below (fun b hb hf=>by omega) hbn.size)
  ·obtain rfl:k=l.length:=by omega
   go_wp2_with fail;go_ret;rw[PM]at hC;exact⟨F,M1,M2,M3,rfl,hC,hge.1,hge.2.1,hge.2.2.1,hge.2.2.2,hB⟩
end
def jI:Sp:=⟨0,0,0,0,⟨#[]⟩,⟨#[]⟩,0,0,false⟩
theorem ub{β:Type}(venc:β→Value)(r:Option β)(z:β):ov venc (venc z) true r=.tuple #[venc (r.getD z),.bool r.isSome]:=by cases r<;>rfl
theorem Fo(w:World):(zeroValue 93).run prog w=.ok (Nm jI) w:=by kernel_rfl
theorem qJ(w:World):(zeroValue 98).run prog w=.ok (Np ku) w:=by kernel_rfl
theorem Em:(prog.info? 9).map (fun i=>(i.zero,i.size,i.bytes))=some (some (.string ⟨#[]⟩),1,16):=by kernel_rfl
section
variable{w w':World}{F M1 M2 M3:Nat}{R:List Sp}{V:List (ByteArray×Sp)}{g:ByteArray→Option Pl}{ab:ByteArray→Int}{x:Sp}
theorem eQ.lookS(h:eQ w F M1 M2 M3 R g ab)(k:ByteArray)(hk:zy k)(ys:Sp)(is:Bool)(e1:(Br R k).getD jI=ys)(e2:(Br R k).isSome=is):(Instr.lookup 257 (.map (some M1)) (.string k) true).run prog w=.ok (.tuple #[.agg (SA ys),.bool is]) w:=by
 have:=h.s.look ta underlying257 hk (Fo w) true;rw[ub,e1,e2]at this;exact this
theorem eQ.lookP(h:eQ w F M1 M2 M3 R g ab)(k:ByteArray)(hk:zy k)(p:Pl)(is:Bool)(e1:(g k).getD ku=p)(e2:(g k).isSome=is):(Instr.lookup 258 (.map (some M2)) (.string k) true).run prog w=.ok (.tuple #[.agg (PA p),.bool is]) w:=by
 have:=h.p.look ta Wb hk (qJ w) true;rw[ub,e1,e2]at this;exact this
theorem EU(h:eQ w F M1 M2 M3 R g ab)(hV:aJ V)(hR:∀k,Br R k=ag oS V k)(hx:x.Vd)(hxV:ag oS V (aj x)=some x)(hl:V.length≤80000):
  Calls prog 142 #[.pointer (some ⟨F,0,none⟩),.agg (SA x)] w fun e w'=>∃v l i,e=.returned (.tuple #[v,.string (kk x.tr i)])∧w'.ownsRow w.heap.size 93 9 v l.length (l.flatMap bg)∧L8 V g x l i∧Below w.heap.size w w':=by
 have b0:=zB w (.cells (SA x) 93);have n0:=Up w (.cells (SA x) 93);obtain⟨i0,hi⟩:=Qm cC;have HI:=zH hi;obtain⟨j0,hj⟩:=Qm Em;have HJ:=zH hj;clear hi hj;have HSP:=zH (aL x hx.ok);have HC:=zH h;have HV:=zH hV;have HR:=zH hR;have HX:=zH hx;have HXV:=zH hxV;have HB0:=zH b0;have hFl:=am h.box;have y0:=aa n0 0;have y1:=aa n0 1;have y2:=aa n0 2;have y3:=aa n0 3;have y4:=aa n0 4;have y5:=aa n0 5;have y6:=aa n0 6;have y7:=aa n0 7;have y8:=aa n0 8;clear h hV hR hxV b0 hx;go_enter func142,ntmps142;go_wp2_with fail;go_step3;go_wp2_with (go_at_call 27;(with_reducible refine(HSP.out _).mono ?_);rintro e w1 ⟨rfl,b1⟩);go_step3;go_wp2_with fail;have HB1:=zH (ah b1 HB0.out);clear y0 y1 y2 y3 y4 y5 y6 y7 y8 n0 b1;go_loopw [6,7,8] (fun vo vs vk wr=>∃uo us l i,uo=vo∧us=vs∧vk=.string (kk x.tr i)∧ChI V g x l i∧wr.ownsRow w.heap.size 93 9 uo l.length (l.flatMap bg)∧wr.ownsRow w.heap.size 9 1 us l.length ((l.map aj).map Value.string)∧gb uo us∧Below w.heap.size w wr) (fun vo _ _ _=>80001 - (match vo with | .slice _ n _=>n |_=>0))
 case atStart=>exact⟨_,_,[],x.id,rfl,rfl,rfl,Kj HX.out,PS _ _ _ _,PS _ _ _ _,ki _,HB1.out⟩
 case round=>
  obtain⟨uo,us,l,i,hu1,hu2,rfl,hI,ho,hs,ha,hb⟩:=hrel;subst hu1;subst hu2;have HIC:=zH hI;have hii:=hI.hi;have hll:=hI.len HV.out;obtain⟨uA,uc,rfl⟩:=an ho;obtain⟨sA,sc,es,_,_,hrs⟩:=Jy (l:=l.map aj) (by rw[Ur];exact hs);rw[Ur]at es;subst es;have hCr:=HC.out.below hb;obtain⟨ys,hys⟩:∃y,(Br R (kk x.tr i)).getD jI=y:=⟨_,rfl⟩;obtain⟨is,his⟩:∃y,(Br R (kk x.tr i)).isSome=y:=⟨_,rfl⟩;obtain⟨pv,hpv⟩:∃y,(g (kk x.tr i)).getD ku=y:=⟨_,rfl⟩;obtain⟨kn,hkn⟩:∃y,(g (kk x.tr i)).isSome=y:=⟨_,rfl⟩;have hls:=hCr.lookS (kk x.tr i) (cQ _ _) ys is hys his;have bn:=zB wr (.cells (SA ys) 93);have nn:=Up wr (.cells (SA ys) 93);have hlp:=(hCr.below bn).lookP (kk x.tr i) (cQ _ _) pv kn hpv hkn;have f0:=aa hCr.box 0;have f1:=aa (hCr.below bn).box 1;have bn2:=bn.trans ((ae (.cells (PA pv) 98) (Pk _ (wr.alloc (.cells (SA ys) 93)))).mono bn.size);have nn2:=ar nn (.cells (PA pv) 98);have HCN:=zH (sT sA sc (l.map aj) (kk x.tr i) (by rw[Ur];unfold maxLen;omega) _ (hrs.below bn2));have HE:=zH (Uq hys (Uq his (Uq hpv hkn)));have hb2:=hb.trans (bn2.mono hb.size);have HO:=zH ho;have HS:=zH hs;have HA:=zH ha;clear hI hys his hpv hkn hCr bn nn ho hs ha hrs;rw[Ur]at HCN;by_cases hbrk:(is=true∧kn=false)∧kk x.tr i∉l.map aj
  ·obtain⟨⟨rfl,rfl⟩,hm⟩:=hbrk;have hyV:ag oS V (kk x.tr i)=some ys:=by
    have h1:=HE.out.1;have h2:=HE.out.2.1;rw[HR.out]at h1 h2;cases hq:ag oS V (kk x.tr i)with
    |none=>rw[hq]at h2;cases h2
    |some z=>rw[hq]at h1;rw[show z=ys from h1]
   have hgk:g (kk x.tr i)=none:=by
    have h1:=HE.out.2.2.2;cases hq:g (kk x.tr i)with
    |none=>rfl
    |some z=>rw[hq]at h1;cases h1
   obtain⟨e1,e2,e3,e4⟩:=BA HV.out HX.out hii hyV;have HST:=zH (HIC.out.step HV.out HX.out HXV.out hyV hgk hm);have hst:=HST.out.len HV.out;rw[Pu,U5]at hst;have HEQ:=zH (Uq e1 e4);have HOF:=zH (cz ys.tr ys.pa e3.ok.1 e3.ok.2.2.1);rw[UM hm]at HCN;clear hyV hgk hm e1 e2 e3 e4;obtain⟨wP,hwP⟩:∃wP,wP=(wr.alloc (.cells (SA ys) 93)).alloc (.cells (PA pv) 98):=⟨_,rfl⟩;have ZP:=zH (show wP.heap.size=wr.heap.size+1+1 from by rw[hwP,Pq,Pq]);have HO2:=zH (show wP.ownsRow w.heap.size 93 9 (.slice uA l.length uc) l.length (l.flatMap bg)from hwP▸(HO.out.alloc _).alloc _);have HS2:=zH (show wP.ownsRow w.heap.size 9 1 (.slice sA l.length sc) l.length ((l.map aj).map Value.string)from hwP▸(HS.out.alloc _).alloc _);have HN2:=zH (hwP▸nn2);have hge:=(show w.heap.size≤wP.heap.size from by rw[ZP.out];have:=hb.size;omega);have HBP:=zH (show Below w.heap.size w wP from hwP▸hb2);clear nn2;have y0:=aa HN2.out 0;have y1:=aa HN2.out 1;have y2:=aa HN2.out 2;have y3:=aa HN2.out 3;have y4:=aa HN2.out 4;have y5:=aa HN2.out 5;have y6:=aa HN2.out 6;have y7:=aa HN2.out 7;have y8:=aa HN2.out 8;go_wp2_with (first
    |(go_at_call 220;rw[←hwP]at HCN⊢;clear hwP;(with_reducible refine(HCN.out).mono ?_);rintro e6 w6 ⟨rfl,rfl⟩)
    |(at_builtin;(at_builtin;refine aM rfl _ _ 22 rfl w.heap.size 93 i0 (.agg SZ) 9 88 UF HI.out.1 HI.out.2.1 HI.out.2.2.1 HI.out.2.2.2 rfl (by decide) (.slice uA l.length uc) _ _ rfl (HO2.out.alloc _) ⟨w6.heap.size,0,none⟩ 1 1 (bg ys) rfl rfl (bj w6 _ _ (w6.heap.size) (by simp)) (by simp[bg,Value.oneCell']) (by unfold maxLen;omega) (by omega) (by simp;omega) ?_);intro v7 w7 hr7 hg7 hd7;obtain⟨A7,c7,rfl⟩:=an hr7;have HZ7:=zH (show w6.heap.size+1≤w7.heap.size from(by have:=hg7.size;rw[Pq]at this;exact this));have HA7:=zH (bK HA.out HS2.out (by rw[Pq];omega) hd7);have HS7:=zH (bO HA.out HS2.out hg7);have HN7:=zH ((hg7.block wr.heap.size (by rw[Pq];have:=am HN2.out;omega) (fun e=>by have:=(HO.out.lt _ e.symm).2;omega)).trans (ar HN2.out _));have HB7:=zH (HBP.out.trans (((Pk w.heap.size w6).alloc hge _).grown hg7 (by rw[Pq];omega) (fun k e=>(HO.out.lt k e).1)));clear hg7 hd7 y0 y1 y2 y3 y4 y5 y6 y7 y8;have HR7:=zH hr7;clear hr7;have hge7:=(show w.heap.size≤w7.heap.size from(by have:=HZ7.out;omega)))
    |(at_builtin;go_loud (refine aM rfl _ _ 199 rfl w.heap.size 9 j0 (.string ⟨#[]⟩) 1 16 underlying199 HJ.out.1 HJ.out.2.1 HJ.out.2.2.1 HJ.out.2.2.2 rfl (by decide) _ l.length _ rfl (HS7.out.alloc _) ⟨w7.heap.size,0,none⟩ 1 1 [.string (kk x.tr i)] rfl rfl (bj w7 _ _ _ (by simp)) (by simp[Value.oneCell']) (by unfold maxLen;omega) (by omega) (by simp;omega) ?_);intro v8 w8 hr8 hg8 hd8;obtain⟨A8,c8,rfl⟩:=an hr8;have n8:=((hg8.block wr.heap.size (by rw[Pq];have:=am HN7.out;omega) (fun e=>by have:=(HS.out.lt _ e.symm).2;omega)).trans (ar HN7.out _));have z0:=aa n8)
    |(go_at_call 61;(with_reducible refine(HOF.out _).mono ?_);rintro e9 w9 ⟨rfl,b9⟩))
   have o8:=bO HA7.out.symm HR7.out hg8;have a8:=bK HA7.out.symm HR7.out (by rw[Pq];omega) hd8;have b8:Below w.heap.size w w8:=HB7.out.trans (((Pk w.heap.size w7).alloc hge7 _).grown hg8 (by rw[Pq];omega) (fun k e=>(HS.out.lt k e).1));refine⟨⟨_,_,l++[ys],ys.pa,rfl,rfl,by rw[HEQ.out.1],HST.out,?_,?_,a8.symm,b8.trans (b9.mono b8.size)⟩,?_⟩
   ·have:=au o8 b9;rw[Pu,U5,UX];simpa using this
   ·have:=au hr8 b9;rw[Pu,U5,PU,PU];simp only[UA,UV];rw[HEQ.out.2];exact this
   ·show 80001 - (l.length+1)<80001 - l.length;omega
  ·cases is with
   |false=>
    go_wp2_with fail;(try rw[Vp]);go_ret2;exact⟨_,l,i,rfl,(HO.out.alloc _).alloc _,{toChI:=HIC.out,ends:=.inl (by
     have:=HE.out.2.1;rw[HR.out]at this;cases hq:ag oS V (kk x.tr i)with
     |none=>rfl
     |some z=>rw[hq]at this;cases this)},hb2⟩
   |true=>
    cases kn with
    |true=>
     go_wp2_with fail;(try rw[Vp]);go_ret2;exact⟨_,l,i,rfl,(HO.out.alloc _).alloc _,{toChI:=HIC.out,ends:=.inr (.inl (fun e=>by
      have:=HE.out.2.2.2;rw[e]at this;cases this))},hb2⟩
    |false=>
     have hm:kk x.tr i∈l.map aj:=by simpa using hbrk
     have HM:=zH hm;rw[U1 hm]at HCN;clear hm hbrk;go_wp2_with (go_at_call 220;(with_reducible refine(HCN.out).mono ?_);rintro e6 w6 ⟨rfl,rfl⟩);(try rw[Vp]);go_ret2;exact⟨_,l,i,rfl,(HO.out.alloc _).alloc _,{toChI:=HIC.out,ends:=.inr (.inr HM.out)},hb2⟩
end
theorem wt{cs:Array Value}{t:TypeId}(w:World)(o1 o3 o4:Obj):((((w.alloc o1).alloc (.cells cs t)).alloc o3).alloc o4).heap[w.heap.size+1]?=some (.cells cs t (0,0)):=by
 have:=Up (w.alloc o1) (.cells cs t);rw[Pq]at this;exact ar (ar this _) _
section
variable{w w':World}{F M1 M2 M3:Nat}{R:List Sp}{V:List (ByteArray×Sp)}{g:ByteArray→Option Pl}{ab:ByteArray→Int}{x y:Sp}
theorem EV(h:eQ w F M1 M2 M3 R g ab)(hR:∀k,Br R k=ag oS V k)(i:Int)(hi:y.pa=i):
  Calls prog 143 #[.pointer (some ⟨F,0,none⟩),.agg (SA y),.string (kk x.tr i)] w fun e w'=>∃p:Pl,e=.returned (.agg (PA p))∧(p.cl,p.de,p.to)=L9 V g x i y.id∧Below w.heap.size w w':=by
 obtain⟨ys,hys⟩:∃y,(Br R (kk x.tr i)).getD jI=y:=⟨_,rfl⟩;obtain⟨is,his⟩:∃y,(Br R (kk x.tr i)).isSome=y:=⟨_,rfl⟩;obtain⟨pv,hpv⟩:∃y,(g (kk x.tr i)).getD ku=y:=⟨_,rfl⟩;obtain⟨kn,hkn⟩:∃y,(g (kk x.tr i)).isSome=y:=⟨_,rfl⟩;obtain⟨w1,hw1⟩:∃w1,w1=w.alloc (.cells (SA y) 93):=⟨_,rfl⟩;obtain⟨w2,hw2⟩:∃w2,w2=w1.alloc (.cells PZ 98):=⟨_,rfl⟩;obtain⟨w3,hw3⟩:∃w3,w3=w2.alloc (.cells (PA pv) 98):=⟨_,rfl⟩;obtain⟨w4,hw4⟩:∃w4,w4=w3.alloc (.cells (SA ys) 93):=⟨_,rfl⟩;have s1:w1.heap.size=w.heap.size+1:=by rw[hw1,Pq]
 have s2:w2.heap.size=w.heap.size+1+1:=by rw[hw2,Pq,s1]
 have s3:w3.heap.size=w.heap.size+1+1+1:=by rw[hw3,Pq,s2]
 have b2:Below w.heap.size w w2:=by
  rw[hw2,hw1];exact zb
 have b3:Below w.heap.size w w3:=by
  rw[hw3,hw2,hw1];exact zb
 have b4:Below w.heap.size w w4:=by
  rw[hw4,hw3,hw2,hw1];exact zb
 have n1:w4.heap[w.heap.size]?=some (.cells (SA y) 93 (0,0)):=by
  rw[hw4,hw3,hw2,hw1];exact Wp
 have n2:w4.heap[w.heap.size+1]?=some (.cells PZ 98 (0,0)):=by
  rw[hw4,hw3,hw2,←s1];exact Wq
 have n3:w4.heap[w.heap.size+1+1]?=some (.cells (PA pv) 98 (0,0)):=by
  rw[hw4,hw3,←s2];exact ar (Up _ _) _
 have hlp:=(h.below b2).lookP (kk x.tr i) (cQ _ _) pv kn hpv hkn;have hls:=(h.below b3).lookS (kk x.tr i) (cQ _ _) ys is hys his;have f1:=aa (h.below b2).box 1;have f0:=aa (h.below b3).box 0;have HUP:=zH (show L9 V g x i y.id=if kn then(pv.cl,pv.de,pv.to)else if is then(3,0,0)else(if i=0 then 1 else 2,0,y.id)from by
  unfold L9;rw[←hpv,←hkn,←his,←hR];cases g (kk x.tr i)<;>rfl)
 have HI:=zH hi;have HB4:=zH b4;have HN:=zH (Uq n1 (Uq n2 n3));have HW:=zH (Uq hw1 (Uq hw2 (Uq hw3 hw4)));rw[hw2,hw1]at hlp f1;rw[hw3,hw2,hw1]at hls f0;clear hys his hpv hkn h hi b2 b3 b4 n1 n2 n3 hw1 hw2 hw3 hw4 s1 s2 s3;go_enter func143,ntmps143;cases kn with
 |true=>
  go_wp2_with fail;refine Ux (v:=.agg (PA pv)) (Vi rfl _ _ (w.heap.size+1) 98 _ (0,0) _ rfl (wt w _ _ _) VR rfl (by kernel_rfl)) rfl ?_;refine⟨pv,rfl,by rw[HUP.out];rfl,?_⟩;exact zb
 |false=>
  cases is with
  |true=>
   go_wp2_with fail;refine Ux (v:=.agg #[.int .i64 0,.int .i64 0,.int .i64 3,.int .i64 0,.int .i64 0,.int .i64 0]) (Vi rfl _ _ (w.heap.size+1) 98 _ (0,0) _ rfl (wt w _ _ _) VR rfl (by kernel_rfl)) rfl ?_;refine⟨⟨0,0,3,0,0,0⟩,rfl,by rw[HUP.out];rfl,?_⟩;exact zb
  |false=>
   by_cases hz:y.pa=0
   ·have HZ:=zH hz;have hq:(y.pa==0)=true:=by rw[hz];rfl
    clear hz;go_wp2_with fail;refine Ux (v:=.agg #[.int .i64 0,.int .i64 0,.int .i64 1,.int .i64 0,.int .i64 y.id,.int .i64 0]) (Vi rfl _ _ (w.heap.size+1) 98 _ (0,0) _ rfl (wt w _ _ _) VR rfl (by kernel_rfl)) rfl ?_;refine⟨⟨0,0,1,0,y.id,0⟩,rfl,by rw[HUP.out,Pj (show i=0 by rw[←HI.out];exact HZ.out)];rfl,?_⟩;exact zb
   ·have HZ:=zH hz;have hq:(y.pa==0)=false:=by simpa using hz
    clear hz;go_wp2_with fail;refine Ux (v:=.agg #[.int .i64 0,.int .i64 0,.int .i64 2,.int .i64 0,.int .i64 y.id,.int .i64 0]) (Vi rfl _ _ (w.heap.size+1) 98 _ (0,0) _ rfl (wt w _ _ _) VR rfl (by kernel_rfl)) rfl ?_;refine⟨⟨0,0,2,0,y.id,0⟩,rfl,by rw[HUP.out,Pm (show ¬i=0 by rw[←HI.out];exact HZ.out)];rfl,?_⟩;exact zb
end
theorem sC{k:ByteArray}:∀(l:List Sp) (g:ByteArray→Option Sp),(∀x∈l,aj x≠k)→l.foldl (fun g x k=>if k=aj x then some x else g k) g k=g k
 |[],_,_=>rfl
 |x::l,g,h=>by
  rw[UK,sC l _ fun y hy=>h y (Qf _ hy)];exact Pm (Qj (h x (UI ..)))
theorem yZ{x:Sp}:∀(l:List Sp) (g:ByteArray→Option Sp),l.Pairwise (fun x y=>aj x≠aj y)→x∈l→l.foldl (fun g x k=>if k=aj x then some x else g k) g (aj x)=some x
 |[],_,_,h=>by cases h
 |y::l,g,hn,h=>by
  obtain⟨n1,n2⟩:=QL.1 hn;rw[UK];rcases Pz.1 h with rfl |h
  ·rw[sC l _ fun z hz=>(n1 z hz).symm];exact Pj rfl
  ·exact yZ l _ n2 h
section
variable{V:List (ByteArray×Sp)}
theorem Io(hV:aJ V)(k:ByteArray):Br (V.map (·.2)) k=ag oS V k:=by
 cases hg:ag oS V k with
 |none=>
  refine sC _ _ fun x hx e=>?_;have:=hV.mem.1 hx;rw[e,hg]at this;cases this
 |some x=>
  obtain⟨e,_⟩:=hV.get hg;have hx:x∈V.map (·.2):=hV.mem.2 (by rw[←e];exact hg);rw[e];exact yZ _ _ hV.setL.ne hx
theorem Ks(hV:aJ V){t i:Int}(h1:aB t)(h2:aB i):wF (V.map (·.2)) (kk t i)=(Ba V t i:Nat):=by
 unfold wF Ba;rw[List.filter_congr fun x hx=>?_];have hx2:=(hV.get (hV.mem.1 hx)).2.ok;refine decide_eq_decide.2 ⟨fun e=>?_,fun⟨e1,e2⟩=>by rw[e1,e2]⟩;exact bS hx2.1 hx2.2.2.1 h1 h2 e
end
structure L6(V:List (ByteArray×Sp))(g:ByteArray→Option Pl)(l:List Sp)(k:Nat)(gk:ByteArray→Option Pl):Prop where
 ok:Nx V gk
 all:k=l.length→gk=g
 kn:∀j z,k≤j→l[j]?=some z→gk (aj z)≠none
section
variable{w w':World}{F M1 M2 M3:Nat}{R:List Sp}{V:List (ByteArray×Sp)}{g:ByteArray→Option Pl}{ab:ByteArray→Int}{x y:Sp}{l:List Sp}{k:Nat}{gk:ByteArray→Option Pl}{i:Int}
theorem DP(hg:Nx V g):L6 V g l l.length g:=⟨hg,fun _=>rfl,fun j z hj hz=>by
 have:=(Qh.1 hz).1;omega⟩
theorem L6.step(h:L6 V g l (k+1) gk)(hc:L8 V g x l i)(hy:l[k]?=some y){p:Pl}(hp:zv V y p):L6 V g l k (fun q=>if q=aj y then some p else gk q):=by
 have hl:=(Qh.1 hy).1;refine⟨h.ok.put (hc.mem y (Pv hy)).1 hp,fun e=>by omega,fun j z hj hz=>?_⟩;by_cases e:aj z=aj y
 ·show(if aj z=aj y then some p else gk (aj z))≠none;rw[Pj e];simp
 ·show(if aj z=aj y then some p else gk (aj z))≠none;rw[Pm e];refine h.kn j z ?_ hz;rcases Rc j (k+1)with e2 |e2
  ·have:j=k:=by omega
   subst this;rw[hz]at hy;cases hy;exact absurd rfl e
  ·exact e2
theorem L6.next(h:L6 V g l (k+1) gk)(hV:aJ V)(hc:L8 V g x l i)(ha:l[k]?=some y){z:Sp}(hb:l[k+1]?=some z):∃p,gk (aj z)=some p∧gL (jc V x.tr) y.id (fx (p.cl,p.de,p.to)):=by
 cases hq:gk (aj z)with
 |none=>exact absurd hq (h.kn (k+1) z (Po _) hb)
 |some p=>
  obtain⟨z2,e1,e2⟩:=h.ok _ _ hq;have e3:=(hc.mem z (Pv hb)).1;rw[e3]at e1;cases e1;exact⟨p,rfl,hc.toChI.next ha hb e2⟩
end
section
variable{w w':World}{F M1 M2 M3:Nat}{R:List Sp}{V:List (ByteArray×Sp)}{g:ByteArray→Option Pl}{ab:ByteArray→Int}{x:Sp}
theorem ET(h:eQ w F M1 M2 M3 R g ab)(hV:aJ V)(hR:∀k,Br R k=ag oS V k)(hA:∀t i,aB t→aB i→ab (kk t i)=(Ba V t i:Nat))(hg:Nx V g)(hx:x.Vd)(hxV:ag oS V (aj x)=some x)(hl:V.length≤80000):
  Calls prog 85 #[.pointer (some ⟨F,0,none⟩),.agg (SA x)] w fun e w'=>∃p g',e=.returned (.agg (PA p))∧zv V x p∧eQ w' F M1 M2 M3 R g' ab∧Nx V g'∧Km (fun b=>b=M2) w w':=by
 have b0:=ae (.cells PZ 98) (zB w (.cells (SA x) 93));have n0:=ar (Up w (.cells (SA x) 93)) (.cells PZ 98);have m0:=Up (w.alloc (.cells (SA x) 93)) (.cells PZ 98);rw[Pq]at m0;have HCH:=zH (EU (h.below b0) hV hR hx hxV hl);have HC:=zH h;have HV:=zH hV;have HR:=zH hR;have HA:=zH hA;have HG:=zH hg;have HX:=zH hx;have HXV:=zH hxV;have HB0:=zH b0;have HN0:=zH n0;have HM0:=zH m0;have hFl:=am h.box;have hM2l:=h.p.lt;have hM1l:=h.s.lt;have hM3l:=h.f.lt;have y0:=aa n0 0;have y1:=aa n0 1;have y2:=aa n0 2;have y3:=aa n0 3;have y4:=aa n0 4;have y5:=aa n0 5;have y6:=aa n0 6;have y7:=aa n0 7;have y8:=aa n0 8;clear h hV hR hA hg hx b0 n0 m0 hxV;go_enter func85,ntmps85;go_wp2_with (go_at_call 142;(with_reducible refine(HCH.out).mono ?_);rintro e w1 ⟨v,l,i,rfl,hrow,hE,b1⟩;obtain⟨lA,lc,rfl⟩:=an hrow);have hB1:=HB0.out.trans (b1.mono HB0.out.size);have hz1:=HB0.out.size;have N1:=af HN0.out b1;have Mx1:=af HM0.out b1;have HC1:=zH ((HC.out.below HB0.out).below b1);have HROW:=zH (bE hrow);have hll:=hE.toChI.len HV.out;have HE:=zH hE;clear y0 y1 y2 y3 y4 y5 y6 y7 y8 hE hrow b1;have HB1:=zH hB1;have HN1:=zH N1;have HM1:=zH Mx1;clear hB1 N1 Mx1;go_loopw [7] (fun ti wr=>∃k gk,k≤l.length∧ti=.int .i64 ((k:Nat) - 1:Int)∧eQ wr F M1 M2 M3 R gk ab∧L6 V g l k gk∧Km (fun b=>b=M2) w1 wr) (fun ti _=>(intOf ti+1).toNat)
 case atStart=>exact⟨l.length,g,Po _,by rw[show RowKit.wrap64 ((l.length:Int) - 1)=(l.length:Int) - 1 from by unfold RowKit.wrap64;omega],HC1.out,DP HG.out,Km.refl _ _⟩
 case round=>
  obtain⟨k,gk,hk,rfl,hC,hI,hK⟩:=hrel;have hN:=hK.at HN1.out (by omega);have hM:=hK.at HM1.out (by omega);rcases k with _ |k
  ·have hgx:∃p,gk (aj x)=some p:=by
    have hne:gk (aj x)≠none:=by
     rcases HE.out.hd with⟨e,_⟩ |e
     ·subst e;rw[hI.all rfl];exact HE.out.known HV.out HXV.out
     ·refine hI.kn 0 x (Po _) ?_;rw[←List.head?_eq_getElem?];exact e
    cases hq:gk (aj x)with
    |none=>exact absurd hq hne
    |some p=>exact⟨p,rfl⟩
   obtain⟨p,hp⟩:=hgx;have HCK:=zH hC;have HP:=zH hp;have HIO:=zH hI.ok;have HSP:=zH (aL x HX.out.ok);go_wp2_with fail;refine zr (fun W=>W.heap[w.heap.size]?=some (.cells (SA x) 93 (0,0))∧W.heap[F]?=some (.cells #[.map (some M1),.map (some M2),.map (some M3)] 260 (0,0))) ⟨hN,hC.box⟩ fun hS0=>?_;(refine zh hS0 3 5 0 ?_;simp only[zd];((iterate 5 (refine zt (fun W hW=>by have f1:=aa hW.2 1;have y0:=aa hW.1 0;have y1:=aa hW.1 1;have y2:=aa hW.1 2;have y3:=aa hW.1 3;have y4:=aa hW.1 4;have y5:=aa hW.1 5;have y6:=aa hW.1 6;have y7:=aa hW.1 7;have y8:=aa hW.1 8;exact zq) ?_;simp only[zp]));refine ac ?_));(refine zo 5 rfl fun K hK=>?_;go_simp);go_at_call 27;(with_reducible refine(HSP.out _).mono ?_);rintro e8 w8 ⟨rfl,b8⟩;have b8':Below wr.heap.size wr w8:=((Pk _ wr).drew).trans b8;have n8:=af hN b8';have C8:=HCK.out.below b8';go_wp2_with fail;(refine zu hK ⟨n8,C8.box⟩ ?_;clear hK K;try simp only[zp]);have hlk:(Instr.lookup 258 (.map (some M2)) (.string (kk x.tr x.id)) false).run prog w8=.ok (.agg (PA p)) w8:=by
    have:=C8.p.look ta Wb (cQ x.tr x.id) (qJ w8) false;rw[show gk (kk x.tr x.id)=some p from HP.out]at this;exact this
   (refine zo 6 rfl fun K hK=>?_;go_simp);(refine zu hK ⟨n8,C8.box⟩ ?_;clear hK K;try simp only[zp]);have m8:=af hM b8';have hne8:=C8.ne;have hgx:=HIO.out (aj x) p HP.out;(refine zo 7 rfl fun K hK=>?_);(refine bu (y:=p) _ _ rfl (by rfl) (by rfl) (m8) rfl ?_);intro w9 n9 k9 _;have T9:=(Uq (k9.toKm.at n8 (by omega)) (k9.toKm.at C8.box (by omega)));(refine zu hK T9 ?_;clear hK K;try simp only[zp]);(refine ze ?_);have C9:=C8.km k9.toKm (by omega) (by omega) (by omega) (by omega);go_wp2_with fail;refine Ux (v:=.agg (PA p)) (Vi rfl _ _ (w.heap.size+1) 98 _ (0,0) _ rfl n9 VR rfl (by kernel_rfl)) rfl ?_;refine⟨p,gk,rfl,?_,C9,HIO.out,?_⟩
   ·obtain⟨x2,e1,e2⟩:=hgx;rw[HXV.out]at e1;cases e1;exact e2
   ·exact(((Km.of_below (fun b=>b=M2) HB1.out).trans' hK (fun c hc hf=>hf)).trans' (Km.of_below (fun _=>False) b8') (fun c hc hf=>hf.elim)).trans' k9.toKm (fun c hc hf=>by omega)
  ·obtain⟨y,hy⟩:∃y,l[k]?=some y:=⟨l[k],PT (by omega)⟩;obtain⟨z,hz⟩:∃z,l[l.length - 1]?=some z:=⟨l[l.length - 1],PT (by omega)⟩;have hzl:l.getLast?=some z:=by rw[Wi];exact hz
   obtain⟨A2,c2,er,hrd,_,_,hat⟩:=HROW.out;cases er;have hrd2:=hrd.km hK (Po _) (fun ad e=>by have:=(hat ad e).1;omega);obtain⟨ad,rfl,hadl,c0,c1,c2,c3,c4,c5,c6,c7,c8⟩:=hrd2 k y hy;have bn:=zB wr (.cells (SA y) 93);obtain⟨ad2,e2,_,d0,d1,d2,d3,d4,d5,d6,d7,d8⟩:=(hrd2.below (bn.mono hK.size)) (l.length - 1) z hz;cases e2;have nn:=Up wr (.cells (SA y) 93);have HAB:=zH (EV (x:=x) (y:=z) (V:=V) (hC.below bn) HR.out i (HE.out.la z hzl));have hi1:(k:Int)< (l.length:Int):=by omega
   have HY:=zH hy;have HZ:=zH hz;have HI:=zH hI;have HCK:=zH hC;have HRD2:=zH hrd2;have HDR:=zH (fun(b2:Nat)=>(HE.out.mem y (Pv hy)));have hyv:=(HV.out.get (HE.out.mem y (Pv hy)).1).2;have HYO:=zH hyv.ok;have hyt:=(HE.out.mem y (Pv hy)).2.2;have HYT:=zH hyt;have HSP:=zH (aL y hyv.ok);clear hzl hrd hrd2 hat hy hz hI hC hyv hyt HDR;have hup:k+1<l.length∨Hid (k+1=l.length):=by
    rcases Rc (k+1) l.length with h |h
    ·exact .inl h
    ·exact .inr (zH (by omega))
   rcases hup with hlt |HEQ
   case' inl=>
    have hi2:decide ((k:Int)< (l.length:Int) - 1)=true:=by simp;omega
    obtain⟨z2,hz2⟩:∃z2,l[k+1]?=some z2:=⟨l[k+1],PT hlt⟩;obtain⟨u,hu,hst⟩:=HI.out.next HV.out HE.out HY.out hz2
    have hz2v:=(HV.out.get (HE.out.mem z2 (Pv hz2)).1).2;have hz2t:=(HE.out.mem z2 (Pv hz2)).2.2;have HSZ:=zH (aL z2 hz2v.ok);have HDE:=(by
     obtain⟨_,e1,e2⟩:=HI.out.ok _ _ hu;have e3:=(HE.out.mem z2 (Pv hz2)).1;rw[e3]at e1;cases e1;exact mR HV.out hz2v.ok.1 hz2v.ok.2.1 e2.pl:0≤(u.cl,u.de,u.to).2.1∧(u.cl,u.de,u.to).2.1≤(V.length:Int))
    have HST:=zH hst;have HU:=zH hu;have HZ2:=zH hz2;clear hz2 hu hz2v hz2t hst;go_wp2_with (go_at_call 143;(with_reducible refine(HAB.out).mono ?_);rintro e5 w5 ⟨up,rfl,hup,b5⟩);have C5:=(HCK.out.below bn).below b5;have HR5:=zH ((HRD2.out.below (bn.mono hK.size)).below (b5.mono (Pt hK.size bn.size)));have nU:=Up w5 (.cells (PA up) 98);have yU:=ar (af nn b5) (.cells (PA up) 98);have S5:Below w5.heap.size w5 (w5.alloc (.cells (PA up) 98)):=ae _ (Pk _ _);have hz5:=am (af nn b5);have gw:IntKind.i64.wrap ((k:Int)+1)=(k:Int)+1:=by rw[IntKind.wrap_i64];omega
    have gi:0≤(k:Int)+1∧(k:Int)+1< (l.length:Int):=by omega
    have gt:((k:Int)+1).toNat=k+1:=by omega
    refine zr (fun W=>Below w5.heap.size w5 W) S5.drew fun hS0=>?_;(refine zh hS0 3 9 0 ?_;simp only[zd];((iterate 9 (refine zt (fun W hW=>by have f1:=aa (af C5.box hW) 1;obtain⟨ad9,e9,_,q0,q1,q2,q3,q4,q5,q6,q7,q8⟩:=(HR5.out.below (hW.mono (by have:=b5.size;have:=bn.size;have:=hK.size;omega))) (k+1) z2 HZ2.out;cases e9;exact zq) ?_;simp only[zp]));refine ac ?_));(refine zo 9 rfl fun K hK=>?_;go_simp);(with_reducible refine(HSZ.out _).mono ?_);rintro e8 w8 ⟨rfl,b8⟩;have b8':Below (w5.alloc (.cells (PA up) 98)).heap.size (w5.alloc (.cells (PA up) 98)) w8:=((Pk _ (w5.alloc (.cells (PA up) 98))).drew).trans b8;have S8:Below w5.heap.size w5 w8:=ah b8' S5;have n8:=af nU b8';have y8:=af yU b8';have C8:=C5.below S8;go_wp2_with fail;(refine zu hK S8 ?_;clear hK K;try simp only[zp]);have hlk:(Instr.lookup 258 (.map (some M2)) (.string (kk z2.tr z2.id)) false).run prog w8=.ok (.agg (PA u)) w8:=by
     have:=C8.p.look ta Wb (cQ z2.tr z2.id) (qJ w8) false;rw[show gk (kk z2.tr z2.id)=some u from HU.out]at this;exact this
    (refine zo 10 rfl fun K hK=>?_;go_simp);(refine zu hK S8 ?_;clear hK K;try simp only[zp]);(refine zo 11 rfl fun K hK=>?_);(refine bu (y:=u) _ _ rfl (by rfl) (by rfl) (n8) rfl ?_);intro w6 n6 k6 hszz;have S6:=S8.trans (gA k6 (Po _) S8.size);clear hszz;(refine zu hK S6 ?_;clear hK K;try simp only[zp]);(refine ze ?_);have y6:=k6.toKm.at y8 (by omega);have C6:=C5.below S6;have K6:Km (fun b=>b=M2) wr w6:=Km.of_below _ ((bn.trans (b5.mono bn.size)).trans (S6.mono (Pt bn.size b5.size)));have HU2:=zH hup;clear hup k6 n8 y8 S8 S6 C8 nU yU S5 b8 b8' hS0 HSZ HR5 hlk HU HZ2 gw gi gt;go_wp2_with fail
   case' inr=>
    have hi2:decide ((k:Int)< (l.length:Int) - 1)=false:=by have:=HEQ.out;simp;omega
    have HGK:=zH (HI.out.all HEQ.out);go_wp2_with (go_at_call 143;(with_reducible refine(HAB.out).mono ?_);rintro e5 w5 ⟨u,rfl,hup,b5⟩);have C5:=(HCK.out.below bn).below b5;have n6:=Up w5 (.cells (PA u) 98);have y6:=ar (af nn b5) (.cells (PA u) 98);have S5:Below w5.heap.size w5 (w5.alloc (.cells (PA u) 98)):=ae _ (Pk _ _);have C6:=C5.below S5;have hz5:=am (af nn b5);have K6:Km (fun b=>b=M2) wr (w5.alloc (.cells (PA u) 98)):=Km.of_below _ ((bn.trans (b5.mono bn.size)).trans (S5.mono (Pt bn.size b5.size)));have hyz:y=z:=by
     have h1:=HY.out;have h2:=HZ.out;rw[show l.length - 1=k by have:=HEQ.out;omega,h1]at h2;exact UC h2
    have hst:gL (jc V x.tr) y.id (fx (u.cl,u.de,u.to)):=by
     rw[hup,HGK.out,hyz];exact HE.out.last HV.out HX.out HG.out (by rw[Wi];exact HZ.out)
    have HST:=zH hst;have HDE:0≤(u.cl,u.de,u.to).2.1∧(u.cl,u.de,u.to).2.1≤(V.length:Int):=by
     rw[hup];unfold L9;rw[HGK.out];cases hq:g (kk x.tr i)with
     |some p=>
      obtain⟨z3,e1,e2⟩:=HG.out _ _ hq;obtain⟨_,e3⟩:=HV.out.get e1;exact mR HV.out e3.ok.1 e3.ok.2.1 e2.pl
     |none=>by_cases hs:(ag oS V (kk x.tr i)).isSome<;>simp[hs]
    have HU2:=zH hup;generalize w5.alloc (.cells (PA u) 98)=w6 at*;clear hup hst hyz S5
   all_goals
    (try simp only at HDE);have gd:IntKind.i64.wrap (u.de+1)=u.de+1:=by rw[IntKind.wrap_i64];omega
    have hz6:=K6.size;refine zr (fun W=>W.heap[wr.heap.size]?=some (.cells (SA y) 93 (0,0))∧W.heap[w5.heap.size]?=some (.cells (PA u) 98 (0,0))∧eQ W F M1 M2 M3 R gk ab) ⟨y6,n6,C6.below (Pk _ w6).drew⟩ fun hS0=>?_;(refine zh hS0 5 16 0 ?_;simp only[zd];((iterate 16 (refine zt (fun W hW=>by have f2:=aa hW.2.2.box 2;have y0:=aa hW.1 0;have y1:=aa hW.1 1;have y2:=aa hW.1 2;have y3:=aa hW.1 3;have y4:=aa hW.1 4;have y5:=aa hW.1 5;have y6:=aa hW.1 6;have y7:=aa hW.1 7;have y8:=aa hW.1 8;have q0:=aa hW.2.1 0;have q1:=aa hW.2.1 1;have q2:=aa hW.2.1 2;have q3:=aa hW.2.1 3;have q4:=aa hW.2.1 4;have q5:=aa hW.2.1 5;exact zq) ?_;simp only[zp]));refine ac ?_));apply rG (C:=fun g W=>(W.heap[g]?=some (.cells #[.int .i64 y.tr,.int .i64 y.id,.int .i64 u.cl,.int .i64 (u.de+1),.int .i64 u.to,.int .i64 (ab (kk y.tr y.id))] 98 (0,0))∧W.heap[wr.heap.size]?=some (.cells (SA y) 93 (0,0)))∧eQ W F M1 M2 M3 R gk ab∧Km (fun b=>b=M2) wr W∧w6.heap.size≤g)
    ·intro HG;refine aU 16 19 (by kernel_rfl) rfl rfl (fun K hK=>?_) (fun K hK=>?_)
     ·rw[Pj (by rfl)];go_simp;(with_reducible refine(HSP.out _).mono ?_);rintro e8 w8 ⟨rfl,b8⟩;have b8':Below w6.heap.size w6 w8:=((Pk _ w6).drew).trans b8;have S8:=Uq (af y6 b8') (Uq (af n6 b8') (C6.below b8'));go_wp2_with fail;(refine zu hK S8 ?_;clear hK K;try simp only[zp]);(refine zh S8 2 2 17 ?_;simp only[zd];((iterate 2 (refine zt (fun W hW=>by have hlk:=hW.2.2.f.look (cQ y.tr y.id);exact zq) ?_;simp only[zp]));refine ac ?_));have b9:=zB w8 (.cells PZ 98);have n9:=Up w8 (.cells PZ 98);have S9:=Uq (af S8.1 b9) (Uq (af S8.2.1 b9) (S8.2.2.below b9));(refine zo 19 rfl fun K hK=>?_);(go_simp;(refine zu hK (S9) ?_;clear hK K;try simp only[zp]));have hz8:=b8'.size;have z1:=am S8.1;have z2:=am S8.2.1;have z3:=am S8.2.2.box;have z4:=S8.2.2.s.lt;have z5:=S8.2.2.p.lt;have z6:=S8.2.2.f.lt;(refine zo 20 rfl fun K hK=>?_);(refine bu (y:=⟨y.tr,y.id,u.cl,u.de+1,u.to,ab (kk y.tr y.id)⟩) _ _ rfl (by rfl) (by rfl) (n9) rfl ?_);intro w9 n10 k10 _;have S10:=Uq (k10.toKm.at S9.1 (by omega)) (Uq (k10.toKm.at S9.2.1 (by omega)) (S9.2.2.km k10.toKm (by omega) (by omega) (by omega) (by omega)));(refine zu hK S10 ?_;clear hK K;try simp only[zp]);(refine ze ?_);have K10:Km (fun b=>b=M2) wr w9:=(K6.trans (Km.of_below _ (b8'.trans (b9.mono hz8)))).trans' k10.toKm fun c hc e=>by omega
      generalize w8.heap.size=g11 at n10 hz8⊢;exact HG g11 w9 ⟨⟨n10,S10.1⟩,S10.2.2,K10,hz8⟩
     ·have n3:=Up w6.drew (.cells PZ 98);have b3:Below w6.heap.size w6 (w6.drew.alloc (.cells PZ 98)):=ae _ (Pk _ w6).drew;have S3:=Uq (af y6 b3) (Uq (af n6 b3) (C6.below b3));(rw[Pj (by rfl)];go_simp;(refine zu hK (S3) ?_;clear hK K;try simp only[zp]));refine zo 16 rfl fun K hK=>?_;go_simp;(with_reducible refine(HSP.out _).mono ?_);rintro e8 w8 ⟨rfl,b8⟩;have b8':=ah b8 b3;have S8:=Uq (af y6 b8') (Uq (af n6 b8') (C6.below b8'));have n8:=af n3 b8;go_wp2_with fail;(refine zu hK S8 ?_;clear hK K;try simp only[zp]);(refine zh S8 1 2 17 ?_;simp only[zd];((iterate 2 (refine zt (fun W hW=>by have hlk:=hW.2.2.f.look (cQ y.tr y.id);exact zq) ?_;simp only[zp]));refine ac ?_));have z1:=am y6;have z2:=am n6;have z3:=am C6.box;have z4:=C6.s.lt;have z5:=C6.p.lt;have z6:=C6.f.lt;have zd:w6.drew.heap.size=w6.heap.size:=rfl;(refine zo 20 rfl fun K hK=>?_);(refine bu (y:=⟨y.tr,y.id,u.cl,u.de+1,u.to,ab (kk y.tr y.id)⟩) _ _ rfl (by rfl) (by rfl) (n8) rfl ?_);intro w9 n10 k10 _;have S10:=Uq (k10.toKm.at S8.1 (by omega)) (Uq (k10.toKm.at S8.2.1 (by omega)) (S8.2.2.km k10.toKm (by omega) (by omega) (by omega) (by omega)));(refine zu hK S10 ?_;clear hK K;try simp only[zp]);(refine ze ?_);have K10:Km (fun b=>b=M2) wr w9:=(K6.trans (Km.of_below _ b8')).trans' k10.toKm fun c hc e=>by omega
      exact HG _ w9 ⟨⟨n10,S10.1⟩,S10.2.2,K10,Po _⟩
    rintro g11 w7 ⟨⟨n7,y7⟩,C7,K7,hg⟩;have m2:=aa n7;have f3:=ak n7 3;have hzy:=am y6;have hzw:=am hN;have hcl:(u.cl==3)=true∨(u.cl==3)=false:=by cases u.cl==3<;>simp
    rcases hcl with hcl |hcl
    case' inl=>
     have HD9:=zH (show(0:Int)=(fx (u.cl,u.de,u.to)).2.1 from by unfold fx;rw[Pj (show u.cl=3 from by simpa using hcl)]);go_wp2_with fail;have k9:=((Km.refl (fun c=>c=g11) w7).setCell (b:=g11) (j:=3) (fun _=>rfl) (.int .i64 0));have n9:=aq n7 3 (.int .i64 0);simp only[UY,U9,U3]at n9;have y9:=k9.at y7 (by omega);have C9:=C7.km k9 (by have:=am C6.box;omega) (by have:=C6.s.lt;omega) (by have:=C6.p.lt;omega) (by have:=C6.f.lt;omega);have K9:Km (fun b=>b=M2) wr (w7.setCell ⟨g11,3,none⟩ (.int .i64 0)):=K7.trans' k9 fun c hc e=>by omega
     generalize w7.setCell ⟨g11,3,none⟩ (.int .i64 0)=w9 at*;generalize (0:Int)=d9 at n9 HD9
    case' inr=>
     have HD9:=zH (show u.de+1=(fx (u.cl,u.de,u.to)).2.1 from by unfold fx;rw[Pm (show ¬u.cl=3 from by simpa using hcl)]);go_wp2_with fail;obtain⟨w9,rfl⟩:∃w9,w9=w7:=⟨_,rfl⟩;have n9:=n7;have y9:=y7;have C9:=C7;have K9:=K7;generalize u.de+1=d9 at n9 HD9
    all_goals
     refine zr (fun W=>W.heap[wr.heap.size]?=some (.cells (SA y) 93 (0,0))∧W.heap[g11]?=some (.cells #[.int .i64 y.tr,.int .i64 y.id,.int .i64 u.cl,.int .i64 d9,.int .i64 u.to,.int .i64 (ab (kk y.tr y.id))] 98 (0,0))∧W.heap[F]?=some (.cells #[.map (some M1),.map (some M2),.map (some M3)] 260 (0,0))) ⟨y9,n9,C9.box⟩ fun hS0=>?_;(refine zh hS0 3 5 0 ?_;simp only[zd];((iterate 5 (refine zt (fun W hW=>by have f1:=aa hW.2.2 1;have y0:=aa hW.1 0;have y1:=aa hW.1 1;have y2:=aa hW.1 2;have y3:=aa hW.1 3;have y4:=aa hW.1 4;have y5:=aa hW.1 5;have y6:=aa hW.1 6;have y7:=aa hW.1 7;have y8:=aa hW.1 8;exact zq) ?_;simp only[zp]));refine ac ?_));(refine zh hS0 2 1 6 ?_;simp only[zd];((iterate 1 (refine zt (fun W hW=>by have q0:=aa hW.2.1 0;have q1:=aa hW.2.1 1;have q2:=aa hW.2.1 2;have q3:=aa hW.2.1 3;have q4:=aa hW.2.1 4;have q5:=aa hW.2.1 5;exact zq) ?_;simp only[zp]));refine ac ?_));(refine zo 5 rfl fun K hK=>?_;go_simp);(with_reducible refine(HSP.out _).mono ?_);rintro e8 w8 ⟨rfl,b8⟩;have b8':Below w9.heap.size w9 w8:=((Pk _ w9).drew).trans b8;have S8:=Uq (af y9 b8') (Uq (af n9 b8') (af C9.box b8'));have C8:=C9.below b8';obtain⟨w11,hr11,C11,k11,z11⟩:=C8.place y.tr y.id ⟨y.tr,y.id,u.cl,d9,u.to,ab (kk y.tr y.id)⟩;have hr11':(Instr.mapUpdate 258 (.map (some M2)) (.string (kk y.tr y.id)) (.agg #[.int .i64 y.tr,.int .i64 y.id,.int .i64 u.cl,.int .i64 d9,.int .i64 u.to,.int .i64 (ab (kk y.tr y.id))])).run prog w8=.ok () w11:=hr11;have S11:=Uq (k11.at S8.1 (by have:=C6.p.lt;omega)) (Uq (k11.at S8.2.1 (by have:=C6.p.lt;omega)) C11.box);go_wp2_with fail;(refine zu hK S8 ?_;clear hK K;try simp only[zp]);(refine zo 7 rfl fun K hK=>?_;go_simp);(refine zu hK S11 ?_;clear hK K;try simp only[zp]);(refine ze ?_);go_wp2_with fail;have hPL:zv V y ⟨y.tr,y.id,u.cl,d9,u.to,ab (kk y.tr y.id)⟩:=⟨rfl,rfl,by
      rw[HYT.out];have:=HST.out;rw[show(u.cl,d9,u.to)=fx (u.cl,u.de,u.to)from by rw[HD9.out];rfl];exact this,HA.out _ _ HYO.out.1 HYO.out.2.1⟩
     exact⟨⟨k,_,by omega,by go_num,C11,HI.out.step HE.out HY.out hPL,(hK.trans K9).trans ((Km.of_below _ b8').trans k11)⟩,by simp[intOf]<;>omega⟩
end
theorem Ik(A:Option Addr)(c:Nat)(l:List Sp)(hl:∀x∈l,x.In)(hm:l.length≤20000)(w:World)(hr:cm w w.heap.size A l):
  Calls prog 40 #[.slice A l.length c] w fun e w'=>∃v X,e=.returned v∧w'.ownsRow w.heap.size 98 6 v X.length (X.flatMap iq)∧eZ (cB (av l)) X∧Below w.heap.size w w':=by
 obtain⟨i0,hi⟩:=Qm mZ;have HI:=zH hi;have HSP:=zH (yV A c l hl (by omega) w hr);have hrec:=gW (aG hl);have hvl:bF (aA l)=(cB (av l)).map (·.2):=(jU _).symm;have hlen:(cB (av l)).length≤l.length:=Pt (Qc _ _) (bh hl);rw[hvl]at HSP;generalize cB (av l)=V at*;have hml:(V.map (·.2)).length=V.length:=Ur ..;obtain⟨R,hR⟩:∃R,R=V.map (·.2):=⟨_,rfl⟩;rw[←hR]at hml HSP;have HPL:=zH (fun(A:Option Addr) (c:Nat) (w1:World) (h:cm w1 w1.heap.size A R)=>yW A c R (fun x hx=>by subst hR;exact(hrec.get (hrec.mem.1 hx)).2.ok) (by omega) w1 h);have HV:=zH hrec;have HR:=zH (fun k=>hR▸Io hrec k);have HA:=zH (fun t i h1 h2=>hR▸Ks hrec (t:=t) (i:=i) h1 h2);have HRV:=zH (Uq hR hml);have hlr:R.length≤20000:=by omega
 clear hi hr hvl hrec hR hml hlen;go_enter func40,ntmps40;go_wp2_with (first |((with_reducible refine(HSP.out).mono ?_);rintro e w1 ⟨v1,rfl,o1,b1⟩;obtain⟨_,c1,e1,r1,_,_,a1⟩:=bE o1;cases e1;have HP1:=zH (HPL.out _ c1 _ r1);have HB1:=zH b1;clear HSP HPL b1) |((with_reducible refine(HP1.out).mono ?_);rintro e w2 ⟨F,M1,M2,M3,rfl,hC,gF,g1,g2,g3,b2⟩;have HR2:=zH ((r1.below b2).more b2.size);have HB2:=zH (ah b2 HB1.out);have HC2:=zH hC;clear HP1 b2 hC));have z2:=HB2.out.size;have z1:=HB1.out.size;go_loopw [5,14] (fun v i wr=>∃(k:Nat) (vg:Value) (X:List Pl) (gk:ByteArray→Option Pl),vg=v∧k≤R.length∧i=.int .i64 k∧X.length=k∧wr.ownsRow w2.heap.size 98 6 vg X.length (X.flatMap iq)∧eQ wr F M1 M2 M3 R gk (wF R)∧Nx V gk∧(∀(j:Nat) (p:Pl) z,X[j]?=some p→V[j]?=some z→zv V z.2 p)∧Km (fun b=>b=M2) w2 wr) (fun _ i _=>R.length - (intOf i).toNat)
 case atStart=>exact⟨0,_,[],_,rfl,by omega,rfl,rfl,PS _ _ _ _,HC2.out,fun k p h=>(by cases h),fun j p z h=>(by simp at h),Km.refl _ _⟩
 case round=>
  obtain⟨k,vg,X,gk,rfl,hk,rfl,rfl,hrow,hC,hG,hX,hK⟩:=hrel;have hzr:=hK.size;have hM1:=HC2.out.s.lt;have hM2:=HC2.out.p.lt;have hM3:=HC2.out.f.lt;have hFl:=am HC2.out.box;by_cases hlt:X.length<R.length
  ·obtain⟨x,hx⟩:∃x,R[X.length]?=some x:=⟨R[X.length],PT hlt⟩;obtain⟨ad,rfl,hadl,c0,c1,c2,c3,c4,c5,c6,c7,c8⟩:=(HR2.out.km hK (Po _) (fun ad e=>by have:=(a1 ad e);omega)) X.length x hx;have hi1:(X.length:Int)< (R.length:Int):=by omega
   have hxV:ag oS V (aj x)=some x:=HV.out.mem.1 (HRV.out.1▸Pv hx);have hxv:=(HV.out.get hxV).2;have bn:=zB wr (.cells (SA x) 93);have nn:=Up wr (.cells (SA x) 93);have HP:=zH (ET (hC.below bn) HV.out HR.out HA.out hG hxv hxV (by have:=HRV.out.2;omega));have HX:=zH hx;have HXX:=zH hX;have HK:=zH (hK.trans (Km.of_below _ bn));have HRW:=zH (au hrow bn);have hrl:=fun k=>hrow.lt k;have y0:=aa nn;clear hx hC hG hX hrow hxV hxv hK;go_wp2_with (first |((with_reducible refine(HP.out).mono ?_);rintro e5 w5 ⟨p,gk',rfl,hp,hC5,hG5,k5⟩;have row5:=bP HRW.out (fun b e=>k5.block b (HRW.out.lt b e).2 (fun hf=>by have:=(hrl b e).1;omega));have z5:=Pt bn.size k5.size) |(at_builtin;(refine aM rfl _ _ 80 rfl w2.heap.size 98 i0 (.agg PZ) 6 48 Sn HI.out.1 HI.out.2.1 HI.out.2.2.1 HI.out.2.2.2 rfl (by decide) vg X.length _ rfl (row5.alloc _) ⟨w5.heap.size,0,none⟩ 1 1 (iq p) rfl rfl (bj w5 _ _ _ (by simp)) (by simp[iq,Value.oneCell']) (by unfold maxLen;omega) (by omega) (by simp;omega) ?_);intro v7 w7 hr7 hg7 hd7));have ba:=zB w5 (.cells (iq p).toArray 98);have kg:Km (fun b=>w2.heap.size≤b) (w5.alloc (.cells (iq p).toArray 98)) w7:=⟨hg7.os,hg7.tape,hg7.output,hg7.size,fun c hc hn=>hg7.block c hc (fun e=>hn (hrl c e.symm).1)⟩;have C7:=(hC5.below ba).km kg (by omega) (by omega) (by omega) (by omega);have K7:=(HK.out.trans (k5.trans (Km.of_below _ ba))).trans' kg fun c hc e=>by omega
   refine⟨⟨X.length+1,_,X++[p],gk',rfl,by omega,by go_num,by simp,by simpa using hr7,C7,hG5,fun j q z hq hz=>?_,K7⟩,by simp[intOf]<;>omega⟩;rcases Nat.lt_trichotomy j X.length with h |h |h
   ·rw[VM h]at hq;exact HXX.out j q z hq hz
   ·subst h;rw[Vg (Po _),Nat.sub_self]at hq;cases hq;have h1:=HX.out;rw[HRV.out.1,UT,hz]at h1;cases h1;exact hp
   ·have:=(Qh.1 hq).1;rw[Pu,U5]at this;omega
  ·obtain e:X.length=R.length:=by omega
   go_wp2_with fail;go_ret;exact⟨_,X,rfl,aI hrow z2,Ki (by rw[e];exact HRV.out.2) hX,HB2.out.trans (hK.below (fun b hb e=>by omega) z2)⟩
end
