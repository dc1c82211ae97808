/- For WholeGone: contracts of functions and plain laws. -/
import Derived.Test.YtfgfbacnkpeneaaGreatDoorZBq
import Derived.Test.YtfgfbacnkpeneaaGreatDoorZBs
set_option maxRecDepth 100000
set_option maxHeartbeats 4000000
set_option linter.unusedVariables false
set_option linter.unusedSimpArgs false
namespace Go.Proofs.YtfgfbacnkpeneaaGreatDoor
open Go.Proofs.Tryz Go.ChangeShapes Go.WideShapes Go.ChangeAt Go.RowKit Go.Deep AvlP BigP
theorem NQ{P:Prop}(h:P:=by
 (with_reducible refine(HD.out _ b8').mono ?_);rintro e9 w9 ⟨⟨v9,rfl⟩,k9,own9,cs9,D9⟩;have n9:=k9.at n8 (fun hf=>by rcases hf with e2 |e2<;>omega);go_wp2_with fail;(refine zu hK n9 ?_;clear hK K;try simp only[zp]);(refine ze ?_);go_wp2_with fail;exact⟨⟨k+1,by omega,by go_num,own9,cs9,by rw[HTK.out];exact D9⟩,by simp[intOf];omega⟩):P:=h
theorem N8{P:Prop}(h:P:=by
 generalize w5.heap.size=g11 at n6 hle⊢;exact HG g11 w6 ⟨S6,n6,hle⟩):P:=h
theorem Un{P:Prop}(h:P:=by
 (refine zh S6 0 1 11 ?_;simp only[zd];((iterate 1 (refine zU ?_;simp only[zp]));refine ac ?_));(refine ze ?_);exact HG _ _ ⟨S6,n6,S4.size⟩):P:=h
theorem OX{P:Prop}(h:P:=by
 rcases hf with e |e
 ·rw[e,oB]at h0;omega
 ·omega):P:=h
section
open Go.Shelf
section
variable{own:Nat→Nat}{b:Nat}{w w':World}{B q M:Nat}{cs:Array Value}{ty:TypeId}{V V':List (ByteArray×Sp)}
theorem LU(hV:aJ V):∀t∈mf V,jP t:=fun t ht=>by
 unfold mf at ht;obtain⟨x,hx,hm⟩:=SV.1 ht;have hxv:=(hV.get (hV.mem.1 hx)).2;unfold Bh at hm;cases hs:nt V (kk x.tr x.pa)with
 |none=>rw[hs]at hm;cases hm
 |some f=>
  rw[hs]at hm;cases hm;have h1:=lR hV _ _ hs;have h2:=hxv.few.1;exact⟨by show f.size≤9223372036854775807;omega,by show x.sv.size≤9223372036854775807;omega⟩
theorem CI(h:gM own b w B q cs ty M V)(hV:aJ V)(hl:V.length≤40000):
  Calls prog 37 #[.pointer (some ⟨B,q,none⟩)] w fun e w'=>∃v O,e=.returned v∧w'.ownsRow w.heap.size 173 3 v O.length (O.flatMap tu)∧oU (mf V) O∧Below w.heap.size w w':=by
 obtain⟨p0,p1,p2,S,A,C,h1,h2,h3,h4⟩:=h;exact LS (fun _=>rfl) (LU hV) (by have:=CJ V;omega) ((aa h1.box (q+6)).trans h1.c6) h1.mp
theorem FK(hV:aJ V')(hg:∀x∈V'.map (·.2),x.gn=false):kO [] V' [] (V'.map (·.2)) where
 o:=fI
 i:=hV.setL
 od:=fun x hx=>by cases hx
 id:=hg
 a:=fun x hx=>by cases hx
 there:=fun x hx=>by cases hx
 new:=fun x hx=>.inl rfl
 v:=fI
 v':=hV
 gi:=fun x hx=>hV.mem.1 hx
 go:=fun x hx=>by cases hx
 gr:=fun k hk=>by
  cases hg2:ag oS V' k with
  |none=>rfl
  |some x=>
   obtain⟨e,_⟩:=hV.get hg2;exact absurd e.symm (hk x (by rw[PQ];exact hV.mem.2 (by rw[←e];exact hg2)))
theorem Gw{l:List Sp}(hl:∀x∈l,x.In):kO [] (cB (av l)) [] (bF (aA l)):=by
 have h:=aG hl;have:=FK (gW h) fun x hx=>by rw[jU]at hx;exact(bC.1 hx).2
 rwa [jU]at this
theorem J9(A:Option Addr)(c:Nat)(l:List Sp)(hl:∀x∈l,x.In)(hm:l.length≤20000)(w:World)(hr:cm w w.heap.size A l):
  Calls prog 43 #[.slice A l.length c] w fun e w'=>∃v O,e=.returned v∧w'.ownsRow w.heap.size 173 3 v O.length (O.flatMap tu)∧oU (mf (cB (av l))) O∧Below w.heap.size w w':=by
 have b0:=zB w (.cells #[.pointer none,.int .i64 0,.pointer none,.int .i64 0,.pointer none,.int .i64 0,.map none] 68);have n0:=Up w (.cells #[.pointer none,.int .i64 0,.pointer none,.int .i64 0,.pointer none,.int .i64 0,.map none] 68);have hss:(aA l).length≤l.length:=by
  exact Oi
 have hll:(bF (aA l)).length≤(aA l).length:=Qc _ _;have hll2:(cB (av l)).length≤20000:=by
  have h1:(cB (av l)).length=(bF (aA l)).length:=by rw[show aA l=(av l).map (·.2)from rfl,←jU,Ur]
  omega
 have HT:=zH (Gw hl);have HS:=zH (fun w1 (b:Below w.heap.size w w1)=>fy A c l hl (by omega) w1 ((hr.below b).more b.size));have HAL:=zH (fun(w1:World) vi (Bi:Nat) (hi:w1.ownsRow Bi 93 9 vi (aA l).length ((aA l).flatMap bg))=>gS (vo:=.slice none 0 0) (lo:=[]) (B:=0) (PS _ _ _ _) hi (by simp) (by omega));generalize cB (av l)=V' at HT hll2⊢;generalize bF (aA l)=R at HT HAL hll⊢;generalize aA l=S at HS HAL hss hll;have HB0:=zH b0;have HN0:=zH n0;clear hr b0 n0;go_enter func43,ntmps43;go_wp2_with (first |(go_at_call 26;(with_reducible refine(HS.out _ HB0.out).mono ?_);rintro e w1 ⟨vi,rfl,o1,b1⟩;obtain⟨iA,ic,rfl⟩:=an o1;have B1:=ah b1 HB0.out) |(go_at_call 53;(with_reducible refine(HAL.out _ _ _ o1).mono ?_);rintro e w2 ⟨uo,ui,rfl,o0,o2,b2⟩;obtain⟨uA,uc,rfl⟩:=an o2;obtain⟨oA,oc,rfl⟩:∃oA oc,uo=.slice oA 0 oc:=an (by assumption)));have z1:w.heap.size<w1.heap.size:=by have:=am (af HN0.out b1);exact this
 have z2:=b2.size;have n2:=af (af HN0.out b1) b2;obtain⟨_,_,er,hr2,_,_,hat⟩:=bE o2;cases er;have hB2:=ah b2 B1;have HZ:=zH (qg (own:=fun _=>0) (b:=1) (B:=w.heap.size) (q:=0) ⟨n2,rfl,rfl,rfl,rfl,rfl,rfl,rfl,fun _ _=>rfl,.inl (by decide),by decide⟩ HT.out oA uA oc uc (by omega) ⟨hr2,fun ad e=>⟨rfl,by have:=hat ad e;omega,(hat ad e).2⟩⟩);have HB2:=zH hB2;clear hr2 hat o0 o2 b1 b2 B1 n2 HS HAL hB2;go_wp2_with (go_at_call 88;(with_reducible refine(HZ.out).mono ?_);rintro e w3 ⟨rfl,M,own3,cs3,h3,n3,e3,k3⟩);have hb3:Below w.heap.size w w3:=HB2.out.trans (k3.below (fun b hb hf=>hf.elim (fun e=>by omega) (fun e=>absurd e.1 (by simp))) (by omega));have HTD:=zH (CI h3 HT.out.v' (by omega));go_wp2_with (go_at_call 37;(with_reducible refine(HTD.out).mono ?_);rintro e w4 ⟨v,O,rfl,o4,i4,b4⟩);go_ret;exact⟨_,O,rfl,aI o4 hb3.size,i4,ah b4 hb3⟩
end
end
section
open PlcP
section
variable{own own':Nat→Nat}{b t tm th hb tM tD tF:Nat}{w w':World}{B q M n:Nat}{cs cs':Array Value}{ty:TypeId}{p:Option Addr}{F:Nat→Prop}
structure fU(F:Nat→Prop)(own own':Nat→Nat)(w w':World)(B:Nat)(cs cs':Array Value)(ty:TypeId)(q n:Nat):Prop where
 b:w'.heap[B]?=some (.cells cs' ty (0,0))
 c:∀j,q≤j→j<q+n→cs'[j]?=cs[j]?
 k:Km F w w'
 e:aO own own' w
 o:Ow own' w'
theorem fU.at(s:fU F own own' w w' B cs cs' ty q n){i:Nat}{v:Value}(h:cs[q+i]?=some v)(hi:i<n):cs'[q+i]?=some v:=(s.c (q+i) (by omega) (by omega)).trans h
theorem fU.at0(s:fU F own own' w w' B cs cs' ty q n){v:Value}(h:cs[q]?=some v)(hi:0<n):cs'[q]?=some v:=(s.c q (by omega) (by omega)).trans h
theorem fU.sub(s:fU F own own' w w' B cs cs' ty q n){q' n':Nat}(h1:q≤q')(h2:q'+n'≤q+n):fU F own own' w w' B cs cs' ty q' n':=⟨s.b,fun j h3 h4=>s.c j (by omega) (by omega),s.k,s.e,s.o⟩
theorem aV{q' n':Nat}(hb:w'.heap[B]?=some (.cells cs' ty (0,0)))(hn:aT q' n' cs cs')(hq:q+n≤q'∨q'+n'≤q)(hk:Km F w w')(he:aO own own' w)(ho:Ow own' w'):fU F own own' w w' B cs cs' ty q n:=
 ⟨hb,fun j h1 h2=>hn.far j (by omega),hk,he,ho⟩
theorem bD.still{L:List (Int×Int)}{all:Int}(h:bD own t w B q cs ty p L all)(s:fU F own own' w w' B cs cs' ty q 3)(hf:∀c,c<w.heap.size→own c=t→¬F c):bD own' t w' B q cs' ty p L all:=
 ⟨s.b,s.at0 h.c0 (by decide),s.at h.c1 (by decide),s.at h.c2 (by decide),h.tr.kmE s.k hf s.e,s.o,by rw[s.e B (am h.box)];exact h.n1⟩
theorem kq.still{P:List Pl}(h:kq own tM tD tF w B q cs ty P)(s:fU F own own' w w' B cs cs' ty q 8)(hf:∀c,c<w.heap.size→own c=tM∨own c=tD∨own c=tF→¬F c):kq own' tM tD tF w' B q cs' ty P:=by
 have s1:=s.sub (q':=q+2) (n':=3) (by omega) (by omega);have s2:=s.sub (q':=q+5) (n':=3) (by omega) (by omega);have f1:∀c,c<w.heap.size→own c=tD→¬F c:=fun c hc e=>hf c hc (.inr (.inl e));have f2:∀c,c<w.heap.size→own c=tF→¬F c:=fun c hc e=>hf c hc (.inr (.inr e));rcases h with⟨M,N,pD,pF,LD,LF,h1,h2,h3,h⟩ |⟨h1,h2,h3,h4,h5⟩
 ·have l1:=h.mkd.lt;have l2:=h.mcl.lt;exact .inl ⟨M,N,pD,pF,LD,LF,(s.e M l1).trans h1,(s.e N l2).trans h2,h3,s.at0 h.c0 (by decide),s.at h.c1 (by decide),h.mkd.kp s.k (hf M l1 (.inl h1)),h.mcl.kp s.k (hf N l2 (.inl h2)),h.bd.still s1 f1,h.bf.still s2 f2,h.td,h.tf⟩
 ·exact .inr ⟨h1,s.at0 h2 (by decide),s.at h3 (by decide),h4.still s1 f1,h5.still s2 f2⟩
theorem mL.still{A:List (ByteArray×Int)}{C:List (ByteArray×Unit)}{P:List (ByteArray×Pl)}(h:mL own b w B q cs ty A C P)(s:fU F own own' w w' B cs cs' ty q 6)(hf:∀c,c<w.heap.size→b≤own c→own c<b+5→¬F c):mL own' b w' B q cs' ty A C P:=by
 obtain⟨p1,p2,p3,h⟩:=h;exact⟨p1,p2,p3,s.b,s.at0 h.k0 (by decide),s.at h.k1 (by decide),s.at h.k2 (by decide),s.at h.k3 (by decide),s.at h.k4 (by decide),s.at h.k5 (by decide),h.tA.kmE s.k (fun c hc e=>hf c hc (by omega) (by omega)) s.e,h.tC.kmE s.k (fun c hc e=>hf c hc (by omega) (by omega)) s.e,h.tP.kmE s.k (fun c hc e=>hf c hc (by omega) (by omega)) s.e,s.o,by rw[s.e B (am h.bB)];exact h.nB⟩
theorem cH.still{R:List Sp}(h:cH own tm th hb w B q cs ty R)(s:fU F own own' w w' B cs cs' ty q 2)(hf:∀c,c<w.heap.size→own c=tm∨own c=th∨(hb≤own c∧own c % 2=hb % 2)→¬F c):cH own' tm th hb w' B q cs' ty R:=by
 obtain⟨p,L,D,h,h2,h3⟩:=h;refine⟨p,L,D,⟨s.b,s.at0 h.c0 (by decide),s.at h.c1 (by decide),h.tr.kmE s.k (fun c hc e=>hf c hc (.inl e)) s.e,s.o,by rw[s.e B (am h.box)];exact h.oB,fun k v hv=>?_,h.lack,h.inj⟩,h2,h3⟩;obtain⟨i1,i2⟩:=h.held k v hv;have hlv:=i2.lt;exact⟨by rw[s.e v hlv];exact i1,i2.km s.k (hf v hlv (.inr (.inl i1))) (fun c hc e=>hf c hc (.inr (.inr ⟨by omega,by omega⟩))) s.e s.o⟩
theorem gM.still{V:List (ByteArray×Sp)}(h:gM own b w B q cs ty M V)(s:fU F own own' w w' B cs cs' ty q 7)(hf:∀c,c<w.heap.size→b≤own c→own c≤b+3→¬F c):gM own' b w' B q cs' ty M V:=by
 obtain⟨p0,p1,p2,S,A,C,h,h2,h3,h4⟩:=h;have hlM:=h.mp.lt;have oM:=h.oM;exact⟨p0,p1,p2,S,A,C,⟨s.b,s.at0 h.c0 (by decide),s.at h.c1 (by decide),s.at h.c2 (by decide),s.at h.c3 (by decide),s.at h.c4 (by decide),s.at h.c5 (by decide),s.at h.c6 (by decide),h.tS.kmE s.k (fun c hc e=>hf c hc (by omega) (by omega)) s.e,h.tA.kmE s.k (fun c hc e=>hf c hc (by omega) (by omega)) s.e,h.tC.kmE s.k (fun c hc e=>hf c hc (by omega) (by omega)) s.e,
  h.mp.kp s.k (hf M hlM (by omega) (by omega)),(s.e M hlM).trans oM,s.o,by rw[s.e B (am h.box)];exact h.nB,h.b0⟩,h2,h3,h4⟩
theorem BK.still(h:BK own b w B q cs ty)(s:fU F own own' w w' B cs cs' ty q 7):BK own' b w' B q cs' ty:=
 ⟨s.b,s.at0 h.c0 (by decide),s.at h.c1 (by decide),s.at h.c2 (by decide),s.at h.c3 (by decide),s.at h.c4 (by decide),s.at h.c5 (by decide),s.at h.c6 (by decide),s.o,by rw[s.e B (am h.box)];exact h.nB,h.b0⟩
theorem dZ.still{R:List Sp}(h:dZ own t w B q cs ty R)(s:fU F own own' w w' B cs cs' ty q 2)(hf:∀c,c<w.heap.size→own c=t→¬F c):dZ own' t w' B q cs' ty R:=by
 obtain⟨p,L,h⟩:=h;exact⟨p,L,s.b,s.at0 h.c0 (by decide),s.at h.c1 (by decide),h.tr.kmE s.k hf s.e,s.o,by rw[s.e B (am h.box)];exact h.oB,h.tl⟩
def uR(own:Nat→Nat)(b:Nat)(w:World)(cs:Array Value)(V:List (ByteArray×Sp)):Prop:=∃p,cs[0]?=some (.pointer p)∧cs[1]?=some (.int .i64 (V.length:Nat))∧dm AvS.nd oS own b w p V
theorem uR.still{V:List (ByteArray×Sp)}(h:uR own b w cs V)(s:fU F own own' w w' B cs cs' ty 0 2)(hf:∀c,c<w.heap.size→own c=b→¬F c):uR own' b w' cs' V:=by
 obtain⟨p,h0,h1,h2⟩:=h;exact⟨p,s.at0 h0 (by decide),(s.c 1 (by omega) (by omega)).trans h1,h2.kmE s.k hf s.e⟩
def IF(own:Nat→Nat)(b:Nat)(w:World)(B q:Nat)(cs:Array Value)(ty:TypeId)(V:List (ByteArray×Sp)):Bool→Prop
 |true=>∃M,gM own b w B q cs ty M V
 |false=>V=[]∧BK own b w B q cs ty
structure P5(own:Nat→Nat)(b h:Nat)(w:World)(B:Nat)(cs:Array Value)(ty:TypeId)(A:List (ByteArray×Int))(C:List (ByteArray×Unit))(P:List (ByteArray×Pl))(X:List Pl)(R:List Sp)(V:List (ByteArray×Sp))(R':List Sp)(k:Bool):Prop where
 f:mL own (b+1) w B 2 cs ty A C P
 s:kq own (b+6) (b+7) (b+8) w B 8 cs ty X
 o:cH own (b+9) (b+10) h w B 16 cs ty R
 e:IF own (b+11) w B 18 cs ty V k
 n:dZ own (b+15) w B 25 cs ty R'
def sL(own:Nat→Nat)(b h:Nat)(w:World)(B:Nat)(cs:Array Value)(ty:TypeId)(V:List (ByteArray×Sp))(k:Bool):Prop:=
 ∃A C P,P5 own b h w B cs ty A C P (P.map (·.2)) (V.map (·.2)) V (V.map (·.2)) k∧Fe A C P∧∀k,ag oS A k=(ag oS V k).map (·.pa)
def VF(own:Nat→Nat)(b h B c:Nat):Prop:=c=B∨(b≤own c∧own c≤b+15)∨(h≤own c∧own c % 2=h % 2)
structure VT(b h:Nat):Prop where
 bp:0<b
 hp:b+15<h
structure kW(own:Nat→Nat)(b h:Nat)(w:World)(B:Nat)(cs:Array Value)(ty:TypeId)(V:List (ByteArray×Sp))(k:Bool):Prop where
 box:w.heap[B]?=some (.cells cs ty (0,0))
 ow:Ow own w
 oB:own B=0
 v:aJ V
 r:uR own b w cs V
 p:sL own b h w B cs ty V k
def ko(own:Nat→Nat)(b h:Nat)(w:World)(B:Nat)(ty:TypeId)(V:List (ByteArray×Sp))(k:Bool):Prop:=∃cs,kW own b h w B cs ty V k
variable{own1 own2:Nat→Nat}{w1 w2:World}{cs1 cs2:Array Value}{h:Nat}{V Ve:List (ByteArray×Sp)}{A A':List (ByteArray×Int)}{C C':List (ByteArray×Unit)}{P P':List (ByteArray×Pl)}{X X':List Pl}{R R' R2:List Sp}{k0:Bool}
theorem IF.still(h:IF own b w B q cs ty V k0)(s:fU F own own' w w' B cs cs' ty q 7)(hf:∀c,c<w.heap.size→b≤own c→own c≤b+3→¬F c):IF own' b w' B q cs' ty V k0:=match k0,h with
 |true,⟨M,e⟩=>⟨M,e.still s hf⟩
 |false,⟨e1,e⟩=>⟨e1,e.still s⟩
def PF(own:Nat→Nat)(b h B c:Nat):Prop:=c=B∨(b+1≤own c∧own c≤b+15)∨(h≤own c∧own c % 2=h % 2)
theorem PF.vf{c:Nat}(H:PF own b h B c):VF own b h B c:=by
 unfold PF at H;unfold VF;omega
theorem PF.ext{c:Nat}(he:aO own own' w)(hlt:c<w.heap.size)(H:PF own' b h B c):PF own b h B c:=by
 unfold PF at*
 rwa [he c hlt]at H
structure PP(own own':Nat→Nat)(b h:Nat)(w w':World)(B:Nat)(cs cs':Array Value)(ty:TypeId):Prop where
 box:w'.heap[B]?=some (.cells cs' ty (0,0))
 near:aT 2 25 cs cs'
 ext:aO own own' w
 ow:Ow own' w'
 km:Km (PF own b h B) w w'
theorem VF.none{c:Nat}(hT:VT b h)(h0:own c=0)(hne:c≠B):¬VF own b h B c:=fun hf=>by
 have:=hT.bp;have:=hT.hp;unfold VF at hf;rw[h0]at hf;omega
theorem PF.none{c:Nat}(hT:VT b h)(h0:own c=0)(hne:c≠B):¬PF own b h B c:=fun hf=>VF.none hT h0 hne hf.vf
theorem PP.trans(D:PP own own1 b h w w1 B cs cs1 ty)(E:PP own1 own2 b h w1 w2 B cs1 cs2 ty):PP own own2 b h w w2 B cs cs2 ty:=
 ⟨E.box,D.near.trans E.near,D.ext.trans E.ext D.km.size,E.ow,D.km.trans' E.km fun _ hc hf=>hf.ext D.ext hc⟩
theorem ru(hB:w.heap[B]?=some (.cells cs ty (0,0)))(ho:Ow own w)(hb:Below w.heap.size w w'):PP own own b h w w' B cs cs ty:=
 ⟨af hB hb,aT.refl _ _ _,aO.refl _ _,ho.mono hb.size,Km.of_below _ hb⟩
theorem PP.below(D:PP own own1 b h w w1 B cs cs1 ty)(hb:Below w1.heap.size w1 w2):PP own own1 b h w w2 B cs cs1 ty:=D.trans (ru D.box D.ow hb)
theorem P5.still(H:P5 own b h w B cs ty A C P X R V R' k0)(s:fU F own own' w w' B cs cs' ty 2 25)(hf:∀c,c<w.heap.size→(b+1≤own c∧own c≤b+15)∨(h≤own c∧own c % 2=h % 2)→¬F c):P5 own' b h w' B cs' ty A C P X R V R' k0:=by
 have g:∀c,c<w.heap.size→b+1≤own c→own c≤b+15→¬F c:=fun c hc h1 h2=>hf c hc (.inl ⟨h1,h2⟩);refine⟨H.f.still (s.sub (by decide) (by decide)) (fun c hc h1 h2=>g c hc (by omega) (by omega)),H.s.still (s.sub (by decide) (by decide)) (fun c hc e=>g c hc (by omega) (by omega)),
  H.o.still (s.sub (by decide) (by decide)) (fun c hc e=>?_),H.e.still (s.sub (by decide) (by decide)) (fun c hc h1 h2=>g c hc (by omega) (by omega)),H.n.still (s.sub (by decide) (by decide)) (fun c hc e=>g c hc (by omega) (by omega))⟩
 rcases e with e |e |e
 ·exact g c hc (by omega) (by omega)
 ·exact g c hc (by omega) (by omega)
 ·exact hf c hc (.inr e)
theorem P5.below(H:P5 own b h w B cs ty A C P X R V R' k0)(hB:w.heap[B]?=some (.cells cs ty (0,0)))(ho:Ow own w)(hb:Below w.heap.size w w'):P5 own b h w' B cs ty A C P X R V R' k0:=
 H.still (F:=fun _=>False) ⟨af hB hb,fun _ _ _=>rfl,Km.of_below _ hb,aO.refl _ _,ho.mono hb.size⟩ fun _ _ _=>id
theorem mL.box(h:mL own b w B q cs ty A C P):w.heap[B]?=some (.cells cs ty (0,0))∧Ow own w:=by
 obtain⟨_,_,_,h⟩:=h;exact⟨h.bB,h.ow⟩
theorem cH.box(h:cH own tm th hb w B q cs ty R):w.heap[B]?=some (.cells cs ty (0,0)):=by
 obtain⟨_,_,_,h,_⟩:=h;exact h.box
theorem P5.forN(H:P5 own b h w B cs ty A C P X R V R' k0)(hT:VT b h)(oB:own B=0)(f:mL own1 (b+1) w' B 2 cs1 ty A' C' P')(n:aT 2 6 cs cs1)(k:Kp (FF own (b+1) B) w w')(e:aO own own1 w):P5 own1 b h w' B cs1 ty A' C' P' X R V R' k0∧PP own own1 b h w w' B cs cs1 ty:=by
 have hh:=hT.hp;obtain⟨hB,ho⟩:=f.box;have hF:∀c,(b+6≤own c)→¬FF own (b+1) B c:=fun c h1 hf=>by
  unfold FF at hf;rcases hf with e |e
  ·rw[e,oB]at h1;omega
  ·omega
 refine⟨⟨f,H.s.still (aV hB n (by decide) k.toKm e ho) fun c _ e=>hF c (by omega),H.o.still (aV hB n (by decide) k.toKm e ho) fun c _ e=>hF c (by omega),H.e.still (aV hB n (by decide) k.toKm e ho) fun c _ e1 e2=>hF c (by omega),H.n.still (aV hB n (by decide) k.toKm e ho) fun c _ e=>hF c (by omega)⟩,
  hB,n.wide (by decide) (by decide),e,ho,k.toKm.mono fun c _ hf=>?_⟩
 unfold FF at hf;unfold PF;omega
theorem kq.box(h:kq own tM tD tF w B q cs ty X):w.heap[B]?=some (.cells cs ty (0,0))∧Ow own w:=by
 rcases h with⟨M,N,pD,pF,LD,LF,h1,h2,h3,h⟩ |⟨h1,h2,h3,h4,h5⟩
 ·exact⟨h.bd.box,h.bd.ow⟩
 ·exact⟨h4.box,h4.ow⟩
theorem P5.shp(H:P5 own b h w B cs ty A C P X R V R' k0)(hT:VT b h)(oB:own B=0)(D:kq own' (b+6) (b+7) (b+8) w' B 8 cs' ty X')(n:aT 8 8 cs cs')(e:aO own own' w)(k:Km (fun c=>c=B∨own c=b+6∨own c=b+7∨own c=b+8) w w'):P5 own' b h w' B cs' ty A C P X' R V R' k0∧PP own own' b h w w' B cs cs' ty:=by
 have hh:=hT.hp;obtain⟨hB,ho⟩:=D.box;have hF:∀c,0<own c→own c≤b+5∨b+9≤own c→¬(c=B∨own c=b+6∨own c=b+7∨own c=b+8):=fun c h0 h1 hf=>by
  exact OX
 refine⟨⟨H.f.still (aV hB n (by decide) k e ho) fun c _ e1 e2=>hF c (by omega) (by omega),D,H.o.still (aV hB n (by decide) k e ho) fun c _ e=>hF c (by omega) (by omega),H.e.still (aV hB n (by decide) k e ho) fun c _ e1 e2=>hF c (by omega) (by omega),H.n.still (aV hB n (by decide) k e ho) fun c _ e=>hF c (by omega) (by omega)⟩,
  hB,n.wide (by decide) (by decide),e,ho,k.mono fun c _ hf=>?_⟩
 unfold PF;omega
theorem P5.ops(H:P5 own b h w B cs ty A C P X R V R' k0)(hT:VT b h)(oB:own B=0)(D:dv own (b+9) (b+10) h w w' B 16 cs ty R2):∃own' cs',P5 own' b h w' B cs' ty A C P X R2 V R' k0∧PP own own' b h w w' B cs cs' ty:=by
 obtain⟨⟨own1,cs1,o,n,e⟩,k⟩:=D;have hh:=hT.hp;have hB:=o.box;have ho:=o.ow;have hF:∀c,0<own c→own c≤b+8∨(b+11≤own c∧own c<h)→¬mJ own (b+9) (b+10) h B c:=fun c h0 h1 hf=>by
  unfold mJ at hf;exact OX
 refine⟨own1,cs1,⟨H.f.still (aV hB n (by decide) k e ho) fun c _ e1 e2=>hF c (by omega) (by omega),H.s.still (aV hB n (by decide) k e ho) fun c _ e=>hF c (by omega) (by omega),o,H.e.still (aV hB n (by decide) k e ho) fun c _ e1 e2=>hF c (by omega) (by omega),H.n.still (aV hB n (by decide) k e ho) fun c _ e=>hF c (by omega) (by omega)⟩,
  hB,n.wide (by decide) (by decide),e,ho,k.mono fun c _ hf=>?_⟩
 unfold mJ at hf;unfold PF;omega
theorem P5.edg(H:P5 own b h w B cs ty A C P X R V R' k0)(hT:VT b h)(oB:own B=0)(D:gM own' (b+11) w' B 18 cs' ty M Ve)(n:aT 18 7 cs cs')(e:aO own own' w)(k:Km (mh own (b+11) B) w w'):P5 own' b h w' B cs' ty A C P X R Ve R' true∧PP own own' b h w w' B cs cs' ty:=by
 have hh:=hT.hp;have ho:=D.ow;have hB:=D.box;have hF:∀c,0<own c→own c≤b+10∨b+15≤own c→¬mh own (b+11) B c:=fun c h0 h1 hf=>by
  unfold mh at hf;exact OX
 refine⟨⟨H.f.still (aV hB n (by decide) k e ho) fun c _ e1 e2=>hF c (by omega) (by omega),H.s.still (aV hB n (by decide) k e ho) fun c _ e=>hF c (by omega) (by omega),H.o.still (aV hB n (by decide) k e ho) fun c _ e=>hF c (by omega) (by omega),⟨M,D⟩,H.n.still (aV hB n (by decide) k e ho) fun c _ e=>hF c (by omega) (by omega)⟩,
  hB,n.wide (by decide) (by decide),e,ho,k.mono fun c _ hf=>?_⟩
 unfold mh at hf;unfold PF;omega
theorem P5.ent(H:P5 own b h w B cs ty A C P X R V R' k0)(hT:VT b h)(oB:own B=0)(D:bR own (b+15) w w' B 25 cs ty R2):∃own' cs',P5 own' b h w' B cs' ty A C P X R V R2 k0∧PP own own' b h w w' B cs cs' ty:=by
 obtain⟨⟨own1,cs1,⟨p,L,o⟩,n,e⟩,k⟩:=D;have hh:=hT.hp;have hB:=o.box;have ho:=o.ow;have hF:∀c,0<own c→own c≠b+15→¬wy own (b+15) B c:=fun c h0 h1 hf=>by
  rcases hf with e |e
  ·rw[e,oB]at h0;omega
  ·exact h1 e
 refine⟨own1,cs1,⟨H.f.still (aV hB n (by decide) k e ho) fun c _ e1 e2=>hF c (by omega) (by omega),H.s.still (aV hB n (by decide) k e ho) fun c _ e=>hF c (by omega) (by omega),H.o.still (aV hB n (by decide) k e ho) fun c _ e=>hF c (by omega) (by omega),H.e.still (aV hB n (by decide) k e ho) fun c _ e1 e2=>hF c (by omega) (by omega),⟨p,L,o⟩⟩,
  hB,n.wide (by decide) (by decide),e,ho,k.mono fun c _ hf=>?_⟩
 unfold wy at hf;unfold PF;omega
theorem sL.still(H:sL own b h w B cs ty V k0)(s:fU F own own' w w' B cs cs' ty 2 25)(hf:∀c,c<w.heap.size→(b+1≤own c∧own c≤b+15)∨(h≤own c∧own c % 2=h % 2)→¬F c):sL own' b h w' B cs' ty V k0:=by
 obtain⟨A,C,P,H,h1,h2⟩:=H;exact⟨A,C,P,H.still s hf,h1,h2⟩
theorem kW.far(H:kW own b h w B cs ty V k0)(hk:Km F w w')(hf:∀c,c<w.heap.size→VF own b h B c→¬F c)(he:aO own own' w)(ho:Ow own' w'):kW own' b h w' B cs ty V k0:=by
 have hlB:=am H.box;have hb:=hk.at H.box (hf B hlB (.inl rfl));exact⟨hb,ho,(he B hlB).trans H.oB,H.v,H.r.still (B:=B) (ty:=ty) ⟨hb,fun _ _ _=>rfl,hk,he,ho⟩ (fun c hc e=>hf c hc (.inr (.inl ⟨by omega,by omega⟩))),H.p.still ⟨hb,fun _ _ _=>rfl,hk,he,ho⟩ (fun c hc e=>hf c hc (.inr (e.imp (fun e=>⟨by omega,e.2⟩) id)))⟩
theorem kW.below(H:kW own b h w B cs ty V k0)(hb:Below w.heap.size w w'):kW own b h w' B cs ty V k0:=H.far (Km.of_below (fun _=>False) hb) (fun _ _ _=>id) (aO.refl _ _) (H.ow.mono hb.size)
theorem ko.far(H:ko own b h w B ty V k0)(hk:Km F w w')(hf:∀c,c<w.heap.size→VF own b h B c→¬F c)(he:aO own own' w)(ho:Ow own' w'):ko own' b h w' B ty V k0:=by
 obtain⟨cs,H⟩:=H;exact⟨cs,H.far hk hf he ho⟩
theorem ko.below(H:ko own b h w B ty V k0)(hb:Below w.heap.size w w'):ko own b h w' B ty V k0:=by
 obtain⟨cs,H⟩:=H;exact⟨cs,H.below hb⟩
def qK:Array Value:=#[.pointer none,.int .i64 0,.pointer none,.int .i64 0,.pointer none,.int .i64 0,.pointer none,.int .i64 0,.map none,.map none,.pointer none,.int .i64 0,.int .i64 0,.pointer none,.int .i64 0,.int .i64 0,.pointer none,.int .i64 0,.pointer none,.int .i64 0,.pointer none,.int .i64 0,.pointer none,.int .i64 0,.map none,.pointer none,.int .i64 0]
theorem FE(hB:w.heap[B]?=some (.cells qK ty (0,0)))(ho:Ow own w)(oB:own B=0)(hT:VT b h):kW own b h w B qK ty [] false:=by
 have h1:=hT.bp;exact⟨hB,ho,oB,fI,⟨_,rfl,rfl,bM _ _ _ _ _⟩,⟨[],[],[],⟨⟨_,_,_,hB,rfl,rfl,rfl,rfl,rfl,rfl,bM _ _ _ _ _,bM _ _ _ _ _,bM _ _ _ _ _,ho,.inl (by omega)⟩,.inr ⟨rfl,rfl,rfl,⟨hB,rfl,rfl,rfl,bM _ _ _ _ _,ho,by omega⟩,⟨hB,rfl,rfl,rfl,bM _ _ _ _ _,ho,by omega⟩⟩,xA hB rfl rfl ho oB,⟨rfl,⟨hB,rfl,rfl,rfl,rfl,rfl,rfl,rfl,ho,.inl (by omega),by omega⟩⟩,yw hB rfl rfl ho (by omega)⟩,J2,fun _=>rfl⟩⟩
end
section
variable{own own':Nat→Nat}{b h:Nat}{w w':World}{B q:Nat}{cs cs':Array Value}{ty:TypeId}{V V':List (ByteArray×Sp)}{out inn:List Sp}{vo vi:Value}{A A':List (ByteArray×Int)}{C C':List (ByteArray×Unit)}
theorem yC{k0:Bool}(H:IF own b w B q cs ty V k0)(T:kO V V' out inn)(hl:V.length≤20000)(Ao Ai:Option Addr)(c1 c2:Nat)(hm:out.length≤20000)(hm':inn.length≤20000)(ho:pI own B w Ao out)(hi:pI own B w Ai inn):
  Calls prog 88 #[.pointer (some ⟨B,q,none⟩),.agg #[.slice Ao out.length c1,.slice Ai inn.length c2]] w fun e w'=>e=.returned (.int .i64 0)∧∃M own' cs',gM own' b w' B q cs' ty M V'∧aT q 7 cs cs'∧aO own own' w∧Km (mh own b B) w w':=by
 cases k0 with
 |true=>
  obtain⟨M,H⟩:=H;refine(yD H T hl Ao Ai c1 c2 hm hm' ho hi).mono ?_;rintro e w' ⟨rfl,⟨own1,cs1,h1,h2,h3⟩,k⟩;exact⟨rfl,M,own1,cs1,h1,h2,h3,k⟩
 |false=>
  obtain⟨rfl,H⟩:=H;obtain rfl:out=[]:=by
   cases out with
   |nil=>rfl
   |cons x r=>have:=T.there x (UI ..);cases this
  exact qg H T Ao Ai c1 c2 hm' hi
theorem GX(I:L7 A A' C' out inn)(T:kO V V' out inn)(hA:∀k,ag oS A k=(ag oS V k).map (·.pa))(k:ByteArray):ag oS A' k=(ag oS V' k).map (·.pa):=by
 by_cases h1:∃x∈inn,aj x=k
 ·obtain⟨x,hx,rfl⟩:=h1;rw[I.i x hx,T.gi x hx];rfl
 ·have h1':∀x∈inn,aj x≠k:=fun x hx e=>h1 ⟨x,hx,e⟩;by_cases h2:∃x∈out,aj x=k
  ·obtain⟨x,hx,rfl⟩:=h2;rw[I.o x hx h1',T.go x hx h1'];rfl
  ·have h3:∀x∈out++inn,aj x≠k:=fun x hx=>(Px.1 hx).elim (fun hx e=>h2 ⟨x,hx,e⟩) (h1' x);rw[I.r k h3,T.gr k h3];exact hA k
theorem nL{B1:Nat}{vo:Value}{out:List Sp}(hro:w.ownsRow B1 93 9 vo out.length (out.flatMap bg))(hwo:∀g,vo.ownBlock=some g→own g=0∧g≠B):∃A c,vo=.slice A out.length c∧pI own B w A out:=by
 obtain⟨A,c,rfl,hr,_,_,hat⟩:=bE hro;exact⟨A,c,rfl,hr,fun ad e=>by
  subst e;exact⟨(hwo ad.block rfl).1,(hwo ad.block rfl).2,(hat ad rfl).2⟩⟩
theorem pI.pp{A:Option Addr}{l:List Sp}(H:pI own B w A l)(hT:VT b h)(D:PP own own' b h w w' B cs cs' ty):pI own' B w' A l:=
 ⟨(H.rd.km D.km (Po _) fun ad e=>PF.none hT (H.at' ad e).1 (H.at' ad e).2.1).more D.km.size,fun ad e=>⟨(D.ext _ (H.at' ad e).2.2).trans (H.at' ad e).1,(H.at' ad e).2.1,Ut (H.at' ad e).2.2 D.km.size⟩⟩
theorem P5.conv{P:List (ByteArray×Pl)}{X X2:List Pl}{R R2 R' R3:List Sp}{k0:Bool}(H:P5 own b h w B cs ty A C P X R V R' k0)(h1:X.Perm X2)(h2:R.Perm R2)(h3:R'.Perm R3):P5 own b h w B cs ty A C P X2 R2 V R3 k0:=⟨H.f,H.s.perm h1,H.o.perm h2,H.e,H.n.perm h3⟩
structure IH(own own1:Nat→Nat)(b h:Nat)(w W:World)(B:Nat)(cs cs1:Array Value)(ty:TypeId)(A:List (ByteArray×Int))(P:List (ByteArray×Pl))(V:List (ByteArray×Sp))(out inn:List Sp)(As:Option Addr)(n1:Nat)(At:Option Addr)(n2:Nat)(A':List (ByteArray×Int))(C':List (ByteArray×Unit))(P':List (ByteArray×Pl))(go co R:List Pl)(k0:Bool):Prop where
 l1:n1=go.length
 l2:n2=co.length
 p:P5 own1 b h W B cs1 ty A' C' P' (P.map (·.2)) (V.map (·.2)) V (V.map (·.2)) k0
 d:PP own own1 b h w W B cs cs1 ty
 p1:(P.map (·.2)).Perm (go++R)
 p2:(P'.map (·.2)).Perm (co++R)
 f:Fe A' C' P'
 i:L7 A A' C' out inn
 r1:sK W As go
 r2:sK W At co
 a1:∀g,As=some ⟨g,0,none⟩→own1 g=0∧g≠B∧g<W.heap.size∧w.heap.size≤g
 a2:∀g,At=some ⟨g,0,none⟩→own1 g=0∧g≠B∧g<W.heap.size∧w.heap.size≤g
variable{own1:Nat→Nat}{w1:World}{cs1:Array Value}{P P':List (ByteArray×Pl)}{As At:Option Addr}{n1 n2:Nat}{go co R:List Pl}{k0:Bool}
theorem sK.below{A:Option Addr}{l:List Pl}(H:sK w A l)(hb:Below w.heap.size w w'):sK w' A l:=H.km (Km.of_below (fun _=>False) hb) fun _ _=>id
theorem IH.below(H:IH own own1 b h w w1 B cs cs1 ty A P V out inn As n1 At n2 A' C' P' go co R k0)(hb:Below w1.heap.size w1 w'):IH own own1 b h w w' B cs cs1 ty A P V out inn As n1 At n2 A' C' P' go co R k0:=
 ⟨H.l1,H.l2,H.p.below H.d.box H.d.ow hb,H.d.below hb,H.p1,H.p2,H.f,H.i,H.r1.below hb,H.r2.below hb,fun g e=>⟨(H.a1 g e).1,(H.a1 g e).2.1,Ut (H.a1 g e).2.2.1 hb.size,(H.a1 g e).2.2.2⟩,fun g e=>⟨(H.a2 g e).1,(H.a2 g e).2.1,Ut (H.a2 g e).2.2.1 hb.size,(H.a2 g e).2.2.2⟩⟩
theorem IH.base{w0:World}(H:IH own own1 b h w w1 B cs cs1 ty A P V out inn As n1 At n2 A' C' P' go co R k0)(D:PP own own b h w0 w B cs cs ty):IH own own1 b h w0 w1 B cs cs1 ty A P V out inn As n1 At n2 A' C' P' go co R k0:=
 ⟨H.l1,H.l2,H.p,D.trans H.d,H.p1,H.p2,H.f,H.i,H.r1,H.r2,fun g e=>⟨(H.a1 g e).1,(H.a1 g e).2.1,(H.a1 g e).2.2.1,Pt D.km.size (H.a1 g e).2.2.2⟩,fun g e=>⟨(H.a2 g e).1,(H.a2 g e).2.1,(H.a2 g e).2.2.1,Pt D.km.size (H.a2 g e).2.2.2⟩⟩
theorem IH.step{g:Nat}(hT:VT b h)(H:IH own own1 b h w w1 B cs cs1 ty A P V out inn As n1 At n2 A' C' P' go co R k0)(k:Km (fun c=>c=g) w1 w')(og:own1 g=0)(hg:g≠B)(hw:w.heap.size≤g)(h1:∀x,As=some ⟨x,0,none⟩→x≠g)(h2:∀x,At=some ⟨x,0,none⟩→x≠g):IH own own1 b h w w' B cs cs1 ty A P V out inn As n1 At n2 A' C' P' go co R k0:=by
 have hb:=k.at H.d.box (Qj hg);have ho:=H.d.ow.mono k.size;have hh:=hT.hp;exact⟨H.l1,H.l2,H.p.still ⟨hb,fun _ _ _=>rfl,k,aO.refl _ _,ho⟩ (fun c hc e e2=>by subst e2;omega),⟨hb,H.d.near,H.d.ext,ho,H.d.km.trans' k fun c hc e=>by omega⟩,H.p1,H.p2,H.f,H.i,H.r1.km k fun x e e2=>h1 x e e2,H.r2.km k fun x e e2=>h2 x e e2,
  fun g e=>⟨(H.a1 g e).1,(H.a1 g e).2.1,Ut (H.a1 g e).2.2.1 k.size,(H.a1 g e).2.2.2⟩,fun g e=>⟨(H.a2 g e).1,(H.a2 g e).2.1,Ut (H.a2 g e).2.2.1 k.size,(H.a2 g e).2.2.2⟩⟩
theorem GE(hF:Fe A C P)(hV:aJ V)(hA:∀k,ag oS A k=(ag oS V k).map (·.pa)):A.length=V.length:=by
 have:=congrArg List.length (qD hF.k.sa hV.srt fun k=>by rw[hA k];cases ag oS V k<;>simp)
 rwa [Ur,Ur]at this
theorem Hz(H:P5 own b h w B cs ty A C P (P.map (·.2)) (V.map (·.2)) V (V.map (·.2)) k0)(hbx:w.heap[B]?=some (.cells cs ty (0,0)))(oB:own B=0)(hT:VT b h)(hF:Fe A C P)(hA:∀k,ag oS A k=(ag oS V k).map (·.pa))(T:kO V V' out inn)(hl:V.length≤1000)(hm:out.length≤300)(hm':inn.length≤300)
  (B1 B2:Nat)(hro:w.ownsRow B1 93 9 vo out.length (out.flatMap bg))(hri:w.ownsRow B2 93 9 vi inn.length (inn.flatMap bg))(hwo:∀g,vo.ownBlock=some g→own g=0∧g≠B)(hwi:∀g,vi.ownBlock=some g→own g=0∧g≠B):
  Calls prog 108 #[.pointer (some ⟨B,2,none⟩),.agg #[vo,vi]] w fun e w'=>∃own1 cs1 As n1 c1 At n2 c2 n A' C' P' go co R,e=.returned (.tuple #[.agg #[.slice As n1 c1,.slice At n2 c2],.int .i64 n,.int .i64 0])∧IH own own1 b h w w' B cs cs1 ty A P V out inn As n1 At n2 A' C' P' go co R k0:=by
 refine(Bm H.f (by omega) hF T.o T.i T.a hm hm' (by rw[GE hF T.v hA];omega) T.od T.id (fun x hx=>by rw[hA,T.there x hx];rfl) (fun x hx=>(T.new x hx).imp (fun e=>by rw[hA,e];rfl) id) B1 B2 hro hri hwo hwi).mono ?_;rintro e w' ⟨vs,vt,n,A',C',P',go,co,R,rfl,o1,o2,p1,p2,f',i',own1,cs1,f,hn,k,e,hz⟩;obtain⟨As,c1,rfl,r1,a1⟩:=qz o1;obtain⟨At,c2,rfl,r2,a2⟩:=qz o2;obtain⟨q,d⟩:=H.forN hT oB f hn k e;have hBw:=am hbx;exact⟨own1,cs1,As,_,c1,At,_,c2,n,A',C',P',go,co,R,rfl,rfl,rfl,q,d,p1,p2,f',i',r1,r2,fun g e=>by
  subst e;exact⟨hz g (.inl rfl),by have:=(a1 g rfl).1;omega,(a1 g rfl).2,(a1 g rfl).1⟩,fun g e=>by
  subst e;exact⟨hz g (.inr rfl),by have:=(a2 g rfl).1;omega,(a2 g rfl).2,(a2 g rfl).1⟩⟩
theorem pT{o:Oper}{a:Act}{K:Act→World→Prop}{Q:Exit→Act→World→Prop}{w:World}(p v:Operand)(hop:o.op=Op.store 207 p v){B:Nat}{T:TypeId}{cs:Array Value}{A1 A2:Option Addr}{n1 n2 c1 c2:Nat}
  (hp:a.eval p=.pointer (some ⟨B,0,none⟩))(hv:a.eval v=.agg #[.slice A1 n1 c1,.slice A2 n2 c2])(h:w.heap[B]?=some (.cells cs T (0,0)))(hs:cs.size=2)
  (hK:∀w',w'.heap[B]?=some (.cells #[.slice A1 n1 c1,.slice A2 n2 c2] T (0,0))→Kp (fun c=>c=B) w w'→w'.heap.size=w.heap.size→K (a.put o.dst undef) w'):Oper.wp prog o a w K Q:=by
 obtain⟨l⟩:=cs
 match l,hs with
 |[u0,u1],_=>
 have h2:=aq (aq h 0 (.slice A1 n1 c1)) 1 (.slice A2 n2 c2);simp only[UY,U9,U3]at h2;have hk:=hK _ h2 (((Kp.refl (fun c=>c=B) w).setCell (fun _=>rfl) _).setCell (fun _=>rfl) _) (by simp only[PK]);have c0:=aa h 0;have c1:=aa h 1;have f0:=ak h 0;have f1:=ak h 1;simp only[List.getElem?_toArray,VK,List.getElem?_cons_succ]at c0 c1;unfold Oper.wp;simp only[execOp,hop,hp,hv];simp[Result.andThen,go_sem,c0,c1,f0,f1];exact hk
theorem My{C G:Nat→World→Option Addr→Nat→Nat→Option Addr→Nat→Nat→Int→Prop}{H:Prop}(hH:(∀g W a i c a' i' c' n,C g W a i c a' i' c' n→G g W a i c a' i' c' n)→H)(hG:∀g W a i c a' i' c' n,C g W a i c a' i' c' n→G g W a i c a' i' c' n):H:=hH hG
theorem xx(H:sL own b h w B cs ty V k0)(hbx:w.heap[B]?=some (.cells cs ty (0,0)))(ow:Ow own w)(oB:own B=0)(hT:VT b h)(T:kO V V' out inn)(hl:V.length≤300)(hm:out.length≤300)(hm':inn.length≤300)
  (B1 B2:Nat)(hro:w.ownsRow B1 93 9 vo out.length (out.flatMap bg))(hri:w.ownsRow B2 93 9 vi inn.length (inn.flatMap bg))(hwo:∀g,vo.ownBlock=some g→own g=0∧g≠B)(hwi:∀g,vi.ownBlock=some g→own g=0∧g≠B):
  Calls prog 57 #[.pointer (some ⟨B,2,none⟩),.agg #[vo,vi]] w fun e w'=>(∃n,e=.returned (.int .i64 n))∧∃own' cs',sL own' b h w' B cs' ty V' true∧PP own own' b h w w' B cs cs' ty:=by
 obtain⟨A,C,P,H,hF,hA⟩:=H;obtain⟨Ao,co,rfl,so⟩:=nL hro hwo;obtain⟨Ai,ci,rfl,si⟩:=nL hri hwi;have hBw:=am hbx;have b0:=zB w (.cells #[.slice Ao out.length co,.slice Ai inn.length ci] 103);have n0:=Up w (.cells #[.slice Ao out.length co,.slice Ai inn.length ci] 103);have hz0:(w.alloc (.cells #[.slice Ao out.length co,.slice Ai inn.length ci] 103)).heap.size=w.heap.size+1:=Pq _ _;have hn0:=ow w.heap.size (Po _);obtain⟨w0,hw0⟩:∃w0,w0=w.alloc (.cells #[.slice Ao out.length co,.slice Ai inn.length ci] 103):=⟨_,rfl⟩;rw[←hw0]at b0 n0 hz0;have D0:=ru (b:=b) (h:=h) hbx ow b0;have HPP:=zH D0;have so0:=so.pp hT D0;have si0:=si.pp hT D0;have hlP:=(hF.pls T.v hA).len;have HD:=zH (fun w1 (b1:Below w0.heap.size w0 w1)=>Hz (H.below hbx ow (b0.trans (b1.mono b0.size))) (af D0.box b1) oB hT hF hA T (by omega) hm hm' B1 B2 (au hro (b0.trans (b1.mono b0.size))) (au hri (b0.trans (b1.mono b0.size))) hwo hwi);have HBB:=zH (fun w1 (b1:Below w0.heap.size w0 w1)=>ru (b:=b) (h:=h) D0.box D0.ow b1);have HNN:=zH (fun(own1:Nat→Nat) cs1 W (D:PP own own1 b h w0 W B cs cs1 ty)=>D.km.at n0 (PF.none hT hn0 (by omega)));have hTb:=hT.bp;have HVD:=zH (eZ.vd (hF.pls T.v hA) T.v (by omega));have HVD':=zH (fun A' C' P' (F':Fe A' C' P') (hk:∀k,ag oS A' k=(ag oS V' k).map (·.pa))=>eZ.vd (F'.pls T.v' hk) T.v' (by have h1:=T.fin;have h2:=oE (V:=dg V out) inn;have h3:=jY (V:=V) out;rw[h1]at h2;omega));have HT:=zH T;have HA:=zH hA;have HO:=zH so0;have HI:=zH si0;have HX:=zH hT;have how:=D0.ow;clear so0 si0 so si hro hri hwo hwi D0 H hF hA;go_enter func57,ntmps57;go_wp2_with fail;rw[←hw0];clear hw0;refine zr (fun W=>W.heap[w.heap.size]?=some (.cells #[.slice Ao out.length co,.slice Ai inn.length ci] 103 (0,0))) n0 fun hS0=>?_;(refine zh hS0 9 4 0 ?_;simp only[zd];((iterate 4 (refine zt (fun W hW=>by have c0:=aa hW 0;have c1:=aa hW 1;exact zq) ?_;simp only[zp]));refine ac ?_));apply My (C:=fun g W As n1 c1 At n2 c2 n=>(∃own1 cs1 A' C' P' go co R,IH own own1 b h w0 W B cs cs1 ty A P V out inn As n1 At n2 A' C' P' go co R k0∧own1 g=0)∧W.heap[g]?=some (.cells #[.slice As n1 c1,.slice At n2 c2] 207 (0,0))∧g≠B)
 ·intro HG;have bd:=(Pk w0.heap.size w0).drew;refine aU 4 9 (by kernel_rfl) rfl rfl (fun K hK=>?_) (fun K hK=>?_)
  ·rw[Pj (by rfl)];go_simp;(with_reducible refine(HD.out _ bd).mono ?_);rintro e1 w1 ⟨own1,cs1,As,n1,c1,At,n2,c2,n,A',C',P',go,co',R,rfl,D1⟩;have E1:=D1.base (HBB.out _ bd);have m1:=HNN.out _ _ _ E1.d;have hw1:=E1.d.km.size;have nn:=Up w1 (.cells #[.slice none 0 0,.slice none 0 0] 207);have mm:=ar m1 (.cells #[.slice none 0 0,.slice none 0 0] 207);go_wp2_with fail;(refine zu hK m1 ?_;clear hK K;try simp only[zp]);(refine zh m1 4 4 5 ?_;simp only[zd];((iterate 4 (refine zU ?_;simp only[zp]));refine ac ?_));(refine zo 9 rfl fun K hK=>?_);(go_simp;(refine zu hK (mm) ?_;clear hK K;try simp only[zp]));refine zo 10 rfl fun K hK=>?_;refine pT _ _ rfl (by rfl) (by rfl) nn rfl ?_;intro w3 n3 k3 z3;have m3:=k3.at mm (by omega);have E3:=E1.below ((ae _ (Pk w1.heap.size w1)).trans ((gA k3 (Po _) (by rw[Pq];omega)).mono (Po _)));have o3:=E1.d.ow w1.heap.size (Po _);have g3:w1.heap.size≠B:=by have:=am E1.d.box;omega
   (refine zu hK m3 ?_;clear hK K;try simp only[zp]);(refine zh m3 0 2 11 ?_;simp only[zd];((iterate 2 (refine zU ?_;simp only[zp]));refine ac ?_));(refine ze ?_);generalize w1.heap.size=g11 at n3 o3 g3⊢;exact HG g11 w3 As n1 c1 At n2 c2 n ⟨⟨own1,cs1,A',C',P',go,co',R,E3,o3⟩,n3,g3⟩
  ·have bd1:=(zB w0 (.cells #[.slice none 0 0,.slice none 0 0] 207)).drew;have m1:=ar n0 (.cells #[.slice none 0 0,.slice none 0 0] 207);have nn:(w0.alloc (.cells #[.slice none 0 0,.slice none 0 0] 207)).drew.heap[w.heap.size+1]?=some (.cells #[.slice none 0 0,.slice none 0 0] 207 (0,0)):=hz0▸Up w0 _;(rw[Pj (by rfl)];go_simp;(refine zu hK (m1) ?_;clear hK K;try simp only[zp]));refine zo 4 rfl fun K hK=>?_;go_simp;(with_reducible refine(HD.out _ bd1).mono ?_);rintro e1 w1 ⟨own1,cs1,As,n1,c1,At,n2,c2,n,A',C',P',go,co',R,rfl,D1⟩;have E1:=D1.base (HBB.out _ bd1);have m2:=HNN.out _ _ _ E1.d;have og:own (w.heap.size+1)=0:=how _ (Nat.le_of_eq hz0);have g3:w.heap.size+1≠B:=by omega
   have m4:=D1.d.km.at nn (PF.none HX.out og g3);have o3:=(D1.d.ext _ (am nn)).trans og;go_wp2_with fail;(refine zu hK m2 ?_;clear hK K;try simp only[zp]);(refine zh m2 3 4 5 ?_;simp only[zd];((iterate 4 (refine zU ?_;simp only[zp]));refine ac ?_));refine zo 10 rfl fun K hK=>?_;refine pT _ _ rfl (by rfl) (by rfl) m4 rfl ?_;intro w3 n3 k3 z3;have m3:=k3.at m2 (by omega);(refine zu hK m3 ?_;clear hK K;try simp only[zp]);(refine zh m3 0 2 11 ?_;simp only[zd];((iterate 2 (refine zU ?_;simp only[zp]));refine ac ?_));(refine ze ?_);exact HG _ _ As n1 c1 At n2 c2 n ⟨⟨own1,cs1,A',C',P',go,co',R,E1.step HX.out k3.toKm o3 g3 (by omega) (fun x e e2=>by have:=(D1.a1 x e).2.2.2;have h9:=am nn;omega) (fun x e e2=>by have:=(D1.a2 x e).2.2.2;have h9:=am nn;omega),o3⟩,n3,g3⟩
 rintro g W As n1 c1 At n2 c2 n ⟨⟨own1,cs1,A',C',P',go,co',R,⟨rfl,rfl,Q1,D1,hp1,hp2,F',I',r1,r2,a1,a2⟩,og⟩,ng,hgB⟩;have hkeys:=GX I' HT.out HA.out;have HFI:=zH (Uq F' hkeys);obtain⟨Rr,t1,t2⟩:=HT.out.parts;have HTT:=zH (Uq t1 t2);have HPP2:=zH hp2;have l1:=hp1.length_eq;have l2:=hp2.length_eq;have l3:=t1.length_eq;have l4:=(F'.pls HT.out.v' hkeys).len;have l5:V'.length≤V.length+inn.length:=by
  have h1:=HT.out.fin;have h2:=oE (V:=dg V out) inn;have h3:=jY (V:=V) out;rw[h1]at h2;omega
 rw[Pu]at l1 l2 l3;rw[Ur]at l3;have hT1:=HX.out.bp;have hT2:=HX.out.hp;have hB0:B<w0.heap.size:=by omega
 have bdW:=(Pk W.heap.size W).drew;have q1:=Q1.below D1.box D1.ow bdW;have d1:=D1.below bdW;have HS:=zH (xl q1.s (by omega) (by omega) (by omega) (by omega) (by omega) (by omega) As At c1 c2 go co' R hp1 (fun x hx=>HVD.out x (hp1.mem_iff.2 (U0 _ hx))) (fun x hx=>HVD'.out _ _ _ F' hkeys x (hp2.mem_iff.2 (U0 _ hx))) (by omega) (by omega) (r1.below bdW) (r2.below bdW) (fun g e=>⟨(a1 g e).1,(a1 g e).2.1⟩) (fun g e=>⟨(a2 g e).1,(a2 g e).2.1⟩));have HQ:=zH (Uq q1 d1);have o1:=(D1.ext B hB0).trans oB;clear hkeys hp1 hp2 r1 r2 a1 a2 F' I' Q1 D1 q1 d1 bdW t1 t2;go_wp2_with fail;refine zr (fun V=>V.heap[g]?=some (.cells #[.slice As go.length c1,.slice At co'.length c2] 207 (0,0))) ng fun hS0=>?_;(refine zh hS0 1 4 0 ?_;simp only[zd];((iterate 4 (refine zt (fun W hW=>by have y0:=aa hW;exact zq) ?_;simp only[zp]));refine ac ?_));(refine zo 4 rfl fun K hK=>?_;go_simp);(with_reducible refine(HS.out).mono ?_);rintro e2 w2 ⟨rfl,own2,cs2,s2,m2,x2,k2⟩;have ng2:=k2.at (show W.drew.heap[g]?=_ from ng) (fun hf=>by rcases hf with e |e;exact hgB e;omega);obtain⟨Q2,E2⟩:=HQ.out.1.shp HX.out o1 s2 m2 x2 k2;have D2:=HQ.out.2.trans E2;have o2:=(D2.ext B hB0).trans oB;have n2:=HNN.out _ _ _ D2;have bd2:=(Pk w2.heap.size w2).drew;have q2:=Q2.below D2.box D2.ow bd2;have d2:=D2.below bd2;have HOA:=zH (DV (q2.o.perm HTT.out.1) ⟨by omega,by omega,by omega,by omega,by omega⟩ Ao Ai co ci (fun x hx=>(HT.out.o.vd x hx).in) (fun x hx=>(HT.out.i.vd x hx).in) (by omega) (by omega) (HO.out.pp HX.out d2) (HI.out.pp HX.out d2));have HQ2:=zH (Uq q2 d2);clear HQ HS s2 m2 x2 k2 Q2 E2 D2 bd2 q2 d2 ng;go_wp2_with fail;(refine zu hK ng2 ?_;clear hK K;try simp only[zp]);(refine ze ?_);go_wp2_with fail;clear ng2 hS0;refine zr (fun V=>V.heap[w.heap.size]?=some (.cells #[.slice Ao out.length co,.slice Ai inn.length ci] 103 (0,0))) n2 fun hS0=>?_;(refine zh hS0 1 4 0 ?_;simp only[zd];((iterate 4 (refine zt (fun W hW=>by have y0:=aa hW;exact zq) ?_;simp only[zp]));refine ac ?_));(refine zo 4 rfl fun K hK=>?_;go_simp);(with_reducible refine(HOA.out).mono ?_);rintro e3 w3 ⟨rfl,P3⟩;obtain⟨own3,cs3,Q3,E3⟩:=HQ2.out.1.ops HX.out o2 P3;have D3:=HQ2.out.2.trans E3;have o3:=(D3.ext B hB0).trans oB;have n3:=HNN.out _ _ _ D3;have bd3:=(Pk w3.heap.size w3).drew;have q3:=Q3.below D3.box D3.ow bd3;have d3:=D3.below bd3;have HEA:=zH (yC q3.e HT.out (by omega) Ao Ai co ci (by omega) (by omega) (HO.out.pp HX.out d3) (HI.out.pp HX.out d3));have HQ3:=zH (Uq q3 d3);clear HQ2 HOA P3 Q3 E3 D3 bd3 q3 d3;go_wp2_with fail;(refine zu hK n3 ?_;clear hK K;try simp only[zp]);(refine ze ?_);go_wp2_with fail;clear hS0;refine zr (fun V=>V.heap[w.heap.size]?=some (.cells #[.slice Ao out.length co,.slice Ai inn.length ci] 103 (0,0))) n3 fun hS0=>?_;(refine zh hS0 1 4 0 ?_;simp only[zd];((iterate 4 (refine zt (fun W hW=>by have y0:=aa hW;exact zq) ?_;simp only[zp]));refine ac ?_));(refine zo 4 rfl fun K hK=>?_;go_simp);(with_reducible refine(HEA.out).mono ?_);rintro e4 w4 ⟨rfl,M4,own4,cs4,f4,m4,x4,k4⟩;obtain⟨Q4,E4⟩:=HQ3.out.1.edg HX.out o3 f4 m4 x4 k4;have D4:=HQ3.out.2.trans E4;have o4:=(D4.ext B hB0).trans oB;have n4:=HNN.out _ _ _ D4;have bd4:=(Pk w4.heap.size w4).drew;have q4:=Q4.below D4.box D4.ow bd4;have d4:=D4.below bd4;have HNA:=zH (uC (q4.n.perm HTT.out.1) (by omega) Ao Ai co ci (fun x hx=>(HT.out.o.vd x hx).in) (fun x hx=>(HT.out.i.vd x hx).in) (by omega) (by omega) (HO.out.pp HX.out d4) (HI.out.pp HX.out d4));have HQ4:=zH (Uq q4 d4);clear HQ3 HEA f4 m4 x4 k4 Q4 E4 D4 bd4 q4 d4;go_wp2_with fail;(refine zu hK n4 ?_;clear hK K;try simp only[zp]);(refine ze ?_);go_wp2_with fail;clear hS0;refine zr (fun V=>V.heap[w.heap.size]?=some (.cells #[.slice Ao out.length co,.slice Ai inn.length ci] 103 (0,0))) n4 fun hS0=>?_;(refine zh hS0 1 4 0 ?_;simp only[zd];((iterate 4 (refine zt (fun W hW=>by have y0:=aa hW;exact zq) ?_;simp only[zp]));refine ac ?_));(refine zo 4 rfl fun K hK=>?_;go_simp);(with_reducible refine(HNA.out).mono ?_);rintro e5 w5 ⟨rfl,P5'⟩;obtain⟨own5,cs5,Q5,E5⟩:=HQ4.out.1.ent HX.out o4 P5';have D5:=HQ4.out.2.trans E5;have n5:=HNN.out _ _ _ D5;go_wp2_with fail;(refine zu hK n5 ?_;clear hK K;try simp only[zp]);(refine ze ?_);go_wp2_with fail;go_ret;have hr:=((Ub inn).append_right Rr).trans HTT.out.2.symm;exact⟨⟨_,rfl⟩,own5,cs5,⟨A',C',P',Q5.conv HPP2.out.symm hr hr,HFI.out⟩,HPP.out.trans D5⟩
end
end
section
theorem FG(r:Option Sp):AvS.vo r=.agg #[.int .i64 (r.getD jI).tr,.int .i64 (r.getD jI).id,.int .i64 (r.getD jI).pa,.int .i64 (r.getD jI).rv,.string (r.getD jI).sv,.string (r.getD jI).op,.int .i64 (r.getD jI).st,.int .i64 (r.getD jI).du,.bool (r.getD jI).gn]:=by cases r<;>rfl
section
variable{t:Nat}{own:Nat→Nat}
theorem I9(B:Nat)(p:Option Addr)(V:List (ByteArray×Sp))(Ao Ai:Option Addr)(co ci:Nat)(out inn:List Sp)(ho:cD out)(hi:cD inn)(hm:out.length≤700000)(hm':inn.length≤700000)
  (hA:∀x∈out,ag oS V (aj x)=some x)(hB:∀x∈inn,ag oS V (aj x)=none∨∃y∈out,aj y=aj x)
  (w:World)(hc:w.cell? ⟨B,0,none⟩=some (.pointer p))(hT:dm AvS.nd oS own t w p V)(hr:cm w w.heap.size Ao out)(hr':cm w w.heap.size Ai inn):
  Calls prog 54 #[.pointer (some ⟨B,0,none⟩),.agg #[.slice Ao out.length co,.slice Ai inn.length ci]] w fun e w'=>e=.returned (.int .i64 0)∧Below w.heap.size w w':=by
 have hbw:=Uy w _ hc;have b0:=zB w (.cells #[.slice Ao out.length co,.slice Ai inn.length ci] 103);have n0:=Up w (.cells #[.slice Ao out.length co,.slice Ai inn.length ci] 103);have HG:=zH (fun(k:ByteArray) (w1:World) (b1:Below w.heap.size w w1) (r:Option Sp) (e:ag oS V k=r)=>Gm (own:=own) (t:=t) B 0 p V k w1 ((b1.cell hbw).trans hc) (hT.below b1) r e);have HO:=zH (show ∀x∈out,x.Ok from fun x hx=>(ho.vd x hx).ok);have HI:=zH (show ∀x∈inn,x.Ok from fun x hx=>(hi.vd x hx).ok);have HR:=zH hr;have HR':=zH hr';have HA:=zH hA;have HB:=zH hB;have hmk:=QT (P:=prog) 218 (w.alloc (.cells #[.slice Ao out.length co,.slice Ai inn.length ci] 103));have M3:=lW (w.alloc (.cells #[.slice Ao out.length co,.slice Ai inn.length ci] 103));have n4:=ar n0 (.map #[] 0);have B4:=ae (.map #[] 0) b0;have e4:((w.alloc (.cells #[.slice Ao out.length co,.slice Ai inn.length ci] 103)).alloc (.map #[] 0)).heap.size=w.heap.size+1+1:=by rw[Pq,Pq]
 rw[Pq]at M3;have m0:=aa n4 0;clear hr hr' hA hB hT hc ho hi;go_enter func54,ntmps54;go_wp2_with fail;generalize (w.alloc (.cells #[.slice Ao out.length co,.slice Ai inn.length ci] 103)).alloc (.map #[] 0)=w4 at*;have HN4:=zH n4;have HB4:=zH B4;have HM3:=zH M3;clear M3 n4 B4 b0 n0 hmk m0;go_loopw [18] (fun i wr=>∃(k:Nat) (f:ByteArray→Int),k≤out.length∧i=.int .i64 k∧kQ wr (w.heap.size+1) f∧(∀x∈out.take k,0<f (aj x))∧(∀a,0≤f a∧f a≤k)∧Km (fun b=>b=w.heap.size+1) w4 wr) (fun i _=>out.length - (intOf i).toNat)
 case atStart=>exact⟨0,fun _=>0,by omega,rfl,HM3.out,by simp,fun _=>⟨by simp,by simp⟩,Km.refl _ _⟩
 case round=>
  obtain⟨k,f,hk,rfl,hmap,hpos,hbd,hkm⟩:=hrel;have Bo:Below w.heap.size w wr:=HB4.out.trans (hkm.below (fun b hb e=>by omega) HB4.out.size);have hso:=Bo.size;have hz:=hkm.size;by_cases hlt:k<out.length
  ·obtain⟨x,hk'⟩:=zg hlt;obtain⟨ad,rfl,hadl,c0,c1,c2,c3,c4,c5,c6,c7,c8⟩:=(HR.out.below Bo) k x hk';have hi1:(k:Int)< (out.length:Int):=by omega
   have hxo:=HO.out x (Pv hk');have HAX:=HA.out x (Pv hk');have HST:=zH (show ∀y∈out.take (k+1),y∈out.take k∨y=x from fun y hy=>by
    rw[PO,hk']at hy;simpa using hy)
   have nn:=Up wr (.cells (SA x) 93);have bn:=zB wr (.cells (SA x) 93);have Bn:=Bo.trans (bn.mono hso);have hmap':=hmap.below bn;have hkm':=hkm.trans (Km.of_below _ bn);have HSX:=zH (aL x hxo);have HF:=zH (Uq hpos hbd);have hM0:=hmap.lt;clear hk' hpos hbd hmap hkm;go_wp2_with fail;obtain⟨wx,hwx⟩:∃wx,wx=wr.alloc (.cells (SA x) 93):=⟨_,rfl⟩;rw[←hwx]at nn bn Bn hmap' hkm'⊢;have hgx:=fun w1 (b1:Below wx.heap.size wx w1)=>HG.out (aj x) w1 (Bn.trans (b1.mono Bn.size)) (some x) HAX;simp only[FG,V9,RH]at hgx;have HGX:=zH hgx;clear hgx hwx HAX;refine zr (fun V=>Below wx.heap.size wx V) (Pk _ wx).drew fun hS0=>?_;(refine zh hS0 8 4 0 ?_;simp only[zd];((iterate 4 (refine zt (fun W hW=>by have nx:=af nn hW;have y0:=aa nx;exact zq) ?_;simp only[zp]));refine ac ?_));apply rG (C:=fun g W=>Below wx.heap.size wx W∧W.heap[g]?=some (.cells (SA x) 93 (0,0))∧wx.heap.size≤g)
   ·intro HG;refine aU 4 9 (by kernel_rfl) rfl rfl (fun K hK=>?_) (fun K hK=>?_)
    ·rw[Pj (by rfl)];go_simp;(with_reducible refine(HSX.out _).mono ?_);rintro e4 w4 ⟨rfl,g4⟩;have S4:=hS0.trans (g4.mono hS0.size);go_wp2_with fail;(refine zu hK S4 ?_;clear hK K;try simp only[zp]);refine aU 5 9 (by kernel_rfl) rfl rfl (fun K hK=>?_) (fun K hK=>?_)
     ·rw[Pj (by rfl)];go_simp;(with_reducible refine(HGX.out _ S4).mono ?_);rintro e5 w5 ⟨rfl,g5⟩;have S5:=S4.trans (g5.mono S4.size);go_wp2_with fail;(refine zu hK S5 ?_;clear hK K;try simp only[zp]);(refine zh S5 3 3 6 ?_;simp only[zd];((iterate 3 (refine zU ?_;simp only[zp]));refine ac ?_));(refine zo 9 rfl fun K hK=>?_);(go_simp;(refine zu hK (ae _ S5) ?_;clear hK K;try simp only[zp]));have hle:=S5.size;(refine zo 10 rfl fun K hK=>?_);(refine gx (y:=x) _ _ rfl (by rfl) (by rfl) (Up _ _) rfl ?_);intro w6 n6 hb9 _ _;have S6:=hb9 _ _ (ae _ S5) (hle);clear hb9;(refine zu hK S6 ?_;clear hK K;try simp only[zp]);(refine zh S6 0 1 11 ?_;simp only[zd];((iterate 1 (refine zU ?_;simp only[zp]));refine ac ?_));(refine ze ?_);exact N8
     ·(rw[Pj (by rfl)];go_simp;(refine zu hK (ae _ S4) ?_;clear hK K;try simp only[zp]));refine aE 5 (by kernel_rfl) rfl (fun K hK=>?_);rw[Pj (by rfl)];go_simp;have n4:=Up w4 (.cells (SA jI) 93);(with_reducible refine(HGX.out _ (ae _ S4)).mono ?_);rintro e5 w5 ⟨rfl,g5⟩;have S5:=ah g5 (ae _ S4);have n5:=af n4 g5;go_wp2_with fail;(refine zu hK S5 ?_;clear hK K;try simp only[zp]);(refine zh S5 2 3 6 ?_;simp only[zd];((iterate 3 (refine zU ?_;simp only[zp]));refine ac ?_));(refine zo 10 rfl fun K hK=>?_);(refine gx (y:=x) _ _ rfl (by rfl) (by rfl) (n5) rfl ?_);intro w6 n6 hb9 _ _;have S6:=hb9 _ _ (S5) (S4.size);clear hb9;(refine zu hK S6 ?_;clear hK K;try simp only[zp]);exact Un
    ·have n3:=Up wx.drew (.cells (SA jI) 93);have S3:=ae (.cells (SA jI) 93) hS0;(rw[Pj (by rfl)];go_simp;(refine zu hK (S3) ?_;clear hK K;try simp only[zp]));refine aE 4 (by kernel_rfl) rfl (fun K hK=>?_);rw[Pj (by rfl)];go_simp;(with_reducible refine(HSX.out _).mono ?_);rintro e4 w4 ⟨rfl,g4⟩;have S4:=ah g4 S3;have n4:=af n3 g4;go_wp2_with fail;(refine zu hK S4 ?_;clear hK K;try simp only[zp]);refine aE 5 (by kernel_rfl) rfl (fun K hK=>?_);rw[Pj (by rfl)];go_simp;(with_reducible refine(HGX.out _ S4).mono ?_);rintro e5 w5 ⟨rfl,g5⟩;have S5:=ah g5 S4;have n5:=af n4 g5;go_wp2_with fail;(refine zu hK S5 ?_;clear hK K;try simp only[zp]);(refine zh S5 2 3 6 ?_;simp only[zd];((iterate 3 (refine zU ?_;simp only[zp]));refine ac ?_));(refine zo 10 rfl fun K hK=>?_);(refine gx (y:=x) _ _ rfl (by rfl) (by rfl) (n5) rfl ?_);intro w6 n6 hb9 _ _;have S6:=hb9 _ _ (S5) (Po _);clear hb9;(refine zu hK S6 ?_;clear hK K;try simp only[zp]);(refine zh S6 0 1 11 ?_;simp only[zd];((iterate 1 (refine zU ?_;simp only[zp]));refine ac ?_));exact NX
   rintro g11 w5 ⟨S5,n5,hg⟩;have x5:=af nn S5;have hmap5:=hmap'.below S5;have hkm5:=hkm'.trans (Km.of_below _ S5);clear HGX hS0;have y0:=aa x5;have z0:=aa n5;go_wp2_with ((with_reducible refine(HSX.out _).mono ?_);rintro e6 w6 ⟨rfl,b6⟩;have hmap6:=hmap5.below b6;have hkm6:=hkm5.trans (Km.of_below _ b6);have hl6:=hmap6.look (cQ x.tr x.id);have hbk:=HF.out.2 (kk x.tr x.id);have gw:=Qp (f (kk x.tr x.id)+1) (by omega);obtain⟨w7,hrun,hm7,hk7,hs7⟩:=hmap6.put (cQ x.tr x.id) (f (kk x.tr x.id)+1));exact oX
  ·obtain rfl:k=out.length:=by omega
   rw[PM]at hpos;have HPOS:=zH hpos;have no:wr.heap[w.heap.size]?=some (.cells #[.slice Ao out.length co,.slice Ai inn.length ci] 103 (0,0)):=hkm.at HN4.out (fun e=>by omega);have o1:=aa no 1;have HMP:=zH hmap;obtain⟨wo,rfl⟩:∃wo,wo=wr:=⟨_,rfl⟩;clear hpos hbd hkm hmap;go_wp2_with fail;go_loopw [47] (fun i wi=>∃k:Nat,k≤inn.length∧i=.int .i64 k∧Below wo.heap.size wo wi) (fun i _=>inn.length - (intOf i).toNat)
   case atStart=>exact⟨0,by omega,rfl,Pk _ _⟩
   case round=>
    obtain⟨k,hk,rfl,hbi⟩:=hrel;have Bi:=Bo.trans (hbi.mono hso);by_cases hlt:k<inn.length
    ·obtain⟨x,hk'⟩:=zg hlt;obtain⟨ad,rfl,hadl,c0,c1,c2,c3,c4,c5,c6,c7,c8⟩:=(HR'.out.below Bi) k x hk';have hi1:(k:Int)< (inn.length:Int):=by omega
     have hxo:=HI.out x (Pv hk');have HBX:=HB.out x (Pv hk');have nn:=Up wr (.cells (SA x) 93);have bn:=zB wr (.cells (SA x) 93);have Bn:=Bi.trans (bn.mono Bi.size);have HSX:=zH (aL x hxo);have hbo:=hbi.trans (bn.mono hbi.size);obtain⟨wx,hwx⟩:∃wx,wx=wr.alloc (.cells (SA x) 93):=⟨_,rfl⟩;obtain⟨r,hq⟩:∃r,ag oS V (aj x)=r:=⟨_,rfl⟩;obtain⟨ys,hys⟩:∃ys,r.getD jI=ys:=⟨_,rfl⟩;obtain⟨is,his⟩:∃is,r.isSome=is:=⟨_,rfl⟩;have hgx:=fun w1 (b1:Below wx.heap.size wx w1)=>HG.out (aj x) w1 ((hwx▸Bn).trans (b1.mono (hwx▸Bn).size)) r hq;simp only[FG,hys,his]at hgx;have HGX:=zH hgx;have HPS:=zH (show is=true→0<f (kk x.tr x.id)from fun e=>by
      rcases HBX with e2 |⟨y,hy1,hy2⟩
      ·rw[←his,←hq,e2]at e;cases e
      ·have:=HPOS.out y hy1;rw[hy2]at this;exact this)
     clear hk' hgx hq hys his HBX;go_wp2_with fail;rw[←hwx]at nn bn Bn hbo⊢;clear hwx;refine zr (fun V=>Below wx.heap.size wx V) (Pk _ wx).drew fun hS0=>?_;(refine zh hS0 8 4 0 ?_;simp only[zd];((iterate 4 (refine zt (fun W hW=>by have nx:=af nn hW;have y0:=aa nx;exact zq) ?_;simp only[zp]));refine ac ?_));apply rG (C:=fun g W=>Below wx.heap.size wx W∧W.heap[g]?=some (.cells (SA ys) 93 (0,0))∧wx.heap.size≤g)
     ·intro HG;refine aU 4 9 (by kernel_rfl) rfl rfl (fun K hK=>?_) (fun K hK=>?_)
      ·rw[Pj (by rfl)];go_simp;(with_reducible refine(HSX.out _).mono ?_);rintro e4 w4 ⟨rfl,g4⟩;have S4:=hS0.trans (g4.mono hS0.size);go_wp2_with fail;(refine zu hK S4 ?_;clear hK K;try simp only[zp]);refine aU 5 9 (by kernel_rfl) rfl rfl (fun K hK=>?_) (fun K hK=>?_)
       ·rw[Pj (by rfl)];go_simp;(with_reducible refine(HGX.out _ S4).mono ?_);rintro e5 w5 ⟨rfl,g5⟩;have S5:=S4.trans (g5.mono S4.size);go_wp2_with fail;(refine zu hK S5 ?_;clear hK K;try simp only[zp]);(refine zh S5 3 3 6 ?_;simp only[zd];((iterate 3 (refine zU ?_;simp only[zp]));refine ac ?_));(refine zo 9 rfl fun K hK=>?_);(go_simp;(refine zu hK (ae _ S5) ?_;clear hK K;try simp only[zp]));have hle:=S5.size;(refine zo 10 rfl fun K hK=>?_);(refine gx (y:=ys) _ _ rfl (by rfl) (by rfl) (Up _ _) rfl ?_);intro w6 n6 hb9 _ _;have S6:=hb9 _ _ (ae _ S5) (hle);clear hb9;(refine zu hK S6 ?_;clear hK K;try simp only[zp]);(refine zh S6 0 1 11 ?_;simp only[zd];((iterate 1 (refine zU ?_;simp only[zp]));refine ac ?_));(refine ze ?_);exact N8
       ·(rw[Pj (by rfl)];go_simp;(refine zu hK (ae _ S4) ?_;clear hK K;try simp only[zp]));refine aE 5 (by kernel_rfl) rfl (fun K hK=>?_);rw[Pj (by rfl)];go_simp;have n4:=Up w4 (.cells (SA jI) 93);(with_reducible refine(HGX.out _ (ae _ S4)).mono ?_);rintro e5 w5 ⟨rfl,g5⟩;have S5:=ah g5 (ae _ S4);have n5:=af n4 g5;go_wp2_with fail;(refine zu hK S5 ?_;clear hK K;try simp only[zp]);(refine zh S5 2 3 6 ?_;simp only[zd];((iterate 3 (refine zU ?_;simp only[zp]));refine ac ?_));(refine zo 10 rfl fun K hK=>?_);(refine gx (y:=ys) _ _ rfl (by rfl) (by rfl) (n5) rfl ?_);intro w6 n6 hb9 _ _;have S6:=hb9 _ _ (S5) (S4.size);clear hb9;(refine zu hK S6 ?_;clear hK K;try simp only[zp]);exact Un
      ·have n3:=Up wx.drew (.cells (SA jI) 93);have S3:=ae (.cells (SA jI) 93) hS0;(rw[Pj (by rfl)];go_simp;(refine zu hK (S3) ?_;clear hK K;try simp only[zp]));refine aE 4 (by kernel_rfl) rfl (fun K hK=>?_);rw[Pj (by rfl)];go_simp;(with_reducible refine(HSX.out _).mono ?_);rintro e4 w4 ⟨rfl,g4⟩;have S4:=ah g4 S3;have n4:=af n3 g4;go_wp2_with fail;(refine zu hK S4 ?_;clear hK K;try simp only[zp]);refine aE 5 (by kernel_rfl) rfl (fun K hK=>?_);rw[Pj (by rfl)];go_simp;(with_reducible refine(HGX.out _ S4).mono ?_);rintro e5 w5 ⟨rfl,g5⟩;have S5:=ah g5 S4;have n5:=af n4 g5;go_wp2_with fail;(refine zu hK S5 ?_;clear hK K;try simp only[zp]);(refine zh S5 2 3 6 ?_;simp only[zd];((iterate 3 (refine zU ?_;simp only[zp]));refine ac ?_));(refine zo 10 rfl fun K hK=>?_);(refine gx (y:=ys) _ _ rfl (by rfl) (by rfl) (n5) rfl ?_);intro w6 n6 hb9 _ _;have S6:=hb9 _ _ (S5) (Po _);clear hb9;(refine zu hK S6 ?_;clear hK K;try simp only[zp]);(refine zh S6 0 1 11 ?_;simp only[zd];((iterate 1 (refine zU ?_;simp only[zp]));refine ac ?_));exact NX
     rintro g11 w5 ⟨S5,n5,hg⟩;have x5:=af nn S5;have hb5:=hbo.trans (S5.mono hbo.size);clear HGX hS0;have y0:=aa x5;rcases is with _ |_
     ·go_wp2_with fail;exact⟨⟨k+1,by omega,by go_num,hb5⟩,by simp[intOf];omega⟩
     ·have hps:=HPS.out rfl;have hne:(f (kk x.tr x.id)==0)=false:=by simp;omega
      go_wp2_with ((with_reducible refine(HSX.out _).mono ?_);rintro e6 w6 ⟨rfl,b6⟩;have hb6:=hb5.trans (b6.mono hb5.size);have hl6:=(HMP.out.below hb6).look (cQ x.tr x.id));exact⟨⟨k+1,by omega,by go_num,hb6⟩,by simp[intOf];omega⟩
    ·obtain rfl:k=inn.length:=by omega
     exact Pb
end
end
section
open PlcP
section
variable{own own1 own2 own':Nat→Nat}{b h:Nat}{w w1 w2 w':World}{B:Nat}{cs cs1 cs':Array Value}{ty:TypeId}{V V' W W':List (ByteArray×Sp)}{vo vi:Value}{p p':Option Addr}
structure VL(own own1:Nat→Nat)(b:Nat)(w w1:World)(B:Nat)(cs cs1:Array Value)(ty:TypeId)(W:List (ByteArray×Sp)):Prop where
 box:w1.heap[B]?=some (.cells cs1 ty (0,0))
 near:aT 0 2 cs cs1
 r:uR own1 b w1 cs1 W
 ext:aO own own1 w
 ow:Ow own1 w1
 km:Km (fun c=>c=B∨own c=b) w w1
theorem VL.start(hB:w.heap[B]?=some (.cells cs ty (0,0)))(r:uR own b w cs W)(ho:Ow own w):VL own own b w w B cs cs ty W:=⟨hB,aT.refl _ _ _,r,aO.refl _ _,ho,Km.refl _ _⟩
theorem VL.below(H:VL own own1 b w w1 B cs cs1 ty W)(hb:Below w1.heap.size w1 w2):VL own own1 b w w2 B cs cs1 ty W:=by
 obtain⟨p,h0,h1,h2⟩:=H.r;exact⟨af H.box hb,H.near,⟨p,h0,h1,h2.below hb⟩,H.ext,H.ow.mono hb.size,H.km.trans (Km.of_below _ hb)⟩
theorem VL.step(H:VL own own1 b w w1 B cs cs1 ty W)(D:bI AvS.nd oS own1 b w1 w2 B 0 cs1 ty W' own2 p'):∃cs2,VL own own2 b w w2 B cs cs2 ty W':=by
 obtain⟨p,h0,h1,h2⟩:=H.r;have ht:=gh (q:=0) (u:=.pointer p') (v:=.int .i64 (W'.length:Nat)) h0 h1;exact⟨_,D.box,H.near.trans (cX 0 cs1 _ _),⟨p',ht.1,ht.2,D.tr⟩,H.ext.trans D.ext H.km.size,D.ow,H.km.trans' D.kp.toKm fun c hc hf=>hf.imp id fun e=>(H.ext c hc).symm.trans e⟩
theorem VL.drop(H:VL own own1 b w w1 B cs cs1 ty W)(hB:own B≠b)(hlB:B<w.heap.size)(hl:W.length≤700000)(k:ByteArray):
  Calls prog 55 #[.pointer (some ⟨B,0,none⟩),.string k] w1 fun e w'=>(∃v,e=.returned (.bool v))∧Km (fun c=>c=B∨own1 c=b) w1 w'∧∃own2 cs2,VL own own2 b w w' B cs cs2 ty (aK oS W k):=by
 obtain⟨p,h0,h1,h2⟩:=H.r;refine(Lt B 0 cs1 ty p W k w1 H.ow H.box h0 h1 (by rw[H.ext B hlB];exact hB) h2 hl).mono ?_;rintro e w' ⟨p',rfl,D⟩;obtain⟨cs2,D2⟩:=H.step D;exact⟨⟨_,rfl⟩,D.kp.toKm,own1,cs2,D2⟩
theorem VL.put(H:VL own own1 b w w1 B cs cs1 ty W)(hB:own B≠b)(hlB:B<w.heap.size)(hl:W.length≤700000)(k:ByteArray)(x:Sp):
  Calls prog 56 #[.pointer (some ⟨B,0,none⟩),.string k,.agg (SA x)] w1 fun e w'=>(∃v,e=.returned (.bool v))∧Km (fun c=>c=B∨own1 c=b) w1 w'∧∃own2 cs2,VL own own2 b w w' B cs cs2 ty (ay oS W k x):=by
 obtain⟨p,h0,h1,h2⟩:=H.r;refine(Gj B 0 cs1 ty p W k x w1 H.ow H.box h0 h1 (by rw[H.ext B hlB];exact hB) h2 hl).mono ?_;rintro e w' ⟨own2,p',rfl,D⟩;obtain⟨cs2,D2⟩:=H.step D;exact⟨⟨_,rfl⟩,D.kp.toKm,own2,cs2,D2⟩
theorem pg(B:Nat)(w:World):(binOp .eql 30 (.pointer (some ⟨B,0,none⟩)) (.pointer none)).run prog w=.ok (.bool false) w:=by simp[go_sem,Tryz.t30]
theorem EP{out:List Sp}{k:Nat}{x:Sp}(h:out[k]?=some x):dg V (out.take (k+1))=aK oS (dg V (out.take k)) (aj x):=by
 rw[PO,h,Option.toList_some,uK]
theorem El{inn:List Sp}{k:Nat}{x:Sp}(h:inn[k]?=some x):eL V (inn.take (k+1))=ay oS (eL V (inn.take k)) (aj x) x:=by
 rw[PO,h,Option.toList_some,uh]
theorem Dj{kb:Bool}(H:kW own b h w B cs ty V kb)(hT:VT b h){O I:List Sp}(hO:cD O)(hI:cD I)(ha:∀x∈O,x∉I)(T:kO V V' (bF O) (bF I))(hl:V.length≤300)(hm:O.length≤300)(hm':I.length≤300)(B1 B2:Nat)(hro:w.ownsRow B1 93 9 vo O.length (O.flatMap bg))(hri:w.ownsRow B2 93 9 vi I.length (I.flatMap bg)):
  Calls prog 23 #[.pointer (some ⟨B,0,none⟩),.agg #[vo,vi]] w fun e w'=>(∃n,e=.returned (.tuple #[.int .i64 n,.int .i64 0]))∧∃own',ko own' b h w' B ty V' true∧aO own own' w∧Km (VF own b h B) w w':=by
 obtain⟨Ao,co,rfl,ro,_,_,_⟩:=bE hro;obtain⟨Ai,ci,rfl,ri,_,_,_⟩:=bE hri;have hlo:(bF O).length≤O.length:=Qc _ _;have hli:(bF I).length≤I.length:=Qc _ _;have hBw:=am H.box;have hbp:=hT.bp;have b0:=zB w (.cells #[.slice Ao O.length co,.slice Ai I.length ci] 103);have n0:=Up w (.cells #[.slice Ao O.length co,.slice Ai I.length ci] 103);have hn0:=H.ow w.heap.size (Po _);have HRI:=zH (fun w1 (b1:Below w.heap.size w w1)=>lE Ao Ai co ci O I hO hI ha (by omega) (by omega) w1 ((ro.below b1).more b1.size) ((ri.below b1).more b1.size));have HAL:=zH (fun w1 (b1:Below w.heap.size w w1)=>gS (au hro b1) (au hri b1) (by omega) (by omega));generalize bF O=out at*;generalize bF I=inn at*;have m0:=aa n0 0;have m1:=aa n0 1;have hnn:=pg B;have HH:=zH H;have HT:=zH T;have HX:=zH hT;have HB0:=zH b0;clear H hro hri ro ri T hO hI ha b0 hT;go_enter func23,ntmps23;go_wp2_with (first |((with_reducible refine(HRI.out _ HB0.out).mono ?_);rintro e w1 ⟨rfl,b1⟩;have B1:=ah b1 HB0.out;have n1:=af n0 b1;have k0:=aa n1 0;have k1:=aa n1 1;have HB1:=zH B1;clear B1 b1 m0 m1 HRI) |((with_reducible refine(HAL.out _ HB1.out).mono ?_);rintro e w2 ⟨uo,ui,rfl,o1,o2,b2⟩;obtain⟨Uo,uc,rfl⟩:=an o1;obtain⟨Ui,ud,rfl⟩:=an o2;have HB2:=zH (ah b2 HB1.out);have n2:=af n1 b2;have HO1:=zH (Uq o1 o2);clear HAL o1 o2 b2 k0 k1;have f0:=ak n2 0;have f1:=ak n2 1;have g0:=aa n2 0;have g1:=aa n2 1));obtain⟨w3,hw3⟩:∃w3,w3=(w2.setCell ⟨w.heap.size,0,none⟩ (.slice Uo out.length uc)).setCell ⟨w.heap.size,1,none⟩ (.slice Ui inn.length ud):=⟨_,rfl⟩;have z1:w.heap.size<w1.heap.size:=am n1;have m3:w3.heap[w.heap.size]?=some (.cells #[.slice Uo out.length uc,.slice Ui inn.length ud] 103 (0,0)):=by
  rw[hw3];exact aq (aq n2 0 (.slice Uo out.length uc)) 1 (.slice Ui inn.length ud)
 have B3:Below w.heap.size w w3:=by
  rw[hw3];exact(HB2.out.setCell (p:=⟨w.heap.size,0,none⟩) (Po _) _).setCell (p:=⟨w.heap.size,1,none⟩) (Po _) _
 have hne:∀{v:Value} {n:Nat} {xs:List Value},w2.ownsRow w1.heap.size 93 9 v n xs→v.ownBlock≠some w.heap.size:=fun h e=>by
  have:=(h.lt _ e).1;omega
 have r1:=Us (Us HO1.out.1 (a:=⟨w.heap.size,0,none⟩) (hne HO1.out.1) (.slice Uo out.length uc)) (a:=⟨w.heap.size,1,none⟩) (hne HO1.out.1) (.slice Ui inn.length ud);have r2:=Us (Us HO1.out.2 (a:=⟨w.heap.size,0,none⟩) (hne HO1.out.2) (.slice Uo out.length uc)) (a:=⟨w.heap.size,1,none⟩) (hne HO1.out.2) (.slice Ui inn.length ud);rw[←hw3]at r1 r2⊢;have H3:=HH.out.below B3;have h1z:∀g,(Value.slice Uo out.length uc).ownBlock=some g→own g=0∧g≠B:=fun g e=>by
  have:=(r1.lt g e).1;exact⟨HH.out.ow g (by omega),by omega⟩
 have h2z:∀g,(Value.slice Ui inn.length ud).ownBlock=some g→own g=0∧g≠B:=fun g e=>by
  have:=(r2.lt g e).1;exact⟨HH.out.ow g (by omega),by omega⟩
 obtain⟨_,_,e1,so⟩:=nL r1 h1z;cases e1;obtain⟨_,_,e1,si⟩:=nL r2 h2z;cases e1;obtain⟨p,q0,q1,q2⟩:=H3.r;have HM:=zH (I9 B p V Uo Ui uc ud out inn HT.out.o HT.out.i (by omega) (by omega) HT.out.there HT.out.new w3 ((aa H3.box 0).trans q0) q2 so.rd si.rd);have HZ:=zH (Uq h1z h2z);have HR:=zH (Uq r1 r2);have H33:=zH H3;have HS:=zH (Uq so si);have HB3:=zH B3;have hlz:=hBw;clear hw3 B3 r1 r2 h1z h2z so si q0 q1 q2 H3 f0 f1 g0 g1 n1 n2 n0 hne;have j0:=aa m3 0;have j1:=aa m3 1;go_wp2_with ((with_reducible refine(HM.out).mono ?_);rintro e w4 ⟨rfl,b4⟩;have n4:=af m3 b4;have k0:=aa n4 0;have k1:=aa n4 1;have H4:=H33.out.below b4;have B4:=ah b4 HB3.out;have R1:=au HR.out.1 b4;have R2:=au HR.out.2 b4;clear HM);have hB4:=am H4.box;have hoB:=H4.oB;have z4:=am n4;have HS1:=zH (fun own1 cs1 wr W (D:VL own own1 b w4 wr B cs cs1 ty W)=>HS.out.1.rd.below b4|>.more b4.size|>.km D.km (Po _) (fun ad e hf=>by have:=(HS.out.1.at' ad e);rcases hf with e2 |e2;exact this.2.1 e2;omega));have HS2:=zH (fun own1 cs1 wr W (D:VL own own1 b w4 wr B cs cs1 ty W)=>HS.out.2.rd.below b4|>.more b4.size|>.km D.km (Po _) (fun ad e hf=>by have:=(HS.out.2.at' ad e);rcases hf with e2 |e2;exact this.2.1 e2;omega));have HN4:=zH (fun own1 cs1 wr W (D:VL own own1 b w4 wr B cs cs1 ty W)=>D.km.at n4 (fun hf=>by rcases hf with e2 |e2<;>omega));have H44:=zH H4;have HB4:=zH B4;have HRR:=zH (Uq R1 R2);have hdl:=fun k=>jY (V:=V) (out.take k);clear b4 n4 H4 B4 R1 R2 m3 j0 j1 HR H33 HB3 HB2 HB1 HB0 HO1 HH k1;go_loopw [35] (fun i wr=>∃k:Nat,k≤out.length∧i=.int .i64 k∧∃own1 cs1,VL own own1 b w4 wr B cs cs1 ty (dg V (out.take k))) (fun i _=>out.length - (intOf i).toNat)
 case atStart=>exact⟨0,by omega,rfl,own,cs,VL.start H44.out.box H44.out.r H44.out.ow⟩
 case round=>
  obtain⟨k,hk,rfl,own1,cs1,hV⟩:=hrel;by_cases hlt:k<out.length
  ·obtain⟨x,hk'⟩:=zg hlt;obtain⟨ad,rfl,hadl,c0,c1,c2,c3,c4,c5,c6,c7,c8⟩:=(HS1.out _ _ _ _ hV) k x hk';have hi1:(k:Int)< (out.length:Int):=by omega
   have hxo:=(HT.out.o.vd x (Pv hk')).ok;have bn:=zB wr (.cells (SA x) 93);have nn:=Up wr (.cells (SA x) 93);have hw0:=hV.ow _ (Po _);have hzB:wr.heap.size≠B:=by have:=am hV.box;omega
   have hd9:=hdl k;have HD:=zH (fun w5 (b5:Below (wr.alloc (.cells (SA x) 93)).heap.size (wr.alloc (.cells (SA x) 93)) w5)=>((hV.below bn).below b5).drop (by omega) hB4 (by omega) (aj x));have HSP:=zH (aL x hxo);have HTK:=zH (EP (V:=V) hk');clear hk' hV hdl;go_wp2_with fail;refine zr (fun W=>W.heap[wr.heap.size]?=some (.cells (SA x) 93 (0,0))) nn fun hS0=>?_;(refine zh hS0 2 4 0 ?_;simp only[zd];((iterate 4 (refine zt (fun W hW=>by have y0:=aa hW;exact zq) ?_;simp only[zp]));refine ac ?_));(refine zo 4 rfl fun K hK=>?_;go_simp);(with_reducible refine(HSP.out _).mono ?_);rintro e8 w8 ⟨rfl,b8⟩;have b8':Below (wr.alloc (.cells (SA x) 93)).heap.size (wr.alloc (.cells (SA x) 93)) w8:=((Pk _ (wr.alloc (.cells (SA x) 93))).drew).trans b8;have n8:=af nn b8';go_wp2_with fail;(refine zu hK n8 ?_;clear hK K;try simp only[zp]);(refine zo 5 rfl fun K hK=>?_;go_simp);exact NQ
  ·obtain rfl:k=out.length:=by omega
   rw[PM]at hV;have n5:=HN4.out _ _ _ _ hV;have i1:=aa n5 1;have hil:=fun k=>oE (V:=dg V out) (inn.take k);have hdl0:=jY (V:=V) out;have HV0:=zH hV;clear hV n5 hdl;go_wp2_with fail;go_loopw [49] (fun i wr=>∃k:Nat,k≤inn.length∧i=.int .i64 k∧∃own1 cs1,VL own own1 b w4 wr B cs cs1 ty (eL (dg V out) (inn.take k))) (fun i _=>inn.length - (intOf i).toNat)
   case atStart=>exact⟨0,by omega,rfl,own1,cs1,HV0.out⟩
   case round=>
    obtain⟨k,hk,rfl,own1,cs1,hV⟩:=hrel;by_cases hlt:k<inn.length
    ·obtain⟨x,hk'⟩:=zg hlt;obtain⟨ad,rfl,hadl,c0,c1,c2,c3,c4,c5,c6,c7,c8⟩:=(HS2.out _ _ _ _ hV) k x hk';have hi1:(k:Int)< (inn.length:Int):=by omega
     have hxo:=(HT.out.i.vd x (Pv hk')).ok;have bn:=zB wr (.cells (SA x) 93);have nn:=Up wr (.cells (SA x) 93);have hw0:=hV.ow _ (Po _);have hzB:wr.heap.size≠B:=by have:=am hV.box;omega
     have hd9:=hil k;rw[UD]at hd9;have HD:=zH (fun w5 (b5:Below (wr.alloc (.cells (SA x) 93)).heap.size (wr.alloc (.cells (SA x) 93)) w5)=>((hV.below bn).below b5).put (by omega) hB4 (by omega) (aj x) x);have HSP:=zH (aL x hxo);have HTK:=zH (El (V:=dg V out) hk');clear hk' hV hil;go_wp2_with fail;refine zr (fun W=>W.heap[wr.heap.size]?=some (.cells (SA x) 93 (0,0))) nn fun hS0=>?_;(refine zh hS0 3 4 0 ?_;simp only[zd];((iterate 4 (refine zt (fun W hW=>by have y0:=aa hW;exact zq) ?_;simp only[zp]));refine ac ?_));(refine zh hS0 2 1 5 ?_;simp only[zd];((iterate 1 (refine zt (fun W hW=>by have y0:=aa hW;exact zq) ?_;simp only[zp]));refine ac ?_));(refine zo 4 rfl fun K hK=>?_;go_simp);(with_reducible refine(HSP.out _).mono ?_);rintro e8 w8 ⟨rfl,b8⟩;have b8':Below (wr.alloc (.cells (SA x) 93)).heap.size (wr.alloc (.cells (SA x) 93)) w8:=((Pk _ (wr.alloc (.cells (SA x) 93))).drew).trans b8;have n8:=af nn b8';go_wp2_with fail;(refine zu hK n8 ?_;clear hK K;try simp only[zp]);(refine zo 6 rfl fun K hK=>?_;go_simp);exact NQ
    ·obtain rfl:k=inn.length:=by omega
     rw[PM,HT.out.fin]at hV;have n5:=HN4.out _ _ _ _ hV;have h1b:=hV.ext B hB4;have hph:=HX.out.hp;have far:∀c,own c=0→c≠B→¬(c=B∨own c=b):=fun c e1 e2 hf=>by rcases hf with e |e<;>omega
     have rk:∀g,g<w4.heap.size→own g=0∧g≠B→wr.heap[g]?=w4.heap[g]?:=fun g hg e=>hV.km.block g hg (far g e.1 e.2);have P4:sL own1 b h wr B cs1 ty V kb:=H44.out.p.still ⟨hV.box,fun j h1 h2=>hV.near.far j (by omega),hV.km,hV.ext,hV.ow⟩ (fun c hc e hf=>by rcases hf with e2 |e2;(subst e2;omega);omega);have HPA:=zH (xx (P4.still (F:=fun _=>False) ⟨af hV.box (Pk wr.heap.size wr).drew,fun _ _ _=>rfl,Km.of_below _ (Pk wr.heap.size wr).drew,aO.refl _ _,hV.ow.mono (Po _)⟩ fun _ _ _=>id) (af hV.box (Pk wr.heap.size wr).drew) (hV.ow.mono (Po _)) (h1b.trans hoB) HX.out HT.out hl (by omega) (by omega) _ _ (au (bP HRR.out.1 fun g e=>rk g (HRR.out.1.lt g e).2 (HZ.out.1 g e)) (Pk wr.heap.size wr).drew) (au (bP HRR.out.2 fun g e=>rk g (HRR.out.2.lt g e).2 (HZ.out.2 g e)) (Pk wr.heap.size wr).drew)
      (fun g e=>⟨(hV.ext g (HRR.out.1.lt g e).2).trans (HZ.out.1 g e).1,(HZ.out.1 g e).2⟩) (fun g e=>⟨(hV.ext g (HRR.out.2.lt g e).2).trans (HZ.out.2 g e).1,(HZ.out.2 g e).2⟩))
     have HVV:=zH hV;clear hV rk P4 hil;go_wp2_with fail;refine zr (fun W=>W.heap[w.heap.size]?=some (.cells #[.slice Uo out.length uc,.slice Ui inn.length ud] 103 (0,0))) n5 fun hS0=>?_;(refine zh hS0 3 4 0 ?_;simp only[zd];((iterate 4 (refine zt (fun W hW=>by have y0:=aa hW;exact zq) ?_;simp only[zp]));refine ac ?_));(refine zo 4 rfl fun K hK=>?_;go_simp);(with_reducible refine(HPA.out).mono ?_);rintro e9 w9 ⟨⟨n9,rfl⟩,own9,cs9,P9,D9⟩;have m9:=D9.km.at (show wr.drew.heap[w.heap.size]?=_ from n5) (PF.none HX.out ((HVV.out.ext _ z4).trans hn0) (by omega));go_wp2_with fail;(refine zu hK m9 ?_;clear hK K;try simp only[zp]);(refine zh m9 0 2 5 ?_;simp only[zd];((iterate 2 (refine zU ?_;simp only[zp]));refine ac ?_));(refine ze ?_);go_wp2_with fail;go_ret2;have hV:=HVV.out;have hdr:Km (PF own1 b h B) wr w9:=(Km.of_below _ (Pk wr.heap.size wr).drew).trans D9.km;have hV9:kW own9 b h w9 B cs9 ty V' true:=⟨D9.box,D9.ow,(D9.ext B (am hV.box)).trans (h1b.trans hoB),HT.out.v',hV.r.still (B:=B) (ty:=ty) ⟨D9.box,fun j h1 h2=>D9.near.far j (by omega),hdr,D9.ext,D9.ow⟩ (fun c hc e hf=>by
      unfold PF at hf;rcases hf with e2 |e2
      ·subst e2;omega
      ·omega),P9⟩
     have k1:Km (VF own b h B) w w4:=Km.of_below _ HB4.out;refine⟨⟨_,rfl⟩,own9,⟨cs9,hV9⟩,fun c hc=>(D9.ext c (by have:=hV.km.size;show c<wr.heap.size;omega)).trans (hV.ext c (by omega)),(k1.trans' hV.km fun c hc hf=>?_).trans' hdr fun c hc hf=>?_⟩
     ·unfold VF;omega
     ·have:=hV.ext c (by omega);unfold PF at hf;unfold VF;rw[this]at hf;omega
end
end
