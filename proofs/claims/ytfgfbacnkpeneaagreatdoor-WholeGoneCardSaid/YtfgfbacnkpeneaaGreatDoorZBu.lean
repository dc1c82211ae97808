/- For WholeGone: contracts of functions and plain laws. -/
import Derived.Test.YtfgfbacnkpeneaaGreatDoorZBt
set_option maxRecDepth 100000
set_option maxHeartbeats 4000000
set_option linter.unusedVariables false
set_option linter.unusedSimpArgs false
namespace Go.Proofs.YtfgfbacnkpeneaaGreatDoor
open Go.Proofs.Tryz Go.ChangeShapes Go.WideShapes Go.ChangeAt Go.RowKit Go.Deep
theorem WB{P:Prop}(h:P:=by
 have HDD:=zH hdd;clear hdd;have c0:=hc 0 _ rfl;have c1:=hc 1 _ rfl;have d0:=hd 0 _ rfl;have d1:=hd 1 _ rfl;(try have c2:=hc 2 _ rfl);(try have d2:=hd 2 _ rfl);(try have c3:=hc 3 _ rfl);(try have d3:=hd 3 _ rfl);(try have c4:=hc 4 _ rfl);(try have d4:=hd 4 _ rfl);(try have c5:=hc 5 _ rfl);(try have d5:=hd 5 _ rfl);rw[Ru]at c0 d0;clear hc hd;go_wp2_with ((with_reducible refine(HDD.out _ (ae _ (ae _ hb))).mono ?_);rintro e9 w9 ⟨rfl,b9⟩);exact⟨⟨k+1,by omega,by go_num,ah b9 (ae _ (ae _ hb))⟩,by simp[intOf];omega⟩):P:=h
theorem Og{P:Prop}(h:P:=by
 exact⟨_,rfl,(hT.kept (oy _ _ _ _ _ _ _ _ _ _) (Nat.lt_succ_self _)).low (UE _),HB5.out.2.trans ((oy _ _ _ _ _ _ _ _ _ _).below (fun b hb e=>by omega) (by omega))⟩):P:=h
theorem OJ{P:Prop}(h:P:=by
 go_wp2_with ((with_reducible refine(H.out).mono ?_);rintro e w1 ⟨rfl,b1⟩);go_ret;exact⟨rfl,ah b1 HB.out⟩):P:=h
theorem OQ{P:Prop}(h:P:=by
 go_wp2_with ((with_reducible refine(H.out).mono ?_);rintro e w1 ⟨rfl,b1⟩);go_ret;exact⟨rfl,b1⟩):P:=h
section
open Go.Shelf AvlP PlcP
structure Ng(W:World)(n:Nat)(V:List (ByteArray×Sp))(vp:Value)(X:List Pl)(v1:Value)(LD:List (Int×Int))(v2:Value)(LF:List (Int×Int))(vo:Value)(lo:List (Fj×Value))(ve:Value)(O:List wC)(vn:Value)(ln:List (oZ×Value)):Prop where
 p:W.ownsRow n 98 6 vp X.length (X.flatMap iq)
 isp:eZ V X
 d:W.ownsRow n 237 2 v1 LD.length (LD.flatMap aP)
 td:bL LD (bT X)
 f:W.ownsRow n 237 2 v2 LF.length (LF.flatMap aP)
 tf:bL LF (cZ X)
 o:zx W n vo lo
 iso:oR cg (V.map (·.2)) (lo.map (·.1))
 e:W.ownsRow n 173 3 ve O.length (O.flatMap tu)
 ise:oU (mf V) O
 n':lN W n vn ln
 isn:oT (V.map (·.2)) (ln.map (·.1))
def dY(W:World)(n:Nat)(V:List (ByteArray×Sp))(v:Value):Prop:=
 ∃vp X v1 LD v2 LF vo lo ve O vn ln,v=.agg #[vp,.int .i64 (X.length:Nat),.int .i64 (bH X 1),.int .i64 (bH X 2),.int .i64 (bH X 3),v1,v2,vo,ve,vn]∧Ng W n V vp X v1 LD v2 LF vo lo ve O vn ln
section
variable{W W':World}{n m:Nat}{V:List (ByteArray×Sp)}{v:Value}
theorem dY.below(h:dY W n V v)(hb:Below W.heap.size W W'):dY W' n V v:=by
 obtain⟨vp,X,v1,LD,v2,LF,vo,lo,ve,O,vn,ln,e,h⟩:=h;exact⟨vp,X,v1,LD,v2,LF,vo,lo,ve,O,vn,ln,e,au h.p hb,h.isp,au h.d hb,h.td,au h.f hb,h.tf,h.o.below hb,h.iso,au h.e hb,h.ise,h.n'.below hb,h.isn⟩
theorem dY.kept{B:Nat}(h:dY W n V v)(hk:Km (fun c=>c=B) W W')(hB:B<n):dY W' n V v:=by
 obtain⟨vp,X,v1,LD,v2,LF,vo,lo,ve,O,vn,ln,e,h⟩:=h;have hg:W.grownBy W' (some B):=⟨hk.os,hk.tape,hk.output,hk.size,fun c hc hn=>hk.block c hc fun e=>hn (by rw[e])⟩;have key:∀{e:TypeId} {s n':Nat} {xs:List Value} {u:Value},W.ownsRow n e s u n' xs→u.ownBlock=none∨u.ownBlock≠some B:=fun {e s n' xs u} ho=>by
  cases hu:u.ownBlock with
  |none=>exact .inl rfl
  |some r=>
   refine .inr fun er=>?_;cases er;have:=(ho.lt B hu).1;omega
 exact⟨vp,X,v1,LD,v2,LF,vo,lo,ve,O,vn,ln,e,h.p.kept hg (key h.p),h.isp,h.d.kept hg (key h.d),h.td,h.f.kept hg (key h.f),h.tf,h.o.kept hg (key h.o.row) (fun x hx=>key (h.o.inn x hx).1),h.iso,h.e.kept hg (key h.e),h.ise,h.n'.kept hg (key h.n'.row) (fun x hx=>key (h.n'.inn x hx).1),h.isn⟩
theorem dY.low(h:dY W n V v)(hm:m≤n):dY W m V v:=by
 obtain⟨vp,X,v1,LD,v2,LF,vo,lo,ve,O,vn,ln,e,h⟩:=h;exact⟨vp,X,v1,LD,v2,LF,vo,lo,ve,O,vn,ln,e,aI h.p hm,h.isp,aI h.d hm,h.td,aI h.f hm,h.tf,h.o.low hm,h.iso,aI h.e hm,h.ise,h.n'.low hm,h.isn⟩
theorem oy{w:World}{B:Nat}(a0 a1 a2 a3 a4 a5 a6 a7 a8 a9:Value):Km (fun c=>c=B) w ((((((((((w.setCell ⟨B,0,none⟩ a0).setCell ⟨B,1,none⟩ a1).setCell ⟨B,2,none⟩ a2).setCell ⟨B,3,none⟩ a3).setCell ⟨B,4,none⟩ a4).setCell ⟨B,5,none⟩ a5).setCell ⟨B,6,none⟩ a6).setCell ⟨B,7,none⟩ a7).setCell ⟨B,8,none⟩ a8).setCell ⟨B,9,none⟩ a9):=
 (((((((((((Km.refl (fun c=>c=B) w).setCell (fun _=>rfl) _).setCell (fun _=>rfl) _).setCell (fun _=>rfl) _).setCell (fun _=>rfl) _).setCell (fun _=>rfl) _).setCell (fun _=>rfl) _).setCell (fun _=>rfl) _).setCell (fun _=>rfl) _).setCell (fun _=>rfl) _).setCell (fun _=>rfl) _)
theorem KH{w:World}{B:Nat}{T:TypeId}{c0 c1 c2 c3 c4 c5 c6 c7 c8 c9:Value}{fr:Nat×Nat}(h:w.heap[B]?=some (.cells #[c0,c1,c2,c3,c4,c5,c6,c7,c8,c9] T fr))(a0 a1 a2 a3 a4 a5 a6 a7 a8 a9:Value):
  ((((((((((w.setCell ⟨B,0,none⟩ a0).setCell ⟨B,1,none⟩ a1).setCell ⟨B,2,none⟩ a2).setCell ⟨B,3,none⟩ a3).setCell ⟨B,4,none⟩ a4).setCell ⟨B,5,none⟩ a5).setCell ⟨B,6,none⟩ a6).setCell ⟨B,7,none⟩ a7).setCell ⟨B,8,none⟩ a8).setCell ⟨B,9,none⟩ a9).heap[B]?=some (.cells #[a0,a1,a2,a3,a4,a5,a6,a7,a8,a9] T fr):=by
 have:=aq (aq (aq (aq (aq (aq (aq (aq (aq (aq h 0 a0) 1 a1) 2 a2) 3 a3) 4 a4) 5 a5) 6 a6) 7 a7) 8 a8) 9 a9;exact NY
end
theorem Iw(A:Option Addr)(c:Nat)(l:List Sp)(hl:∀x∈l,x.In)(hm:l.length≤20000)(w:World)(hr:cm w w.heap.size A l):
  Calls prog 15 #[.slice A l.length c] w fun e w'=>∃v,e=.returned v∧dY w' w.heap.size (cB (av l)) v∧Below w.heap.size w w':=by
 have b0:=zB w (.cells #[.slice none 0 0,.int .i64 0,.int .i64 0,.int .i64 0,.int .i64 0,.slice none 0 0,.slice none 0 0,.slice none 0 0,.slice none 0 0,.slice none 0 0] 88);have n0:=Up w (.cells #[.slice none 0 0,.int .i64 0,.int .i64 0,.int .i64 0,.int .i64 0,.slice none 0 0,.slice none 0 0,.slice none 0 0,.slice none 0 0,.slice none 0 0] 88);have hrec:=gW (aG hl);have hvl:bF (aA l)=(cB (av l)).map (·.2):=(jU _).symm;have hlen:(cB (av l)).length≤l.length:=Pt (Qc _ _) (bh hl);have H1:=zH (fun w1 (b:Below w.heap.size w w1)=>Ik A c l hl hm w1 ((hr.below b).more b.size));have H3:=zH (fun w1 (b:Below w.heap.size w w1)=>Ln A c l hl (by omega) w1 ((hr.below b).more b.size));have H4:=zH (fun w1 (b:Below w.heap.size w w1)=>J9 A c l hl hm w1 ((hr.below b).more b.size));have H5:=zH (fun w1 (b:Below w.heap.size w w1)=>Hn A c l hl hm w1 ((hr.below b).more b.size));rw[hvl]at H3 H5;generalize cB (av l)=V at*;have H2:=zH (fun(w1:World) (X:List Pl) (vp:Value) (n:Nat) (o:w1.ownsRow n 98 6 vp X.length (X.flatMap iq)) (hX:eZ V X)=>show ∃A c,vp=.slice A X.length c∧Calls prog 41 #[.slice A X.length c] w1 _ from by
  obtain⟨A,c,rfl,h1,h2⟩:=qz o;exact⟨A,c,rfl,FQ A c X (hX.vd hrec (by omega)) (by have:=hX.len;omega) w1 h1 (fun g e=>(h2 g e).2)⟩)
 have HB0:=zH b0;clear b0 hr hvl hrec;go_enter func15,ntmps15;go_wp2_with (first |((with_reducible refine(H1.out _ HB0.out).mono ?_);rintro e w1 ⟨vp,X,rfl,o1,i1,b1⟩;obtain⟨pA,pc,e1,hS⟩:=H2.out w1 X vp _ o1 i1;subst e1;have B1:=ah b1 HB0.out;have n1:=af n0 b1;have hz0:=am n1;have HO1:=zH (Uq o1 i1);have HS:=zH hS;have HB1:=zH B1;clear H1 H2 o1 i1 hS B1 b1 n0) |((with_reducible refine(HS.out).mono ?_);rintro e w2 ⟨v1,v2,LD,LF,rfl,t1,t2,o2,o3,b2⟩;obtain⟨dA,dc,rfl⟩:=an o2;obtain⟨fA,fc,rfl⟩:=an o3;have n2:=af n1 b2;have HO2:=zH (Uq t1 (Uq t2 (Uq o2 o3)));have HB2:=zH (Uq b2 (ah b2 HB1.out));clear HS t1 t2 o2 o3 b2 n1) |((with_reducible refine(H3.out _ HB2.out.2).mono ?_);rintro e w3 ⟨vo,rfl,⟨lo,o4,i4⟩,b3⟩;obtain⟨oA,oc,rfl⟩:=an o4.row;have n3:=af n2 b3;have HO3:=zH (Uq o4 i4);have HB3:=zH (Uq b3 (ah b3 HB2.out.2));clear H3 o4 i4 b3 n2) |((with_reducible refine(H4.out _ HB3.out.2).mono ?_);rintro e w4 ⟨ve,O,rfl,o5,i5,b4⟩;obtain⟨eA,ec,rfl⟩:=an o5;have n4:=af n3 b4;have HO4:=zH (Uq o5 i5);have HB4:=zH (Uq b4 (ah b4 HB3.out.2));clear H4 o5 i5 b4 n3) |((with_reducible refine(H5.out _ HB4.out.2).mono ?_);rintro e w5 ⟨vn,rfl,⟨ln,o6,i6⟩,b5⟩;obtain⟨nA,nc,rfl⟩:=an o6.row;have n5:=af n4 b5;have HO5:=zH (Uq o6 i6);have HB5:=zH (Uq b5 (ah b5 HB4.out.2));clear H5 o6 i6 b5 n4;have f0:=ak n5;have y0:=aa n5));have hz1:=am n5;have z1:(w.alloc (.cells #[.slice none 0 0,.int .i64 0,.int .i64 0,.int .i64 0,.int .i64 0,.slice none 0 0,.slice none 0 0,.slice none 0 0,.slice none 0 0,.slice none 0 0] 88)).heap.size=w.heap.size+1:=Pq _ _;have hs1:=HB1.out.size;have hs2:=HB2.out.1.size;have hs3:=HB3.out.1.size;have hs4:=HB4.out.1.size;have hs5:=HB5.out.1.size;have hT:dY w5 (w.heap.size+1) V (.agg #[.slice pA X.length pc,.int .i64 (X.length:Nat),.int .i64 (bH X 1),.int .i64 (bH X 2),.int .i64 (bH X 3),.slice dA LD.length dc,.slice fA LF.length fc,.slice oA lo.length oc,.slice eA O.length ec,.slice nA ln.length nc]):=by
  have q5:=HB5.out.1;have q4:=HB4.out.1.trans (q5.mono HB4.out.1.size);have q3:=HB3.out.1.trans (q4.mono HB3.out.1.size);have q2:=HB2.out.1.trans (q3.mono HB2.out.1.size);refine⟨_,X,_,LD,_,LF,_,lo,_,O,_,ln,rfl,aI (au HO1.out.1 q2) (Nat.le_of_eq z1.symm),HO1.out.2,aI (au HO2.out.2.2.1 q3) ?_,HO2.out.1,aI (au HO2.out.2.2.2 q3) ?_,HO2.out.2.1,(HO3.out.1.below q4).low ?_,HO3.out.2,aI (au HO4.out.1 q5) ?_,HO4.out.2,HO5.out.1.low ?_,HO5.out.2⟩<;>omega
 refine Ux (v:=.agg #[.slice pA X.length pc,.int .i64 (X.length:Nat),.int .i64 (bH X 1),.int .i64 (bH X 2),.int .i64 (bH X 3),.slice dA LD.length dc,.slice fA LF.length fc,.slice oA lo.length oc,.slice eA O.length ec,.slice nA ln.length nc]) (Vi rfl _ _ w.heap.size 88 _ (0,0) _ rfl (KH n5 _ _ _ _ _ _ _ _ _ _) underlying88 rfl (by kernel_rfl)) rfl ?_;exact Og
end
section
open Go.Shelf AvlP BigP PlcP
section
variable{own:Nat→Nat}{b h:Nat}{w w':World}{B:Nat}{cs:Array Value}{ty:TypeId}{V:List (ByteArray×Sp)}{k:Bool}
theorem GA{w:World}{B:Nat}(a0 a1 a2 a3 a4 a5:Value):Km (fun c=>c=B) w ((((((w.setCell ⟨B,0,none⟩ a0).setCell ⟨B,1,none⟩ a1).setCell ⟨B,2,none⟩ a2).setCell ⟨B,3,none⟩ a3).setCell ⟨B,4,none⟩ a4).setCell ⟨B,5,none⟩ a5):=
 (((((((Km.refl (fun c=>c=B) w).setCell (fun _=>rfl) _).setCell (fun _=>rfl) _).setCell (fun _=>rfl) _).setCell (fun _=>rfl) _).setCell (fun _=>rfl) _).setCell (fun _=>rfl) _)
theorem Mn{w:World}{B:Nat}{T:TypeId}{c0 c1 c2 c3 c4 c5:Value}{fr:Nat×Nat}(h:w.heap[B]?=some (.cells #[c0,c1,c2,c3,c4,c5] T fr))(a0 a1 a2 a3 a4 a5:Value):
  ((((((w.setCell ⟨B,0,none⟩ a0).setCell ⟨B,1,none⟩ a1).setCell ⟨B,2,none⟩ a2).setCell ⟨B,3,none⟩ a3).setCell ⟨B,4,none⟩ a4).setCell ⟨B,5,none⟩ a5).heap[B]?=some (.cells #[a0,a1,a2,a3,a4,a5] T fr):=by
 have:=aq (aq (aq (aq (aq (aq h 0 a0) 1 a1) 2 a2) 3 a3) 4 a4) 5 a5;exact NY
abbrev Db(fn q:Nat):Prop:=∀(B:Nat) (w:World),Calls prog fn #[.pointer (some ⟨B,0,none⟩)] w fun e w'=>e=.returned (.pointer (some ⟨B,q,none⟩))∧w'=w
theorem wN:Db 32 2∧Db 34 16∧Db 36 18∧Db 38 25:=by
 refine⟨?_,?_,?_,?_⟩
 all_goals
  intro B w;have hnn:=pg B
  first |go_enter func32,ntmps32 |go_enter func34,ntmps34 |go_enter func36,ntmps36 |go_enter func38,ntmps38
  exact NR
theorem pO(H:kW own b h w B cs ty V k)(hl:V.length≤40000):
  Calls prog 24 #[.pointer (some ⟨B,0,none⟩)] w fun e w'=>∃X v1 v2 LD LF,e=.returned (.agg #[.int .i64 (X.length:Nat),.int .i64 (bH X 1),.int .i64 (bH X 2),.int .i64 (bH X 3),v1,v2])∧eZ V X∧bL LD (bT X)∧bL LF (cZ X)∧
   w'.ownsRow w.heap.size 237 2 v1 LD.length (LD.flatMap aP)∧w'.ownsRow w.heap.size 237 2 v2 LF.length (LF.flatMap aP)∧Below w.heap.size w w':=by
 obtain⟨A,C,P,H5,hF,hA⟩:=H.p;have hX:=hF.pls H.v hA;have b0:=zB w (.cells #[.int .i64 0,.int .i64 0,.int .i64 0,.int .i64 0,.slice none 0 0,.slice none 0 0] 83);have n0:=Up w (.cells #[.int .i64 0,.int .i64 0,.int .i64 0,.int .i64 0,.slice none 0 0,.slice none 0 0] 83);have hz0:(w.alloc (.cells #[.int .i64 0,.int .i64 0,.int .i64 0,.int .i64 0,.slice none 0 0,.slice none 0 0] 83)).heap.size=w.heap.size+1:=Pq _ _;have HS:=zH (zR (H5.below H.box H.ow b0).s (by have:=hX.len;omega));generalize P.map (·.2)=X at*;have hnn:=pg B;have HX:=zH hX;have HB0:=zH b0;have HZ0:=zH hz0;clear H H5 hF hA hX b0 hz0;go_enter func24,ntmps24;go_wp2_with ((with_reducible refine(HS.out).mono ?_);rintro e w1 ⟨v1,v2,LD,LF,rfl,t1,t2,o1,o2,b1⟩;obtain⟨dA,dc,rfl⟩:=an o1;obtain⟨fA,fc,rfl⟩:=an o2;have n1:=af n0 b1;have HO:=zH (Uq t1 (Uq t2 (Uq o1 (Uq o2 b1))));clear t1 t2 o1 o2 b1 n0 HS;have f0:=ak n1;have y0:=aa n1);have hk:=GA (w:=w1) (B:=w.heap.size) (.int .i64 (X.length:Nat)) (.int .i64 (bH X 1)) (.int .i64 (bH X 2)) (.int .i64 (bH X 3)) (.slice dA LD.length dc) (.slice fA LF.length fc);obtain⟨t1,t2,o1,o2,b1⟩:=HO.out;have hz:=HZ0.out;have hst:∀{v:Value} {m:Nat} {xs:List Value},w1.ownsRow (w.alloc (.cells #[.int .i64 0,.int .i64 0,.int .i64 0,.int .i64 0,.slice none 0 0,.slice none 0 0] 83)).heap.size 237 2 v m xs→∀g,v.ownBlock=some g→¬g=w.heap.size:=fun o g e=>by have:=(o.lt g e).1;omega
 refine Ux (v:=.agg #[.int .i64 (X.length:Nat),.int .i64 (bH X 1),.int .i64 (bH X 2),.int .i64 (bH X 3),.slice dA LD.length dc,.slice fA LF.length fc]) (Vi rfl _ _ w.heap.size 83 _ (0,0) _ rfl (Mn n1 _ _ _ _ _ _) underlying83 rfl (by kernel_rfl)) rfl ?_;exact⟨X,_,_,LD,LF,rfl,HX.out,t1,t2,aI (bP o1 fun g e=>hk.block g (o1.lt g e).2 (hst o1 g e)) (by omega),aI (bP o2 fun g e=>hk.block g (o2.lt g e).2 (hst o2 g e)) (by omega),(ah b1 HB0.out).trans (hk.below (fun b hb e=>by omega) (by have:=b1.size;omega))⟩
theorem Ja(H:kW own b h w B cs ty V true)(hl:V.length≤40000):
  Calls prog 14 #[.pointer (some ⟨B,0,none⟩)] w fun e w'=>∃v,e=.returned v∧dY w' w.heap.size V v∧Below w.heap.size w w':=by
 have b0:=zB w (.cells #[.slice none 0 0,.int .i64 0,.int .i64 0,.int .i64 0,.int .i64 0,.slice none 0 0,.slice none 0 0,.slice none 0 0,.slice none 0 0,.slice none 0 0] 88);have n0:=Up w (.cells #[.slice none 0 0,.int .i64 0,.int .i64 0,.int .i64 0,.int .i64 0,.slice none 0 0,.slice none 0 0,.slice none 0 0,.slice none 0 0,.slice none 0 0] 88);obtain⟨A,C,P,H5,hF,hA⟩:=H.p;have hX:=hF.pls H.v hA;have hlX:=hX.len;rw[Ur]at hlX;have HV:=zH H;have H1:=zH (fun w1 (b1:Below w.heap.size w w1)=>show Calls prog 33 #[.pointer (some ⟨B,2,none⟩)] w1 fun e w'=>∃v,e=.returned v∧w'.ownsRow w1.heap.size 98 6 v (P.map (·.2)).length ((P.map (·.2)).flatMap iq)∧Below w1.heap.size w1 w' from by
  obtain⟨p1,p2,p3,f⟩:=(H5.below H.box H.ow b1).f;have:=yJ B 2 ((aa f.bB 6).trans f.k4) f.tP (by omega);rw[List.flatMap_map,Ur];exact this)
 have H2:=zH (fun w1 (b1:Below w.heap.size w w1)=>pO (H.below b1) hl);have H3:=zH (fun w1 (b1:Below w.heap.size w w1)=>xC (H5.below H.box H.ow b1).o (fun x hx=>(H.v.get (H.v.mem.1 hx)).2.few) (by rw[Ur];omega));have H4:=zH (fun w1 (b1:Below w.heap.size w w1)=>show Calls prog 37 #[.pointer (some ⟨B,18,none⟩)] w1 fun e w'=>∃v O,e=.returned v∧w'.ownsRow w1.heap.size 173 3 v O.length (O.flatMap tu)∧oU (mf V) O∧Below w1.heap.size w1 w' from by
  obtain⟨M,e⟩:=(H5.below H.box H.ow b1).e;exact CI e H.v hl)
 have H6:=zH (fun w1 (b1:Below w.heap.size w w1)=>yx (H5.below H.box H.ow b1).n (fun x hx=>(H.v.get (H.v.mem.1 hx)).2.few) (by rw[Ur];exact hl));generalize P.map (·.2)=X at*;have HX:=zH hX;obtain⟨P1,P2,P3,P4⟩:=wN;have HP1:=zH P1;have HP2:=zH P2;have HP3:=zH P3;have HP4:=zH P4;have HB0:=zH b0;clear H5 hF hA hX hlX b0 P1 P2 P3 P4 H;go_enter func14,ntmps14;go_wp2_with (first
  |(go_at_call 32;(with_reducible refine(HP1.out _ _).mono ?_);rintro e wq ⟨rfl,rfl⟩) |(go_at_call 34;(with_reducible refine(HP2.out _ _).mono ?_);rintro e wq ⟨rfl,rfl⟩) |(go_at_call 36;(with_reducible refine(HP3.out _ _).mono ?_);rintro e wq ⟨rfl,rfl⟩) |(go_at_call 38;(with_reducible refine(HP4.out _ _).mono ?_);rintro e wq ⟨rfl,rfl⟩)
  |(go_at_call 33;(with_reducible refine(H1.out _ HB0.out).mono ?_);rintro e w1 ⟨vp,rfl,o1,b1⟩;obtain⟨pA,pc,rfl⟩:=an o1;have n1:=af n0 b1;have hz0:=am n1;have HO1:=zH o1;have HB1:=zH (ah b1 HB0.out);clear H1 o1 b1 n0)
  |(go_at_call 24;(with_reducible refine(H2.out _ HB1.out).mono ?_);rintro e w2 ⟨X2,v1,v2,LD,LF,rfl,i2,t1,t2,o2,o3,b2⟩;obtain rfl:=eZ.unique i2 HX.out;obtain⟨dA,dc,rfl⟩:=an o2;obtain⟨fA,fc,rfl⟩:=an o3;have n2:=af n1 b2;have HO2:=zH (Uq t1 (Uq t2 (Uq o2 o3)));have HB2:=zH (Uq b2 (ah b2 HB1.out));clear H2 t1 t2 o2 o3 b2 n1 i2)
  |(go_at_call 35;(with_reducible refine(H3.out _ HB2.out.2).mono ?_);rintro e w3 ⟨vo,rfl,⟨lo,o4,i4⟩,b3⟩;obtain⟨oA,oc,rfl⟩:=an o4.row;have n3:=af n2 b3;have HO3:=zH (Uq o4 i4);have HB3:=zH (Uq b3 (ah b3 HB2.out.2));clear H3 o4 i4 b3 n2)
  |(go_at_call 37;(with_reducible refine(H4.out _ HB3.out.2).mono ?_);rintro e w4 ⟨ve,O,rfl,o5,i5,b4⟩;obtain⟨eA,ec,rfl⟩:=an o5;have n4:=af n3 b4;have HO4:=zH (Uq o5 i5);have HB4:=zH (Uq b4 (ah b4 HB3.out.2));clear H4 o5 i5 b4 n3)
  |(go_at_call 39;(with_reducible refine(H6.out _ HB4.out.2).mono ?_);rintro e w5 ⟨vn,rfl,⟨ln,o6,i6⟩,b5⟩;obtain⟨nA,nc,rfl⟩:=an o6.row;have n5:=af n4 b5;have HO5:=zH (Uq o6 i6);have HB5:=zH (Uq b5 (ah b5 HB4.out.2));clear H6 o6 i6 b5 n4;have f0:=ak n5;have y0:=aa n5))
 have z1:(w.alloc (.cells #[.slice none 0 0,.int .i64 0,.int .i64 0,.int .i64 0,.int .i64 0,.slice none 0 0,.slice none 0 0,.slice none 0 0,.slice none 0 0,.slice none 0 0] 88)).heap.size=w.heap.size+1:=Pq _ _;have hs1:=HB1.out.size;have hs2:=HB2.out.1.size;have hs3:=HB3.out.1.size;have hs4:=HB4.out.1.size;have hs5:=HB5.out.1.size;have hz5:=am n5;have hT:dY w5 (w.heap.size+1) V (.agg #[.slice pA X2.length pc,.int .i64 (X2.length:Nat),.int .i64 (bH X2 1),.int .i64 (bH X2 2),.int .i64 (bH X2 3),.slice dA LD.length dc,.slice fA LF.length fc,.slice oA lo.length oc,.slice eA O.length ec,.slice nA ln.length nc]):=by
  have q5:=HB5.out.1;have q4:=HB4.out.1.trans (q5.mono HB4.out.1.size);have q3:=HB3.out.1.trans (q4.mono HB3.out.1.size);have q2:=HB2.out.1.trans (q3.mono HB2.out.1.size);refine⟨_,X2,_,LD,_,LF,_,lo,_,O,_,ln,rfl,aI (au HO1.out q2) (Nat.le_of_eq z1.symm),HX.out,aI (au HO2.out.2.2.1 q3) ?_,HO2.out.1,aI (au HO2.out.2.2.2 q3) ?_,HO2.out.2.1,(HO3.out.1.below q4).low ?_,HO3.out.2,aI (au HO4.out.1 q5) ?_,HO4.out.2,HO5.out.1.low ?_,HO5.out.2⟩<;>omega
 refine Ux (v:=.agg #[.slice pA X2.length pc,.int .i64 (X2.length:Nat),.int .i64 (bH X2 1),.int .i64 (bH X2 2),.int .i64 (bH X2 3),.slice dA LD.length dc,.slice fA LF.length fc,.slice oA lo.length oc,.slice eA O.length ec,.slice nA ln.length nc]) (Vi rfl _ _ w.heap.size 88 _ (0,0) _ rfl (KH n5 _ _ _ _ _ _ _ _ _ _) underlying88 rfl (by kernel_rfl)) rfl ?_;exact Og
end
def DF(own:Nat→Nat)(bs bv h B c:Nat):Prop:=lT own bs c∨VF own bv h B c
structure DT(bs bv h:Nat):Prop where
 s:0<bs
 v:bs+3<bv
 h':bv+15<h
structure wD(own:Nat→Nat)(bs bv h:Nat)(w:World)(S Q M B:Nat)(lim:Int)(l:List Sp)(k:Bool):Prop where
 i:∀x∈l,x.In
 s:∃many f,ew own bs w S Q M lim (av l) many f l.length∧0≤many∧many≤l.length∧∀t,0≤f t∧f t≤l.length
 v:ko own bv h w B 74 (cB (av l)) k
section
variable{own own':Nat→Nat}{bs bv h:Nat}{w w':World}{S Q M B:Nat}{lim:Int}{l r:List Sp}{k:Bool}{F:Nat→Prop}
theorem DT.vt(T:DT bs bv h):VT bv h:=⟨by have:=T.s;have:=T.v;omega,T.h'⟩
theorem ew.farE{L:List (ByteArray×Sp)}{many:Int}{f:Int→Int}{n:Nat}(H:ew own bs w S Q M lim L many f n)(hk:Km F w w')(hf:∀x,x<w.heap.size→lT own bs x→¬F x)(he:aO own own' w)(ho:Ow own' w'):ew own' bs w' S Q M lim L many f n:=by
 obtain⟨cs,p,p1,p2,A,C,H,h1⟩:=H;have lS:=am H.box;have lQ:=am H.quo.box;have lM:=H.quo.map.lt;have g:∀x,x<w.heap.size→bs≤own x→own x≤bs+3→¬F x:=fun x hx e1 e2=>hf x hx ⟨e1,e2⟩;exact⟨cs,p,p1,p2,A,C,{H with
  box:=hk.at H.box (g S lS (by rw[H.wS];omega) (by rw[H.wS];omega))
  tr:=H.tr.kmE hk (fun x hx e=>g x hx (by omega) (by omega)) he
  a:=H.a.kmE hk (fun x hx e=>g x hx (by omega) (by omega)) he
  c:=H.c.kmE hk (fun x hx e=>g x hx (by omega) (by omega)) he
  quo:=H.quo.kp hk (g Q lQ (by rw[H.wQ];omega) (by rw[H.wQ];omega)) (g M lM (by rw[H.wM];omega) (by rw[H.wM];omega))
  ow:=ho
  wS:=(he S lS).trans H.wS
  wQ:=(he Q lQ).trans H.wQ
  wM:=(he M lM).trans H.wM},h1⟩
theorem ko.ow{V:List (ByteArray×Sp)}{ty:TypeId}(H:ko own bv h w B ty V k):Ow own w:=by
 obtain⟨_,H⟩:=H;exact H.ow
theorem ko.oB{V:List (ByteArray×Sp)}{ty:TypeId}(H:ko own bv h w B ty V k):own B=0∧B<w.heap.size:=by
 obtain⟨_,H⟩:=H;exact⟨H.oB,am H.box⟩
theorem wD.far(D:wD own bs bv h w S Q M B lim l k)(hk:Km F w w')(hf:∀c,c<w.heap.size→DF own bs bv h B c→¬F c)(he:aO own own' w)(ho:Ow own' w'):wD own' bs bv h w' S Q M B lim l k:=by
 obtain⟨many,f,s,m⟩:=D.s;exact⟨D.i,⟨many,f,s.farE hk (fun x hx e=>hf x hx (.inl e)) he ho,m⟩,D.v.far hk (fun c hc e=>hf c hc (.inr e)) he ho⟩
theorem wD.below(D:wD own bs bv h w S Q M B lim l k)(hb:Below w.heap.size w w'):wD own bs bv h w' S Q M B lim l k:=D.far (Km.of_below (fun _=>False) hb) (fun _ _ _=>id) (aO.refl _ _) (D.v.ow.mono hb.size)
theorem DF.ext{c:Nat}(he:aO own own' w)(hlt:c<w.heap.size)(H:DF own' bs bv h B c):DF own bs bv h B c:=by
 unfold DF lT VF at*
 rwa [he c hlt]at H
theorem DF.none{c:Nat}(hT:DT bs bv h)(h0:own c=0)(hne:c≠B):¬DF own bs bv h B c:=fun hf=>by
 have:=hT.s;have:=hT.v;have:=hT.h';unfold DF lT VF at hf;rw[h0]at hf;omega
theorem rA(hl:∀x∈r,x.In)(L:List (ByteArray×Sp)):(ly L r).length≤r.length∧(nu L r).length≤r.length:=by
 have h1:=bh hl;have h2:(aA r).length=(av r).length:=by unfold aA;rw[Ur]
 constructor
 ·unfold ly;exact Pt (Vl _ _) (by omega)
 ·unfold nu;exact Pt (Qc _ _) (by omega)
structure IE(own:Nat→Nat)(bs bv h:Nat)(w:World)(S Q M B:Nat)(lim:Int)(l r:List Sp)(k:Bool)(A1:Option Addr)(n1 c1:Nat)(A2:Option Addr)(n2 c2:Nat):Prop where
 i:∀x∈l++r,x.In
 s:∃many f,ew own bs w S Q M lim (av (l++r)) many f (l++r).length∧0≤many∧many≤(l++r).length∧∀t,0≤f t∧f t≤(l++r).length
 v:ko own bv h w B 74 (cB (av l)) k
 n:(cB (av l)).length≤300
 d:∃O I B1 B2,n1=O.length∧n2=I.length∧O.length≤300∧I.length≤300∧cD O∧cD I∧(∀x∈O,x∉I)∧kO (cB (av l)) (cB (av (l++r))) (bF O) (bF I)∧w.ownsRow B1 93 9 (.slice A1 n1 c1) O.length (O.flatMap bg)∧w.ownsRow B2 93 9 (.slice A2 n2 c2) I.length (I.flatMap bg)
theorem IE.below{A1 A2:Option Addr}{n1 c1 n2 c2:Nat}(H:IE own bs bv h w S Q M B lim l r k A1 n1 c1 A2 n2 c2)(hb:Below w.heap.size w w'):IE own bs bv h w' S Q M B lim l r k A1 n1 c1 A2 n2 c2:=by
 obtain⟨many,f,s,m⟩:=H.s;obtain⟨O,I,B1,B2,d1,d2,d3,d4,d5,d6,d7,d8,d9,d10⟩:=H.d;exact⟨H.i,⟨many,f,s.farE (Km.of_below (fun _=>False) hb) (fun _ _ _=>id) (aO.refl _ _) (H.v.ow.mono hb.size),m⟩,H.v.below hb,H.n,⟨O,I,B1,B2,d1,d2,d3,d4,d5,d6,d7,d8,au d9 hb,au d10 hb⟩⟩
theorem CL(D:wD own bs bv h w S Q M B lim l k)(hT:DT bs bv h)(A:Option Addr)(c:Nat)(hr:∀x∈r,x.In)(hm:(l.length:Int)+r.length≤lim)(hlim:lim≤280)(hrd:cm w w.heap.size A r)(hA:∀ad,A=some ad→own ad.block=0):
  Calls prog 22 #[.pointer (some ⟨S,0,none⟩),.slice A r.length c] w fun e w'=>∃A1 n1 c1 A2 n2 c2 own',e=.returned (.tuple #[.agg #[.slice A1 n1 c1,.slice A2 n2 c2],.int .i64 0])∧IE own' bs bv h w' S Q M B lim l r k A1 n1 c1 A2 n2 c2∧aO own own' w∧Km (DF own bs bv h B) w w':=by
 obtain⟨many,f,s,m1,m2,m3⟩:=D.s;have hlr:=rA hr (av l);have hnl:=bh D.i;have hll:(cB (av l)).length≤(av l).length:=Qc _ _;have hrec:=aG D.i;have HPT:=F2 hrec hr;have hpn:=Ag D.i hr;have hb1:=pH (bc (av l) r) (many,f);have hb2:=qI (bc (av l) r) (many,f);have hfl:=nh (L:=av l) hr;have HP:=Dt s (by omega) A c r hr (by omega) hrd hA ⟨m1,fun t=>⟨(m3 t).1,by have:=m3 t;omega⟩,by omega,by omega⟩;rw[hpn]at HPT HP;have hoB:=D.v.oB;have hTs:=hT.s;have hTv:=hT.v;have hTh:=hT.h';refine HP.mono ?_;rintro e w1 ⟨vo,vi,own1,rfl,o1,o2,s1,k1,x1,z1,z2⟩;obtain⟨oA,oc,rfl⟩:=an o1;obtain⟨iA,ic,rfl⟩:=an o2;have how1:Ow own1 w1:=by
  obtain⟨_,_,_,_,_,_,s1,_⟩:=s1;exact s1.ow
 refine⟨oA,_,oc,iA,_,ic,own1,rfl,⟨fS D.i hr,⟨_,_,by rw[Pu];exact s1,by omega,by rw[Pu];omega,fun t=>?_⟩,?_,by omega,⟨_,_,_,_,rfl,rfl,by omega,by omega,xz hrec hr,iL (L:=av l) hr,oq hrec hr,HPT,o1,o2⟩⟩,x1,k1.mono fun c hc hf=>.inl hf⟩
 ·have h1:f t≤_∧_≤f t+_:=hb2 t;have h2:=m3 t;rw[Pu];omega
 ·exact D.v.far k1 (fun c hc hf hs=>by unfold VF at hf;unfold lT at hs;rcases hf with e |e |e;(subst e;omega);omega;omega) x1 how1
theorem uF{A1 A2:Option Addr}{n1 c1 n2 c2:Nat}(H:IE own bs bv h w S Q M B lim l r k A1 n1 c1 A2 n2 c2)(hT:DT bs bv h):
  Calls prog 23 #[.pointer (some ⟨B,0,none⟩),.agg #[.slice A1 n1 c1,.slice A2 n2 c2]] w fun e w'=>(∃n,e=.returned (.tuple #[.int .i64 n,.int .i64 0]))∧∃own',wD own' bs bv h w' S Q M B lim (l++r) true∧aO own own' w∧Km (DF own bs bv h B) w w':=by
 obtain⟨many,f,s,m⟩:=H.s;obtain⟨O,I,B1,B2,rfl,rfl,d3,d4,d5,d6,d7,d8,d9,d10⟩:=H.d;have hoB:=H.v.oB;have hTs:=hT.s;have hTv:=hT.v;have hTh:=hT.h';obtain⟨cs,hV⟩:=H.v;refine(Dj hV hT.vt d5 d6 d7 d8 H.n d3 d4 _ _ d9 d10).mono ?_;rintro e w3 ⟨⟨n,rfl⟩,own3,hV3,x3,k3⟩;exact⟨⟨n,rfl⟩,own3,⟨H.i,⟨many,f,s.farE k3 (fun c hc hs hf=>by
  unfold VF at hf;unfold lT at hs;rcases hf with e |e |e;(subst e;omega);omega;omega) x3 hV3.ow,m⟩,hV3⟩,x3,k3.mono fun c hc hf=>.inr hf⟩
theorem AX(D:wD own bs bv h w S Q M B lim l k)(hT:DT bs bv h)(A:Option Addr)(c:Nat)(hr:∀x∈r,x.In)(hm:(l.length:Int)+r.length≤lim)(hlim:lim≤280)(hrd:cm w w.heap.size A r)(hA:∀ad,A=some ad→own ad.block=0):
  Calls prog 9 #[.pointer (some ⟨S,0,none⟩),.pointer (some ⟨B,0,none⟩),.slice A r.length c] w fun e w'=>e=.returned (.bool true)∧∃own',wD own' bs bv h w' S Q M B lim (l++r) true∧aO own own' w∧Km (DF own bs bv h B) w w':=by
 have HP:=zH (CL D hT A c hr hm hlim hrd hA);have HX:=zH hT;clear D hT hr hrd hm hA;go_enter func9,ntmps9;go_wp2_with (first |(go_at_call 22;(with_reducible refine(HP.out).mono ?_);rintro e w1 ⟨A1,n1,c1,A2,n2,c2,own1,rfl,h1,x1,k1⟩;have HA:=zH (fun W (b:Below w1.heap.size w1 W)=>uF (h1.below b) HX.out);have HK1:=zH (Uq x1 k1);clear h1 x1 k1) |(go_at_call 23;(with_reducible refine(HA.out _ (ae _ (Pk _ _))).mono ?_);rintro e w3 ⟨⟨n,rfl⟩,own3,D3,x3,k3⟩));go_ret;obtain⟨x1,k1⟩:=HK1.out;have hz:w1.heap.size≤(w1.alloc (.cells #[.slice A1 n1 c1,.slice A2 n2 c2] 103)).heap.size:=(ae _ (Pk _ w1)).size;exact⟨rfl,own3,D3,fun c hc=>(x3 c (by have:=k1.size;omega)).trans (x1 c hc),(k1.trans (Km.of_below _ (ae _ (Pk _ w1)))).trans' k3 fun c hc hf=>hf.ext x1 hc⟩
end
end
section
open AvlP
def Ff(fn k:Nat){β:Type}(f:β→List Value)(p:β→Prop):Prop:=∀(A A':Option Addr) (c c' m m':Nat) (la lb:List β) (fd:Nat),(∀args w,(callFunc fd args).run prog w=.ok (.enter fd args) w)→∀(w:World),la.length=lb.length→la.length≤maxLen→(∀x∈la,p x)→(∀x∈lb,p x)→zn f k m w A la→zn f k m' w A' lb→
 (∀(i:Nat) x y,la[i]?=some x→lb[i]?=some y→∀W,Below w.heap.size w W→Calls prog fd #[.agg (f x).toArray,.agg (f y).toArray] W fun e W'=>e=.returned (.bool true)∧Below W.heap.size W W')→
 Calls prog fn #[.slice A la.length c,.slice A' la.length c',.func (.func fd) #[] #[]] w fun e w'=>e=.returned (.bool true)∧Below w.heap.size w w'
theorem Hm:Ff 119 6 iq (fun _=>True)∧Ff 123 3 tu (fun _=>True)∧Ff 196 2 aP (fun _=>True):=by
 refine⟨?_,?_,?_⟩
 all_goals
  unfold Ff;intro A A' c c' m m' la lb fd efd w hl hn hpa hpb ha hb hd;unfold maxLen at hn;have HA:=zH ha;have HB:=zH hb;have HD:=zH hd;have HL:=zH hl;clear ha hb hd hl hpa hpb
  first |go_enter func119,ntmps119 |go_enter func123,ntmps123 |go_enter func196,ntmps196
  go_wp2_with fail;go_loopw [17] (fun i wr=>∃k:Nat,k≤la.length∧i=.int .i64 k∧Below w.heap.size w wr) (fun i _=>la.length - (intOf i).toNat)
  case atStart=>exact⟨0,by omega,rfl,Pk _ _⟩
  case round=>
   obtain⟨k,hk,rfl,hb⟩:=hrel;by_cases hlt:k<la.length
   ·obtain⟨x,hx⟩:=zg hlt;obtain⟨y,hy⟩:∃y,lb[k]?=some y:=⟨lb[k],PT (by have:=HL.out;omega)⟩;have hi1:(k:Int)< (la.length:Int):=by omega
    obtain⟨p,rfl,_,hp,hc⟩:=HA.out.below hb k _ hx;obtain⟨q,rfl,_,hq,hd⟩:=HB.out.below hb k _ hy;have hdd:=HD.out k _ _ hx hy;simp only[iq,tu,aP]at hdd;exact WB
   ·obtain rfl:k=la.length:=by omega
    exact WA
theorem Hl:Ff 122 6 (fun x:Fj×Value=>je x.1 x.2) (fun x=>∃A n c,x.2=.slice A n c)∧Ff 124 3 (fun x:oZ×Value=>jX x.1 x.2) (fun x=>∃A n c,x.2=.slice A n c):=by
 refine⟨?_,?_⟩
 all_goals
  unfold Ff;intro A A' c c' m m' la lb fd efd w hl hn hpa hpb ha hb hd;unfold maxLen at hn;have HA:=zH ha;have HB:=zH hb;have HD:=zH hd;have HL:=zH hl;have HPP:=zH (Uq hpa hpb);clear ha hb hd hl hpa hpb
  first |go_enter func122,ntmps122 |go_enter func124,ntmps124
  go_wp2_with fail;go_loopw [17] (fun i wr=>∃k:Nat,k≤la.length∧i=.int .i64 k∧Below w.heap.size w wr) (fun i _=>la.length - (intOf i).toNat)
  case atStart=>exact⟨0,by omega,rfl,Pk _ _⟩
  case round=>
   obtain⟨k,hk,rfl,hb⟩:=hrel;by_cases hlt:k<la.length
   ·obtain⟨x,hx⟩:=zg hlt;obtain⟨y,hy⟩:∃y,lb[k]?=some y:=⟨lb[k],PT (by have:=HL.out;omega)⟩;obtain⟨Ax,nx,cx,ex⟩:=HPP.out.1 x (Pv hx);obtain⟨Ay,ny,cy,ey⟩:=HPP.out.2 y (Pv hy);obtain⟨x,_⟩:=x;obtain⟨y,_⟩:=y;cases ex;cases ey;have hi1:(k:Int)< (la.length:Int):=by omega
    obtain⟨p,rfl,_,hp,hc⟩:=HA.out.below hb k _ hx;obtain⟨q,rfl,_,hq,hd⟩:=HB.out.below hb k _ hy;have hdd:=HD.out k _ _ hx hy;simp only[je,jX]at hdd;exact WB
   ·obtain rfl:k=la.length:=by omega
    exact WA
end
section
open Go.Shelf AvlP BigP PlcP
theorem kj:(Ff 64 6 iq (fun _=>True)∧Ff 69 3 tu (fun _=>True)∧Ff 120 2 aP (fun _=>True))∧
  Ff 67 6 (fun x:Fj×Value=>je x.1 x.2) (fun x=>∃A n c,x.2=.slice A n c)∧Ff 71 3 (fun x:oZ×Value=>jX x.1 x.2) (fun x=>∃A n c,x.2=.slice A n c):=by
 obtain⟨h1,h2,h3⟩:=Hm;obtain⟨h4,h5⟩:=Hl;refine⟨⟨?a,?b,?c⟩,?d,?e⟩
 case' a=>have HE:=zH h1
 case' b=>have HE:=zH h2
 case' c=>have HE:=zH h3
 case' d=>have HE:=zH h4
 case' e=>have HE:=zH h5
 all_goals
  clear h1 h2 h3 h4 h5;unfold Ff;intro A A' c c' m m' la lb fd efd w hl hn hpa hpb ha hb hd;have H:=zH (HE.out A A' c c' m m' la lb fd efd w hl hn hpa hpb ha hb hd);clear HE hl hn hpa hpb ha hb hd
  first |go_enter func64,ntmps64 |go_enter func69,ntmps69 |go_enter func120,ntmps120 |go_enter func67,ntmps67 |go_enter func71,ntmps71
  exact OQ
theorem yu(x:Pl)(w:World):Calls prog 65 #[.agg (PA x),.agg (PA x)] w fun e w'=>e=.returned (.bool true)∧Below w.heap.size w w':=by
 have hb:=ae (.cells (PA x) 98) (zB w (.cells (PA x) 98));go_enter func65,ntmps65;go_wp2_with fail;go_ret;exact⟨by simp[ol],hb⟩
theorem Bd(x:wC)(w:World):Calls prog 70 #[.agg #[.string x.f,.string x.t,.int .i64 x.n],.agg #[.string x.f,.string x.t,.int .i64 x.n]] w fun e w'=>e=.returned (.bool true)∧Below w.heap.size w w':=by
 have hb:=ae (.cells #[.string x.f,.string x.t,.int .i64 x.n] 173) (zB w (.cells #[.string x.f,.string x.t,.int .i64 x.n] 173));go_enter func70,ntmps70;exact WA
theorem yv(x:Int×Int)(w:World):Calls prog 121 #[.agg #[.int .i64 x.1,.int .i64 x.2],.agg #[.int .i64 x.1,.int .i64 x.2]] w fun e w'=>e=.returned (.bool true)∧Below w.heap.size w w':=by
 have hb:=ae (.cells #[.int .i64 x.1,.int .i64 x.2] 237) (zB w (.cells #[.int .i64 x.1,.int .i64 x.2] 237));go_enter func121,ntmps121;exact WA
theorem EE(x:Int)(w:World):Calls prog 126 #[.int .i64 x,.int .i64 x] w fun e w'=>e=.returned (.bool true)∧Below w.heap.size w w':=by
 have hb:=Pk w.heap.size w;go_enter func126,ntmps126;exact WA
theorem J3(A A':Option Addr)(c c':Nat)(l:List Int)(hn:l.length≤maxLen)(w:World)(ha:E9 w A l)(hb:E9 w A' l):
  Calls prog 197 #[.slice A l.length c,.slice A' l.length c',.func (.func 126) #[] #[]] w fun e w'=>e=.returned (.bool true)∧Below w.heap.size w w':=by
 unfold maxLen at hn;have HA:=zH ha;have HB:=zH hb;clear ha hb;go_enter func197,ntmps197;go_wp2_with fail;go_loopw [17] (fun i wr=>∃k:Nat,k≤l.length∧i=.int .i64 k∧Below w.heap.size w wr) (fun i _=>l.length - (intOf i).toNat)
 case atStart=>exact⟨0,by omega,rfl,Pk _ _⟩
 case round=>
  obtain⟨k,hk,rfl,hb⟩:=hrel;by_cases hlt:k<l.length
  ·obtain⟨x,hx⟩:=zg hlt;have hi1:(k:Int)< (l.length:Int):=by omega
   obtain⟨p,rfl,hp,hc⟩:=HA.out.below hb k _ hx;obtain⟨q,rfl,hq,hd⟩:=HB.out.below hb k _ hx;have HE:=zH (EE x);clear hx;go_wp2_with ((with_reducible refine(HE.out _).mono ?_);rintro e9 w9 ⟨rfl,b9⟩);exact⟨⟨k+1,by omega,by go_num,ah b9 hb⟩,by simp[intOf];omega⟩
  ·obtain rfl:k=l.length:=by omega
   exact WA
theorem E7(A A':Option Addr)(c c':Nat)(l:List Int)(hn:l.length≤maxLen)(w:World)(ha:E9 w A l)(hb:E9 w A' l):
  Calls prog 125 #[.slice A l.length c,.slice A' l.length c',.func (.func 126) #[] #[]] w fun e w'=>e=.returned (.bool true)∧Below w.heap.size w w':=by
 have H:=zH (J3 A A' c c' l hn w ha hb);clear ha hb;go_enter func125,ntmps125;exact OQ
theorem lL(A A':Option Addr)(c c' m m':Nat)(l:List (Int×Int))(hn:l.length≤maxLen)(w:World)(ha:zn aP 2 m w A l)(hb:zn aP 2 m' w A' l):
  Calls prog 120 #[.slice A l.length c,.slice A' l.length c',.func (.func 121) #[] #[]] w fun e w'=>e=.returned (.bool true)∧Below w.heap.size w w':=
 kj.1.2.2 A A' c c' m m' l l _ (fun _ _=>by kernel_rfl) w rfl hn (fun _ _=>trivial) (fun _ _=>trivial) ha hb fun i x y hx hy W _=>by
  rw[hx]at hy;cases hy;exact yv x W
theorem Ar(x:Fj)(A A':Option Addr)(c c' m m':Nat)(hn:x.bk.length≤maxLen)(w:World)(ha:zn aP 2 m w A x.bk)(hb:zn aP 2 m' w A' x.bk):
  Calls prog 68 #[.agg (je x (.slice A x.bk.length c)).toArray,.agg (je x (.slice A' x.bk.length c')).toArray] w fun e w'=>e=.returned (.bool true)∧Below w.heap.size w w':=by
 have bx:=ae (.cells (je x (.slice A' x.bk.length c')).toArray 169) (ae (.cells (je x (.slice A x.bk.length c)).toArray 169) (Pk w.heap.size w));have H:=zH (lL A A' c c' m m' x.bk hn _ (ha.below bx) (hb.below bx));have HB:=zH bx;simp only[je]at H HB⊢;clear ha hb bx;go_enter func68,ntmps68;exact OJ
theorem vW(x:oZ)(A A':Option Addr)(c c':Nat)(hn:x.trs.length≤maxLen)(w:World)(ha:E9 w A x.trs)(hb:E9 w A' x.trs):
  Calls prog 72 #[.agg (jX x (.slice A x.trs.length c)).toArray,.agg (jX x (.slice A' x.trs.length c')).toArray] w fun e w'=>e=.returned (.bool true)∧Below w.heap.size w w':=by
 have bx:=ae (.cells (jX x (.slice A' x.trs.length c')).toArray 178) (ae (.cells (jX x (.slice A x.trs.length c)).toArray 178) (Pk w.heap.size w));have H:=zH (E7 A A' c c' x.trs hn _ (ha.below bx) (hb.below bx));have HB:=zH bx;simp only[jX]at H HB⊢;clear ha hb bx;go_enter func72,ntmps72;exact OJ
theorem po(w:World)(n:Nat)(a b c d:Int):(Op.equalIn (n+1+1) 234 (.agg #[.int .i64 a,.int .i64 b,.int .i64 c,.int .i64 d]) (.agg #[.int .i64 a,.int .i64 b,.int .i64 c,.int .i64 d])).run prog w=.ok true w:=by
 have hi:prog.underlying 3=some (.int .i64):=U7;have e1:∀a w,(Op.equalIn (n+1) 3 (.int .i64 a) (.int .i64 a)).run prog w=.ok true w:=fun a w=>by
  rw[run_equalIn_int w n _ _ .i64 a a hi];simp
 have hs:∀w,(sizeOf 3).run prog w=.ok 1 w:=fun w=>by kernel_rfl
 have hpt:∀x y z u w,(part 3 #[Value.int .i64 x,.int .i64 y,.int .i64 z,.int .i64 u] 0).run prog w=.ok (.int .i64 x) w:=fun x y z u w=>by kernel_rfl
 have hp1:∀x y z u w,(part 3 #[Value.int .i64 x,.int .i64 y,.int .i64 z,.int .i64 u] 1).run prog w=.ok (.int .i64 y) w:=fun x y z u w=>by kernel_rfl
 have hp2:∀x y z u w,(part 3 #[Value.int .i64 x,.int .i64 y,.int .i64 z,.int .i64 u] 2).run prog w=.ok (.int .i64 z) w:=fun x y z u w=>by kernel_rfl
 have hp3:∀x y z u w,(part 3 #[Value.int .i64 x,.int .i64 y,.int .i64 z,.int .i64 u] 3).run prog w=.ok (.int .i64 u) w:=fun x y z u w=>by kernel_rfl
 generalize n+1=m at*;simp only[Op.equalIn,Sem.run_bind,Qu underlying234,VY,hs];simp only[Std.Legacy.Range.forIn_eq_forIn_range',Std.Legacy.Range.size,Nat.sub_zero,Nat.add_sub_cancel,Nat.div_one,List.range'_succ,List.range'_zero,List.forIn_cons,List.forIn_nil,Sem.run_bind,Nat.zero_mul,Vx,Rf,Nat.reduceAdd,hpt,hp1,hp2,hp3,e1,V0,Wl,if_false,VP,Sem.run_ite,VY]
@[local go_sem] theorem Ch(w:World)(a b c d:Int):(Op.equalIn 10000 234 (.agg #[.int .i64 a,.int .i64 b,.int .i64 c,.int .i64 d]) (.agg #[.int .i64 a,.int .i64 b,.int .i64 c,.int .i64 d])).run prog w=.ok true w:=po w 9998 a b c d
theorem xi(a b c d:Int)(D F:List (Int×Int))(A1 A2 B1 B2:Option Addr)(c1 c2 d1 d2 m1 m2 n1 n2:Nat)(hD:D.length≤maxLen)(hF:F.length≤maxLen)(w:World)(h1:zn aP 2 m1 w A1 D)(h2:zn aP 2 m2 w A2 F)(h3:zn aP 2 n1 w B1 D)(h4:zn aP 2 n2 w B2 F):
  Calls prog 66 #[.agg #[.int .i64 a,.int .i64 b,.int .i64 c,.int .i64 d,.slice A1 D.length c1,.slice A2 F.length c2],.agg #[.int .i64 a,.int .i64 b,.int .i64 c,.int .i64 d,.slice B1 D.length d1,.slice B2 F.length d2]] w fun e w'=>e=.returned (.bool true)∧Below w.heap.size w w':=by
 have bx:=ae (.cells #[.int .i64 a,.int .i64 b,.int .i64 c,.int .i64 d,.slice B1 D.length d1,.slice B2 F.length d2] 83) (zB w (.cells #[.int .i64 a,.int .i64 b,.int .i64 c,.int .i64 d,.slice A1 D.length c1,.slice A2 F.length c2] 83));have n1:=ar (Up w (.cells #[.int .i64 a,.int .i64 b,.int .i64 c,.int .i64 d,.slice A1 D.length c1,.slice A2 F.length c2] 83)) (.cells #[.int .i64 a,.int .i64 b,.int .i64 c,.int .i64 d,.slice B1 D.length d1,.slice B2 F.length d2] 83);have n2:=Up (w.alloc (.cells #[.int .i64 a,.int .i64 b,.int .i64 c,.int .i64 d,.slice A1 D.length c1,.slice A2 F.length c2] 83)) (.cells #[.int .i64 a,.int .i64 b,.int .i64 c,.int .i64 d,.slice B1 D.length d1,.slice B2 F.length d2] 83);rw[Pq]at n2;have H1:=zH (lL A1 B1 c1 d1 m1 _ D hD _ (h1.below bx) (h3.below bx));have H2:=zH (fun w1 (b1:Below _ _ w1)=>lL A2 B2 c2 d2 m2 _ F hF w1 ((h2.below bx).below b1) ((h4.below bx).below b1));have HB:=zH bx;clear h1 h2 h3 h4 bx;go_enter func66,ntmps66;go_wp2_with (first |((with_reducible refine(H1.out).mono ?_);rintro e w1 ⟨rfl,b1⟩;have k1:=af n1 b1;have k2:=af n2 b1;have x4:=aa k1 5;have x5:=aa k2 5) |((with_reducible refine(H2.out _ b1).mono ?_);rintro e w2 ⟨rfl,b2⟩));go_ret;exact⟨rfl,ah b2 (ah b1 HB.out)⟩
section
variable{w w':World}{n m:Nat}{V:List (ByteArray×Sp)}{a b:Value}
theorem um{α β:Type}{la lb:List (α×β)}(h:la.map (·.1)=lb.map (·.1)){i:Nat}{x y:α×β}(hx:la[i]?=some x)(hy:lb[i]?=some y):x.1=y.1:=by
 have h1:(la.map (·.1))[i]?=some x.1:=by rw[UT,hx];rfl
 have h2:(lb.map (·.1))[i]?=some y.1:=by rw[UT,hy];rfl
 rw[h,h2]at h1;exact(UC h1).symm
theorem ws(ha:dY w n V a)(hb:dY w m V b):Calls prog 31 #[a,b] w fun e w'=>e=.returned (.string ⟨#[]⟩)∧Below w.heap.size w w':=by
 obtain⟨vp,X,v1,LD,v2,LF,vo,lo,ve,O,vn,ln,rfl,h⟩:=ha;obtain⟨vp',X',v1',LD',v2',LF',vo',lo',ve',O',vn',ln',rfl,h'⟩:=hb;obtain rfl:=eZ.unique h.isp h'.isp;obtain rfl:=h.td.eq h'.td (Q0 _);obtain rfl:=h.tf.eq h'.tf (Q0 _);obtain rfl:=h.ise.unique h'.ise (Q0 _);have eo:=h.iso.unique h'.iso (Q0 _);have en:=h.isn.unique h'.isn (Q0 _);obtain⟨pA,pc,rfl,p1,p2,p3,_⟩:=cK (f:=iq) (fun _=>rfl) h.p;obtain⟨qA,qc,rfl,q1,q2,q3,_⟩:=cK (f:=iq) (fun _=>rfl) h'.p;obtain⟨dA,dc,rfl,d1,d2,d3,_⟩:=cK dU h.d;obtain⟨dB,dd,rfl,d4,d5,d6,_⟩:=cK dU h'.d;obtain⟨fA,fc,rfl,f1,f2,f3,_⟩:=cK dU h.f;obtain⟨fB,fd,rfl,f4,f5,f6,_⟩:=cK dU h'.f;obtain⟨oA,oc,rfl,o1,o2,o3,_⟩:=cK (f:=fun x:Fj×Value=>je x.1 x.2) (fun _=>rfl) h.o.row;obtain⟨oB,od,rfl,o4,o5,o6,_⟩:=cK (f:=fun x:Fj×Value=>je x.1 x.2) (fun _=>rfl) h'.o.row;obtain⟨eA,ec,rfl,e1,e2,e3,_⟩:=cK (f:=tu) (fun _=>rfl) h.e;obtain⟨eB,ed,rfl,e4,e5,e6,_⟩:=cK (f:=tu) (fun _=>rfl) h'.e;obtain⟨nA,nc,rfl,n1,n2,n3,_⟩:=cK (f:=fun x:oZ×Value=>jX x.1 x.2) (fun _=>rfl) h.n'.row;obtain⟨nB,nd,rfl,n4,n5,n6,_⟩:=cK (f:=fun x:oZ×Value=>jX x.1 x.2) (fun _=>rfl) h'.n'.row;have elo:lo.length=lo'.length:=by have:=congrArg List.length eo;rwa [Ur,Ur]at this
 have eln:ln.length=ln'.length:=by have:=congrArg List.length en;rwa [Ur,Ur]at this
 have HA:=zH (fun w1 (b:Below w.heap.size w w1)=>kj.1.1 pA qA pc qc _ _ X X 65 (fun _ _=>by kernel_rfl) w1 rfl (Pt p1 p2) (fun _ _=>trivial) (fun _ _=>trivial) (p3.below b) (q3.below b) fun i x y hx hy W _=>by
  rw[hx]at hy;cases hy;exact yu x W)
 have HB:=zH (fun w1 (b:Below w.heap.size w w1)=>xi (X.length:Nat) (bH X 1) (bH X 2) (bH X 3) LD LF dA fA dB fB dc fc dd fd _ _ _ _ (Pt d1 d2) (Pt f1 f2) w1 (d3.below b) (f3.below b) (d6.below b) (f6.below b));have HC:=zH (fun w1 (b:Below w.heap.size w w1)=>kj.2.1 oA oB oc od _ _ lo lo' 68 (fun _ _=>by kernel_rfl) w1 elo (Pt o1 o2) (fun x hx=>by obtain⟨A,c,e⟩:=an (h.o.inn x hx).1;exact⟨A,_,c,e⟩) (fun x hx=>by obtain⟨A,c,e⟩:=an (h'.o.inn x hx).1;exact⟨A,_,c,e⟩) (o3.below b) (o6.below b) fun i x y hx hy W hW=>by
  have hxy:=um eo hx hy;have i1:=au (au (h.o.inn x (Pv hx)).1 b) hW;have i2:=au (au (h'.o.inn y (Pv hy)).1 b) hW;obtain⟨x,u⟩:=x;obtain⟨y,v⟩:=y;obtain rfl:x=y:=hxy;change W.ownsRow _ 237 2 u x.bk.length (x.bk.flatMap aP)at i1;change W.ownsRow _ 237 2 v x.bk.length (x.bk.flatMap aP)at i2;obtain⟨A,c,rfl,z1,z2,z3,_⟩:=cK dU i1;obtain⟨A',c',rfl,z4,z5,z6,_⟩:=cK dU i2;exact Ar x A A' c c' _ _ (Pt z1 z2) W z3 z6)
 have HD:=zH (fun w1 (b:Below w.heap.size w w1)=>kj.1.2.1 eA eB ec ed _ _ O O 70 (fun _ _=>by kernel_rfl) w1 rfl (Pt e1 e2) (fun _ _=>trivial) (fun _ _=>trivial) (e3.below b) (e6.below b) fun i x y hx hy W _=>by
  rw[hx]at hy;cases hy;exact Bd x W)
 have HE:=zH (fun w1 (b:Below w.heap.size w w1)=>kj.2.2 nA nB nc nd _ _ ln ln' 72 (fun _ _=>by kernel_rfl) w1 eln (Pt n1 n2) (fun x hx=>by obtain⟨A,c,e⟩:=an (h.n'.inn x hx).1;exact⟨A,_,c,e⟩) (fun x hx=>by obtain⟨A,c,e⟩:=an (h'.n'.inn x hx).1;exact⟨A,_,c,e⟩) (n3.below b) (n6.below b) fun i x y hx hy W hW=>by
  have hxy:=um en hx hy;have i1:=au (au (h.n'.inn x (Pv hx)).1 b) hW;have i2:=au (au (h'.n'.inn y (Pv hy)).1 b) hW;obtain⟨x,u⟩:=x;obtain⟨y,v⟩:=y;obtain rfl:x=y:=hxy;change W.ownsRow _ 3 1 u x.trs.length (x.trs.map iV)at i1;change W.ownsRow _ 3 1 v x.trs.length (x.trs.map iV)at i2;obtain⟨A,c,rfl,z1,z2,z3⟩:=nZ i1;obtain⟨A',c',rfl,z4,z5,z6⟩:=nZ i2;exact vW x A A' c c' (Pt z1 z2) W z3 z6)
 rw[←elo,←eln]at*;have b0:=ae (.cells #[.slice qA X.length qc,.int .i64 (X.length:Nat),.int .i64 (bH X 1),.int .i64 (bH X 2),.int .i64 (bH X 3),.slice dB LD.length dd,.slice fB LF.length fd,.slice oB lo.length od,.slice eB O.length ed,.slice nB ln.length nd] 88) (zB w (.cells #[.slice pA X.length pc,.int .i64 (X.length:Nat),.int .i64 (bH X 1),.int .i64 (bH X 2),.int .i64 (bH X 3),.slice dA LD.length dc,.slice fA LF.length fc,.slice oA lo.length oc,.slice eA O.length ec,.slice nA ln.length nc] 88));have x0:=ar (Up w (.cells #[.slice pA X.length pc,.int .i64 (X.length:Nat),.int .i64 (bH X 1),.int .i64 (bH X 2),.int .i64 (bH X 3),.slice dA LD.length dc,.slice fA LF.length fc,.slice oA lo.length oc,.slice eA O.length ec,.slice nA ln.length nc] 88)) (.cells #[.slice qA X.length qc,.int .i64 (X.length:Nat),.int .i64 (bH X 1),.int .i64 (bH X 2),.int .i64 (bH X 3),.slice dB LD.length dd,.slice fB LF.length fd,.slice oB lo.length od,.slice eB O.length ed,.slice nB ln.length nd] 88);have y0:=Up (w.alloc (.cells #[.slice pA X.length pc,.int .i64 (X.length:Nat),.int .i64 (bH X 1),.int .i64 (bH X 2),.int .i64 (bH X 3),.slice dA LD.length dc,.slice fA LF.length fc,.slice oA lo.length oc,.slice eA O.length ec,.slice nA ln.length nc] 88)) (.cells #[.slice qA X.length qc,.int .i64 (X.length:Nat),.int .i64 (bH X 1),.int .i64 (bH X 2),.int .i64 (bH X 3),.slice dB LD.length dd,.slice fB LF.length fd,.slice oB lo.length od,.slice eB O.length ed,.slice nB ln.length nd] 88);rw[Pq]at y0;have HB0:=zH b0;clear h h' eo en elo eln b0 p1 p2 p3 q1 q2 q3 d1 d2 d3 d4 d5 d6 f1 f2 f3 f4 f5 f6 o1 o2 o3 o4 o5 o6 e1 e2 e3 e4 e5 e6 n1 n2 n3 n4 n5 n6;go_enter func31,ntmps31;go_wp2_with (first
  |((with_reducible refine(HA.out _ HB0.out).mono ?_);rintro e w1 ⟨rfl,b1⟩;have B1:=ah b1 HB0.out;have x1:=af x0 b1;have y1:=af y0 b1;have a1:=aa x1;have c1:=aa y1)
  |((with_reducible refine(HB.out _ B1).mono ?_);rintro e w2 ⟨rfl,b2⟩;have B2:=ah b2 B1;have x2:=af x1 b2;have y2:=af y1 b2;have a7:=aa x2 7;have c7:=aa y2 7)
  |((with_reducible refine(HC.out _ B2).mono ?_);rintro e w3 ⟨rfl,b3⟩;have B3:=ah b3 B2;have x3:=af x2 b3;have y3:=af y2 b3;have a8:=aa x3 8;have c8:=aa y3 8)
  |((with_reducible refine(HD.out _ B3).mono ?_);rintro e w4 ⟨rfl,b4⟩;have B4:=ah b4 B3;have x4:=af x3 b4;have y4:=af y3 b4;have a9:=aa x4 9;have c9:=aa y4 9)
  |((with_reducible refine(HE.out _ B4).mono ?_);rintro e w5 ⟨rfl,b5⟩;have B5:=ah b5 B4))
 go_ret;exact⟨rfl,B5⟩
theorem sG(ha:dY w n V a)(hb:dY w m V b):Calls prog 13 #[a,b] w fun e w'=>e=.returned (.bool true)∧Below w.heap.size w w':=by
 obtain⟨vp,X,v1,LD,v2,LF,vo,lo,ve,O,vn,ln,ea,h⟩:=ha;obtain⟨vp',X',v1',LD',v2',LF',vo',lo',ve',O',vn',ln',eb,h'⟩:=hb;obtain⟨A1,c1,e1⟩:=an h.p;obtain⟨A2,c2,e2⟩:=an h.d;obtain⟨A3,c3,e3⟩:=an h.f;obtain⟨A4,c4,e4⟩:=an h.o.row;obtain⟨A5,c5,e5⟩:=an h.e;obtain⟨A6,c6,e6⟩:=an h.n'.row;obtain⟨B1,d1,f1⟩:=an h'.p;obtain⟨B2,d2,f2⟩:=an h'.d;obtain⟨B3,d3,f3⟩:=an h'.f;obtain⟨B4,d4,f4⟩:=an h'.o.row;obtain⟨B5,d5,f5⟩:=an h'.e;obtain⟨B6,d6,f6⟩:=an h'.n'.row;have H:=zH (fun w1 (b1:Below w.heap.size w w1)=>ws (dY.below ⟨vp,X,v1,LD,v2,LF,vo,lo,ve,O,vn,ln,ea,h⟩ b1) (dY.below ⟨vp',X',v1',LD',v2',LF',vo',lo',ve',O',vn',ln',eb,h'⟩ b1));clear h h';subst e1 e2 e3 e4 e5 e6 f1 f2 f3 f4 f5 f6;subst ea eb;have HB0:=zH (ae (.cells #[.slice B1 X'.length d1,.int .i64 (X'.length:Nat),.int .i64 (bH X' 1),.int .i64 (bH X' 2),.int .i64 (bH X' 3),.slice B2 LD'.length d2,.slice B3 LF'.length d3,.slice B4 lo'.length d4,.slice B5 O'.length d5,.slice B6 ln'.length d6] 88) (zB w (.cells #[.slice A1 X.length c1,.int .i64 (X.length:Nat),.int .i64 (bH X 1),.int .i64 (bH X 2),.int .i64 (bH X 3),.slice A2 LD.length c2,.slice A3 LF.length c3,.slice A4 lo.length c4,.slice A5 O.length c5,.slice A6 ln.length c6] 88)));go_enter func13,ntmps13;go_wp2_with ((with_reducible refine(H.out _ HB0.out).mono ?_);rintro e w1 ⟨rfl,b1⟩);go_ret;exact⟨rfl,ah b1 HB0.out⟩
end
end
section
def Bf(l:List Sp):List UInt8:=l.flatMap fun x=>CodeP.enc (dG x)
open Go.ChangeShapes Go.WideShapes Go.ChangeAt Go.RowKit Go.Deep
theorem BT(A:Option Addr)(c:Nat)(l:List Sp)(hm:l.length≤maxLen)(hok:∀x∈l,x.Ok)(w:World)(hr:cm w w.heap.size A l):
  Calls prog 6 #[.slice A l.length c] w fun e w'=>e=.returned (.bool (l.all fun x=>CodeP.jh (dG x)))∧Below w.heap.size w w':=by
 unfold maxLen at hm;obtain⟨bl,hbl⟩:∃bl,bl=l.all fun x=>CodeP.jh (dG x):=⟨_,rfl⟩;rw[←hbl];have HBL:=zH hbl;have HR:=zH hr;have HK:=zH hok;clear hr hok hbl;go_enter func6,ntmps6;go_wp2_with fail;go_loopw [3] (fun i wr=>∃k:Nat,k≤l.length∧i=.int .i64 k∧Below w.heap.size w wr∧Hid (∀x∈l.take k,CodeP.jh (dG x)=true)) (fun i _=>l.length - (intOf i).toNat)
 case atStart=>exact⟨0,by omega,rfl,Pk _ _,zH (by simp)⟩
 case round=>
  obtain⟨k,hk,rfl,hb,hpre⟩:=hrel;by_cases hlt:k<l.length
  ·obtain⟨x,hx⟩:=zg hlt;obtain⟨ad,rfl,hadl,c0,c1,c2,c3,c4,c5,c6,c7,c8⟩:=HR.out.below hb k x hx;have hi1:(k:Int)< (l.length:Int):=by omega
   have hmay:=FZ x (HK.out x (Pv hx));unfold CodeP.may at hmay;have HX:=zH hx;clear hx;by_cases hmb:CodeP.jh (dG x)=true
   ·rw[Pj hmb]at hmay;have HM:=zH hmay;have HMB:=zH hmb;clear hmay hmb;go_wp2_with ((with_reducible refine(HM.out _).mono ?_);rintro e w1 ⟨rfl,b1⟩);refine⟨⟨k+1,by omega,by go_num,hb.trans (b1.mono hb.size),zH fun y hy=>?_⟩,by simp[intOf];omega⟩;rw[PO,HX.out]at hy;rcases Px.1 hy with hy |hy
    ·exact hpre.out y hy
    ·obtain rfl:y=x:=by simpa using hy
     exact HMB.out
   ·rw[Pm hmb]at hmay;have HM:=zH hmay;have HMB:=zH hmb;clear hmay hmb;go_wp2_with ((with_reducible refine(HM.out _).mono ?_);rintro e w1 ⟨rfl,b1⟩);go_ret;refine⟨?_,hb.trans (b1.mono hb.size)⟩;rw[HBL.out,show(l.all fun x=>CodeP.jh (dG x))=false from List.all_eq_false.2 ⟨x,Pv HX.out,by simpa using HMB.out⟩];rfl
  ·obtain rfl:k=l.length:=by omega
   go_wp2_with fail;go_ret;refine⟨?_,hb⟩;have:=hpre.out;rw[PM]at this;rw[HBL.out,show(l.all fun x=>CodeP.jh (dG x))=true from Vc.2 this];rfl
section
variable{own:Nat→Nat}{bs bv h:Nat}{w:World}{S Q M B:Nat}{lim:Int}
theorem yG(s:ew own bs w S Q M lim [] 0 (fun _=>0) 0)(hB:w.heap[B]?=some (.cells qK 74 (0,0)))(ho:Ow own w)(oB:own B=0)(hT:DT bs bv h):wD own bs bv h w S Q M B lim [] false:=
 ⟨by simp,⟨0,_,s,by simp,by simp,fun t=>by simp⟩,⟨_,FE hB ho oB hT.vt⟩⟩
variable{w':World}{l:List Sp}{k:Bool}
theorem wD.len(D:wD own bs bv h w S Q M B lim l k):(cB (av l)).length≤l.length:=Pt (Qc _ _) (bh D.i)
theorem uG(D:wD own bs bv h w S Q M B lim l k)(hl:l.length≤300):
  Calls prog 17 #[.pointer (some ⟨B,0,none⟩)] w fun e w'=>∃A c,e=.returned (.slice A ((cB (av l)).map (·.2)).length c)∧w'.ownsRow w.heap.size 93 9 (.slice A ((cB (av l)).map (·.2)).length c) ((cB (av l)).map (·.2)).length (((cB (av l)).map (·.2)).flatMap bg)∧Below w.heap.size w w':=by
 have hl2:=D.len;obtain⟨cs,H⟩:=D.v;obtain⟨p,q0,_,q2⟩:=H.r;refine(wO B ((aa H.box 0).trans q0) q2 (by omega)).mono ?_;rintro e w' ⟨v,rfl,o,b⟩;rw[xq,←Ur (f:=(·.2))]at o;obtain⟨A,c,rfl⟩:=an o;exact⟨A,c,rfl,o,b⟩
theorem CN(D:wD own bs bv h w S Q M B lim l k)(hl:l.length≤300):
  Calls prog 11 #[.pointer (some ⟨S,0,none⟩)] w fun e w'=>∃A c,e=.returned (.slice A (aA l).length c)∧w'.ownsRow w.heap.size 93 9 (.slice A (aA l).length c) (aA l).length ((aA l).flatMap bg)∧Below w.heap.size w w':=by
 obtain⟨many,f,s,_⟩:=D.s;refine(Dw s (by omega)).mono ?_;rintro e w' ⟨v,rfl,o,b⟩;obtain⟨A,c,rfl⟩:=an o;exact⟨A,c,rfl,o,b⟩
theorem Ht(D:wD own bs bv h w S Q M B lim l true)(hl:l.length≤300):
  Calls prog 14 #[.pointer (some ⟨B,0,none⟩)] w fun e w'=>∃v,e=.returned v∧dY w' w.heap.size (cB (av l)) v∧Below w.heap.size w w':=by
 have hl2:=D.len;obtain⟨cs,H⟩:=D.v;exact Ja H (by omega)
end
end
section
open Go.Shelf AvlP BigP PlcP
def x1:Sp:=⟨1,1,0,0,⟨#[97]⟩,⟨#[98]⟩,0,0,false⟩
theorem Kw:x1.In:=⟨by unfold Sp.Ok x1 aB maxLen;decide,by unfold Sp.few x1;decide,by decide⟩
theorem MB:x1.kept=x1:=by decide
theorem JA:av ([]++[x1])=[(aj x1,x1)]:=by
 show cW [] x1=_;unfold cW;rw[show ag oS ([]:List (ByteArray×Sp)) (aj x1)=none from rfl,MB];rfl
theorem Mo:aJ [(aj x1,x1)]:=by
 rw[←JA];exact aG fun x hx=>by
  obtain rfl:x=x1:=by simpa using hx
  exact Kw
theorem MY:eZ [(aj x1,x1)] [⟨1,1,1,1,1,0⟩]:=by
 refine⟨rfl,fun p hp=>?_⟩;obtain rfl:p=⟨1,1,1,1,1,0⟩:=by simpa using hp
 have g1:ag oS [(aj x1,x1)] (kk 1 1)=some x1:=(ax oS Mo.srt).2 (Ql.2 rfl);have g0:ag oS [(aj x1,x1)] (kk 1 0)=none:=by
  cases hg:ag oS [(aj x1,x1)] (kk 1 0)with
  |none=>rfl
  |some y=>
   have hm:=Ql.1 ((ax oS Mo.srt).1 hg);have:=(bS (by unfold aB;omega) (by unfold aB;omega) (by unfold aB;omega) (by unfold aB;omega) (show kk 1 0=kk 1 1 from congrArg Prod.fst hm)).2;omega
 exact⟨.inl ⟨0,0,1,rfl,by unfold jc;rw[g1];rfl,by unfold jc;rw[g0];rfl,rfl⟩,rfl⟩
theorem Jr:aA ([]++[x1])=[x1]:=by
 unfold aA;rw[JA];rfl
theorem Mw:(iy [] (aA ([]++[x1]))).length=1:=by
 rw[Jr];unfold iy;rw[show aA [x1]=[x1]from Jr];rfl
theorem Nq:∀x∈[x1],x.In:=fun x hx=>by
 obtain rfl:x=x1:=by simpa using hx
 exact Kw
@[local go_sem] theorem JZ(a b c d:Int)(v1 v2:Value)(w:World):(Instr.field 83 (.agg #[.int .i64 a,.int .i64 b,.int .i64 c,.int .i64 d,v1,v2]) 1).run prog w=.ok (.int .i64 b) w:=by kernel_rfl
theorem Bw{own:Nat→Nat}{w:World}{S Q M B:Nat}(D:wD own 1 5 1000 w S Q M B 9 ([]++[x1]) true):
  (∀W,Below w.heap.size w W→Calls prog 17 #[.pointer (some ⟨B,0,none⟩)] W fun e w'=>∃A c,e=.returned (.slice A 1 c)∧Below W.heap.size W w')∧
  (∀W,Below w.heap.size w W→Calls prog 11 #[.pointer (some ⟨S,0,none⟩)] W fun e w'=>∃A c,e=.returned (.slice A 1 c)∧(Calls prog 10 #[.slice none 0 0,.slice A 1 c] w' fun e w9=>∃A c,e=.returned (.slice A 1 c)∧Below w'.heap.size w' w9)∧Below W.heap.size W w')∧
  (∀W,Below w.heap.size w W→Calls prog 24 #[.pointer (some ⟨B,0,none⟩)] W fun e w'=>∃v1 v2,e=.returned (.agg #[.int .i64 1,.int .i64 1,.int .i64 0,.int .i64 0,v1,v2])∧Below W.heap.size W w'):=by
 have hv:(cB (av ([]++[x1]))).map (·.2)=[x1]:=by rw[JA];rfl
 refine⟨fun W b=>?_,fun W b=>?_,fun W b=>?_⟩
 ·refine(uG (D.below b) (by decide)).mono ?_;rintro e w' ⟨A,c,rfl,_,b2⟩;exact⟨A,c,by rw[hv];rfl,b2⟩
 ·refine(CN (D.below b) (by decide)).mono ?_;rintro e w' ⟨A,c,rfl,o,b2⟩;rw[Jr]at o⊢;obtain⟨A',c',e',hr,_⟩:=bE o;cases e';refine⟨A,c,rfl,?_,b2⟩;have h:=vM none A 0 c [] [x1] (by simp) Nq (by simp) (by decide) w' (fun k x hx=>by simp at hx) hr;have h1:=Mw;rw[Jr]at h1;rw[h1]at h;refine h.mono ?_;rintro e w9 ⟨v,rfl,o9,b9⟩;obtain⟨A9,c9,rfl⟩:=an o9;exact⟨A9,c9,rfl,b9⟩
 ·obtain⟨cs,H⟩:=(D.below b).v;rw[JA]at H;refine(pO H (by decide)).mono ?_;rintro e w' ⟨X,v1,v2,LD,LF,rfl,hX,_,_,_,_,b2⟩;obtain rfl:=eZ.unique hX MY;exact⟨v1,v2,rfl,b2⟩
theorem lP(w:World):Calls prog 7 #[] w fun e w'=>e=.returned (.bool true)∧Below w.heap.size w w':=by
 have hT:DT 1 5 1000:=⟨by decide,by decide,by decide⟩;have HN:=zH (tB (own:=fun _=>0) (b:=1) (w:=w) 9 (by decide) (fun _ _=>rfl) (by decide));have HX:=zH hT;clear hT;go_enter func7,ntmps7;go_wp2_with (first |(go_at_call 8;(with_reducible refine(HN.out).mono ?_);rintro e w1 ⟨rfl,b1,own1,s1,x1'⟩));have how1:Ow own1 w1:=by
  obtain⟨_,_,_,_,_,_,s1,_⟩:=s1;exact s1.ow
 obtain⟨wV,hwV⟩:∃wV,wV=w1.alloc (.cells qK 74):=⟨_,rfl⟩;obtain⟨w2,hw2⟩:∃w2,w2=wV.alloc (.cells (SA x1) 93):=⟨_,rfl⟩;have zV:wV.heap.size=w1.heap.size+1:=by rw[hwV,Pq]
 have bV:Below w1.heap.size w1 wV:=by rw[hwV];exact ae _ (Pk _ _)
 have nV:wV.heap[w1.heap.size]?=some (.cells qK 74 (0,0)):=by rw[hwV];exact Up _ _
 have b2:Below wV.heap.size wV w2:=by rw[hw2];exact ae _ (Pk _ _)
 have z2:=b2.size;have n2:w2.heap[w1.heap.size+1]?=some (.cells (SA x1) 93 (0,0)):=by rw[hw2,←zV];exact Up _ _
 have h2:=am n2;have D0:wD own1 1 5 1000 w2 (w.heap.size+3) (w.heap.size+2) (w.heap.size+1) w1.heap.size 9 [] false:=(yG (s1.farE (Km.of_below (fun _=>False) bV) (fun _ _ _=>id) (aO.refl _ _) (how1.mono bV.size)) nV (how1.mono bV.size) (how1 _ (Po _)) HX.out).below b2;have hrd:cm w2 w2.heap.size (some ⟨w1.heap.size+1,0,none⟩) [x1]:=fun k x hx=>by
  cases k with
  |succ k=>simp at hx
  |zero=>
   cases hx;exact⟨_,rfl,h2,aa n2 0,aa n2 1,aa n2 2,aa n2 3,aa n2 4,aa n2 5,aa n2 6,aa n2 7,aa n2 8⟩
 have hp:=CL D0 HX.out (some ⟨w1.heap.size+1,0,none⟩) 1 Nq (by decide) (by decide) hrd (fun ad e=>by cases e;exact how1 _ (UE _));have HP:=zH hp;rw[show[x1].length=1 from rfl]at HP;have hwW:w2=(w1.alloc (.cells qK 74)).alloc (.cells (SA x1) 93):=by rw[hw2,hwV]
 have HB2:=zH (b1.trans ((bV.trans (b2.mono bV.size)).mono b1.size));clear hp hrd D0 n2 s1 how1 hwV hw2 b2 bV;simp only[qK,x1]at hwW;rw[←hwW];clear hwW;go_wp2_with (first
  |(go_at_call 22;(with_reducible refine(HP.out).mono ?_);rintro e w3 ⟨A1,n1,c1,A2,n2,c2,own3,rfl,h3,x3,k3⟩;have HA:=zH (fun W (b:Below w3.heap.size w3 W)=>uF (h3.below b) HX.out);have HK3:=zH (Uq x3 k3);clear h3 x3 k3)
  |(go_at_call 23;(with_reducible refine(HA.out _ (ae _ (Pk _ _))).mono ?_);rintro e w4 ⟨⟨n,rfl⟩,own4,D4,x4,k4⟩;have HQ:=zH (Bw D4);have HK4:=zH (Uq x4 k4);have HOW:=zH D4.v.ow;clear D4 x4 k4)
  |(go_at_call 17;(with_reducible refine(HQ.out.1 _ (Pk _ _)).mono ?_);rintro e w5 ⟨A5,c5,rfl,b5⟩)
  |(go_at_call 11;(with_reducible refine(HQ.out.2.1 _ b5).mono ?_);rintro e w6 ⟨A6,c6,rfl,hm6,b6⟩;have HM6:=zH hm6;have B6:=b5.trans (b6.mono b5.size);clear hm6)
  |(go_at_call 10;(with_reducible refine(HM6.out).mono ?_);rintro e w7 ⟨A7,c7,rfl,b7⟩;have B7:=B6.trans (b7.mono B6.size))
  |(go_at_call 24;(with_reducible refine(HQ.out.2.2 _ B7).mono ?_);rintro e w8 ⟨v1,v2,rfl,b8⟩))
 go_ret;obtain⟨x3,k3⟩:=HK3.out;obtain⟨x4,k4⟩:=HK4.out;have hz1:=b1.size;have z3:=k3.size;have za:(w3.alloc (.cells #[.slice A1 n1 c1,.slice A2 n2 c2] 103)).heap.size=w3.heap.size+1:=Pq _ _;have hs2:=HB2.out.size;have o1:∀c,c<w.heap.size→own1 c=0:=fun c hc=>x1' c hc;have o3:∀c,c<w.heap.size→own3 c=0:=fun c hc=>(x3 c (by omega)).trans (o1 c hc);have q3:=k3.below (B:=w.heap.size) (fun c hc hf=>DF.none HX.out (o1 c hc) (by omega) hf) hs2;have q4:=k4.below (B:=w.heap.size) (fun c hc hf=>DF.none HX.out (o3 c hc) (by omega) hf) (by omega);have q5:=(HB2.out.trans q3).trans (((Pk w3.heap.size w3).alloc (Po _) (.cells #[.slice A1 n1 c1,.slice A2 n2 c2] 103)).mono (by omega));have B8:=B7.trans (b8.mono B7.size);exact⟨rfl,(q5.trans q4).trans (B8.mono (by have:=k4.size;omega))⟩
end
