/- For WholeGossip: contracts of functions and plain laws. -/
import Derived.Test.YtfgfbacnkpeneaaGreatDoorVAo
set_option maxRecDepth 100000
set_option maxHeartbeats 4000000
set_option linter.unusedVariables false
set_option linter.unusedSimpArgs false
namespace Go.Proofs.YtfgfbacnkpeneaaGreatDoor
open Go.Proofs.Tryz Go.ChangeShapes Go.WideShapes Go.ChangeAt Go.RowKit Go.Deep AvlP
theorem Wt{P:Prop}(h:P:=by
 (go_simp;refine hK.out _ _ ?_;clear hK K;try simp only[zp]);refine zj 9 rfl fun K hK=>?_;(go_simp;refine hK.out _ _ ?_;clear hK K;try simp only[zp]);refine zj 10 rfl fun K hK=>?_;(go_simp;refine hK.out _ _ ?_;clear hK K;try simp only[zp]);refine zj 11 rfl fun K hK=>?_;(go_simp;refine hK.out _ _ ?_;clear hK K;try simp only[zp]);refine zj 12 rfl fun K hK=>?_;(go_simp;refine hK.out _ _ ?_;clear hK K;try simp only[zp]);refine zl ?_;go_wp2_with fail
 ·go_at_call 324;(with_reducible refine(HD.out (by assumption)).mono ?_);rintro e3 w3 ⟨own3,cs3,p3,_,rfl,k3⟩;go_wp2_with fail;go_end0;exact⟨_,_,_,⟨_,rfl⟩,k3⟩
 ·go_at_call 325;(with_reducible refine(HP.out (by assumption)).mono ?_);rintro e3 w3 ⟨own3,cs3,p3,_,rfl,k3⟩;go_wp2_with fail;go_end0;exact⟨_,_,_,⟨_,rfl⟩,k3⟩):P:=h
theorem NR{P:Prop}(h:P:=by
 go_wp2_with fail;go_ret;exact⟨rfl,rfl⟩):P:=h
theorem N3{P:Prop}(h:P:=by
 go_wp2_with (first |(go_at_call 283;(with_reducible refine(HC.out).mono ?_);rintro e1 w1 ⟨rfl,rfl⟩) |(go_at_call 284;(with_reducible refine(HS.out).mono ?_);rintro e2 w2 ⟨own2,cs2,p2,⟨_,rfl⟩,k2⟩));go_ret;exact⟨_,_,_,rfl,k2⟩):P:=h
section
open Go.Shelf
section
variable{t:Nat}{own own':Nat→Nat}{w w':World}{B q:Nat}{cs cs':Array Value}{ty:TypeId}{p p':Option Addr}{L L':List (Int×Int)}{all all':Int}
structure bD(own:Nat→Nat)(t:Nat)(w:World)(B q:Nat)(cs:Array Value)(ty:TypeId)(p:Option Addr)(L:List (Int×Int))(all:Int):Prop where
 box:w.heap[B]?=some (.cells cs ty (0,0))
 c0:cs[q]?=some (.pointer p)
 c1:cs[q+1]?=some (.int .i64 (L.length:Nat))
 c2:cs[q+2]?=some (.int .i64 all)
 tr:dm AvN.nd oN own t w p L
 ow:Ow own w
 n1:own B≠t
structure eH(own:Nat→Nat)(t:Nat)(w w':World)(B q:Nat)(cs:Array Value)(ty:TypeId)(L:List (Int×Int))(all:Int)(own':Nat→Nat)(cs':Array Value)(p':Option Addr):Prop where
 st:bD own' t w' B q cs' ty p' L all
 near:aT q 3 cs cs'
 kp:Kp (fun b=>b=B∨own b=t) w w'
 ext:aO own own' w
def bt(L:List (Int×Int))(x:Int):Int:=(ag oN L x).getD 0
theorem K8(r:Option Int):AvN.vo r=.int .i64 (r.getD 0):=by cases r<;>rfl
theorem Gi(q j n:Nat)(cs:Array Value)(v:Value)(h1:q≤j)(h2:j<q+n):aT q n cs (cs.setIfInBounds j v):=
 ⟨by simp,fun i hi=>by rw[UL,Pm (by omega)]⟩
theorem bD.setAll(h:bD own t w B q cs ty p L all)(v:Int):bD own t (w.setCell ⟨B,q+2,none⟩ (.int .i64 v)) B q (cs.setIfInBounds (q+2) (.int .i64 v)) ty p L v:=by
 obtain⟨z,_⟩:=Rj.1 h.c2;exact⟨aq h.box (q+2) _,by rw[UL,Pm (by omega)];exact h.c0,by rw[UL,Pm (by omega)];exact h.c1,by rw[UL,Pj rfl,Pj z],h.tr.setCell h.n1 _,h.ow.mono (by rw[PK];exact Po _),h.n1⟩
theorem bD.map(h:bD own t w B q cs ty p L all)(m:bI AvN.nd oN own t w w' B q cs ty L' own' p'):∃cs',eH own t w w' B q cs ty L' all own' cs' p':=by
 have hn:=cX q cs (.pointer p') (.int .i64 (L'.length:Nat));have ha:=gh (u:=.pointer p') (v:=.int .i64 (L'.length:Nat)) h.c0 h.c1;exact⟨_,⟨m.box,ha.1,ha.2,(hn.far _ (by omega)).trans h.c2,m.tr,m.ow,by rw[m.ext B (am h.box)];exact h.n1⟩,hn.wide (Po _) (by omega),m.kp,m.ext⟩
theorem bD.drew(h:bD own t w B q cs ty p L all):bD own t w.drew B q cs ty p L all:=
 ⟨h.box,h.c0,h.c1,h.c2,h.tr.below (Pk _ w).drew,h.ow,h.n1⟩
theorem pG(h:bD own t w B q cs ty p L all)(x:Int):
  Calls prog 283 #[.pointer (some ⟨B,q,none⟩),.int .i64 x] w fun e w'=>e=.returned (.int .i64 (bt L x))∧w=w':=by
 have HG0:=Mx (own:=own) (t:=t) B q p L x w ((aa h.box q).trans h.c0) h.tr _ rfl;rw[K8]at HG0;have HG:=zH HG0;clear HG0 h;go_enter func283,ntmps283;go_wp2_with (go_at_call 323;(with_reducible refine(HG.out).mono ?_);rintro e2 w2 ⟨rfl,rfl⟩);go_ret;exact⟨rfl,rfl⟩
def iF(L:List (Int×Int))(x many:Int):List (Int×Int):=if many=0 then aK oN L x else ay oN L x many
theorem CV(h:bD own t w B q cs ty p L all)(x many:Int)(hl:L.length≤700000)(ha:0≤all∧all≤4611686018427387904)(hm:0≤many∧many≤4611686018427387904)(hc:0≤bt L x∧bt L x≤all)(hs:all+(many - bt L x)≤4611686018427387904):
  Calls prog 284 #[.pointer (some ⟨B,q,none⟩),.int .i64 x,.int .i64 many] w fun e w'=>∃own' cs' p',(∃v,e=.returned v)∧eH own t w w' B q cs ty (iF L x many) (all+(many - bt L x)) own' cs' p':=by
 have HC:=zH (pG h.drew x);have c2:w.cell? ⟨B,q+2,none⟩=some (.int .i64 all):=(aa h.box (q+2)).trans h.c2;have f2:=ak h.box (q+2);have hX:=(h.setAll (all+(many - bt L x))).drew;have hk:Kp (fun b=>b=B∨own b=t) w (w.setCell ⟨B,q+2,none⟩ (.int .i64 (all+(many - bt L x)))).drew:=((Kp.refl _ w).setCell (b:=B) (fun _=>.inl rfl) _).drew;have hsz:(w.setCell ⟨B,q+2,none⟩ (.int .i64 (all+(many - bt L x)))).drew.heap.size=w.heap.size:=PK _ _ _;have hN:=Gi q (q+2) 3 cs (.int .i64 (all+(many - bt L x))) (by omega) (by omega);have fin:∀own' cs' p' w',eH own t (w.setCell ⟨B,q+2,none⟩ (.int .i64 (all+(many - bt L x)))).drew w' B q (cs.setIfInBounds (q+2) (.int .i64 (all+(many - bt L x)))) ty (iF L x many) (all+(many - bt L x)) own' cs' p'→eH own t w w' B q cs ty (iF L x many) (all+(many - bt L x)) own' cs' p':=fun own' cs' p' w' k=>by
  exact⟨k.st,hN.trans k.near,hk.trans k.kp,fun b hb=>k.ext b (by rw[hsz];exact hb)⟩
 have hD:(many==0)=true→Calls prog 324 #[.pointer (some ⟨B,q,none⟩),.int .i64 x] (w.setCell ⟨B,q+2,none⟩ (.int .i64 (all+(many - bt L x)))).drew fun e w'=>∃own' cs' p' b,e=.returned (.bool b)∧eH own t w w' B q cs ty (iF L x many) (all+(many - bt L x)) own' cs' p':=fun h0=>by
  refine(Lv B q _ ty p L x _ hX.ow hX.box hX.c0 hX.c1 hX.n1 hX.tr hl).mono ?_;rintro e w' ⟨p',he,m⟩;obtain⟨cs',k⟩:=hX.map m;exact⟨own,cs',p',_,he,fin _ _ _ _ (by unfold iF;rw[Pj (by simpa using h0)];exact k)⟩
 have hP:(many==0)=false→Calls prog 325 #[.pointer (some ⟨B,q,none⟩),.int .i64 x,.int .i64 many] (w.setCell ⟨B,q+2,none⟩ (.int .i64 (all+(many - bt L x)))).drew fun e w'=>∃own' cs' p' b,e=.returned (.bool b)∧eH own t w w' B q cs ty (iF L x many) (all+(many - bt L x)) own' cs' p':=fun h0=>by
  refine(Ms B q _ ty p L x many _ hX.ow hX.box hX.c0 hX.c1 hX.n1 hX.tr hl).mono ?_;rintro e w' ⟨own',p',he,m⟩;obtain⟨cs',k⟩:=hX.map m;exact⟨own',cs',p',_,he,fin _ _ _ _ (by unfold iF;rw[Pm (by simpa using h0)];exact k)⟩
 have HD:=zH hD;have HP:=zH hP;clear hX hk hsz hN fin hD hP;clear h;generalize hcn:bt L x=c at*;go_enter func284,ntmps284;go_wp2_with fail;refine VV ?_;refine(Q6 (n:=0)).1 ?_;refine wpIn_region_any (by kernel_rfl) ?_;change wpAnyIn _ _ _ _ _ _ _ _ _ (World.drew _);(refine zi 0 rfl (fun W=>zq) ?_;simp only[zp]);(refine zi 1 rfl (fun W=>zq) ?_;simp only[zp]);(refine zi 2 rfl (fun W=>zq) ?_;simp only[zp]);(refine zi 4 rfl (fun W=>zq) ?_;simp only[zp]);(refine zi 5 rfl (fun W=>zq) ?_;simp only[zp]);(refine zi 6 rfl (fun W=>zq) ?_;simp only[zp]);refine rW 3 7 (by kernel_rfl) rfl rfl (fun K hK=>?_) (fun K hK=>?_)
 ·rw[Pj (by rfl)];(go_simp;refine hK.out _ _ ?_;clear hK K;try simp only[zp]);refine zj 7 rfl fun K hK=>?_;go_simp;refine⟨trivial,rfl,(PE.2 HC.out).mono ?_⟩;rintro e2 w2 ⟨rfl,rfl⟩;(go_simp;refine hK.out _ _ ?_;clear hK K;try simp only[zp]);refine zj 8 rfl fun K hK=>?_;exact Wt
 ·rw[Pj (by rfl)];go_simp;refine⟨trivial,rfl,(PE.2 HC.out).mono ?_⟩;rintro e2 w2 ⟨rfl,rfl⟩;(go_simp;refine hK.out _ _ ?_;clear hK K;try simp only[zp]);(refine zi 8 rfl (fun W=>zq) ?_;simp only[zp]);refine zj 3 rfl fun K hK=>?_;exact Wt
end
end
section
section
variable{t:Nat}{own own':Nat→Nat}{w w':World}{B q:Nat}{cs cs':Array Value}{ty:TypeId}{p p':Option Addr}{L L':List (Int×Int)}{all all':Int}
theorem qH(h:bD own t w B q cs ty p L all)(x many:Int)(hl:L.length≤700000)(ha:0≤all∧all≤4611686018427387904)(hm:0≤many∧all+many≤4611686018427387904)(hc:0≤bt L x∧bt L x≤all):
  Calls prog 223 #[.pointer (some ⟨B,q,none⟩),.int .i64 x,.int .i64 many] w fun e w'=>∃own' cs' p',e=.returned (.bool true)∧eH own t w w' B q cs ty (iF L x (bt L x+many)) (all+many) own' cs' p':=by
 have HC:=zH (pG h x);have c2:w.cell? ⟨B,q+2,none⟩=some (.int .i64 all):=(aa h.box (q+2)).trans h.c2;have hS:=CV h x (bt L x+many) hl ha (by omega) hc (by omega);rw[show all+(bt L x+many - bt L x)=all+many by omega]at hS;have HS:=zH hS;clear hS h;generalize hcn:bt L x=c at*;have g1:¬many<0:=by omega
 have g2:¬4611686018427387904 - all<many:=by omega
 go_enter func223,ntmps223;exact N3
theorem sH(h:bD own t w B q cs ty p L all)(x many:Int)(hl:L.length≤700000)(ha:0≤all∧all≤4611686018427387904)(hm:0≤many∧many≤bt L x)(hc:0≤bt L x∧bt L x≤all):
  Calls prog 222 #[.pointer (some ⟨B,q,none⟩),.int .i64 x,.int .i64 many] w fun e w'=>∃own' cs' p',e=.returned (.bool true)∧eH own t w w' B q cs ty (iF L x (bt L x - many)) (all - many) own' cs' p':=by
 have HC:=zH (pG h x);have hS:=CV h x (bt L x - many) hl ha (by omega) hc (by omega);rw[show all+(bt L x - many - bt L x)=all - many by omega]at hS;have HS:=zH hS;clear hS h;generalize hcn:bt L x=c at*;have g1:¬many<0:=by omega
 have g2:¬c<many:=by omega
 go_enter func222,ntmps222;exact N3
end
section
variable{t:Nat}{own own':Nat→Nat}{w w':World}{B:Nat}{cs cs':Array Value}{p p':Option Addr}{L L':List (Int×Int)}{all all':Int}{x:Sm}
structure ck(own:Nat→Nat)(t:Nat)(w:World)(B:Nat)(cs:Array Value)(p:Option Addr)(L:List (Int×Int))(all:Int)(x:Sm):Prop where
 bag:bD own t w B 0 cs 323 p L all
 size:cs.size=5
 c3:cs[3]?=some (.int .i64 x.hi)
 c4:cs[4]?=some (.int .i64 x.lo)
theorem bD.below{q:Nat}{ty:TypeId}(h:bD own t w B q cs ty p L all)(hb:Below w.heap.size w w'):bD own t w' B q cs ty p L all:=
 ⟨(hb.block B (am h.box)).trans h.box,h.c0,h.c1,h.c2,h.tr.below hb,h.ow.mono hb.size,h.n1⟩
theorem ck.setSum(h:ck own t w B cs p L all x)(y:Sm):ck own t ((w.setCell ⟨B,3,none⟩ (.int .i64 y.hi)).setCell ⟨B,4,none⟩ (.int .i64 y.lo)) B ((cs.setIfInBounds 3 (.int .i64 y.hi)).setIfInBounds 4 (.int .i64 y.lo)) p L all y:=by
 have hs:=h.size;have hf:∀j,j<3→((cs.setIfInBounds 3 (.int .i64 y.hi)).setIfInBounds 4 (.int .i64 y.lo))[j]?=cs[j]?:=fun j hj=>by
  exact OZ
 refine⟨⟨aq (aq h.bag.box 3 _) 4 _,(hf 0 (by omega)).trans h.bag.c0,(hf 1 (by omega)).trans h.bag.c1,(hf 2 (by omega)).trans h.bag.c2,(h.bag.tr.setCell h.bag.n1 _).setCell h.bag.n1 _,h.bag.ow.mono (by rw[PK,PK];exact Po _),h.bag.n1⟩,by simpa using hs,?_,?_⟩
 ·rw[UL,Pm (by omega),UL,Pj rfl,Pj (by omega)]
 ·rw[UL,Pj rfl,Pj (by simp;omega)]
def cd(d:Int):Int:=(BucketP.ix (kU d):Nat)
theorem G1(h:ck own t w B cs p L all x)(d:Int)(hx:x.Ok)(hl:L.length≤700000)(ha:0≤all∧all+1≤4611686018427387904)(hc:0≤bt L (cd d)∧bt L (cd d)≤all):
  Calls prog 151 #[.pointer (some ⟨B,0,none⟩),.int .i64 d] w fun e w'=>∃own' cs' p',(∃v,e=.returned v)∧ck own' t w' B cs' p' (iF L (cd d) (bt L (cd d)+1)) (all+1) (fT x d)∧Kp (fun b=>b=B∨own b=t) w w'∧aO own own' w:=by
 have hK:∀w1,Calls prog 225 #[.int .i64 d] w1 fun e w'=>e=.returned (.int .i64 (cd d))∧w1=w':=fun w1=>uO d w1;have HK:=zH hK;clear hK;have HA:=zH (fun w1 (b:Below w.heap.size w w1)=>qH (h.bag.below b) (cd d) 1 hl ⟨ha.1,by omega⟩ ⟨by omega,by omega⟩ hc);have HW:=zH (qP x hx d);have hN:∀w1 own1 cs1 p1 L1 all1 w2,Below w.heap.size w w2→eH own t w2 w1 B 0 cs 323 L1 all1 own1 cs1 p1→ck own1 t w1 B cs1 p1 L1 all1 x∧Kp (fun b=>b=B∨own b=t) w w1∧aO own own1 w:=fun w1 own1 cs1 p1 L1 all1 w2 b k=>
  ⟨⟨k.st,k.near.size.trans h.size,(k.near.far 3 (by omega)).trans h.c3,(k.near.far 4 (by omega)).trans h.c4⟩,(Kp.of_below _ b).trans k.kp,fun y hy=>k.ext y (Ut hy b.size)⟩
 have HN:=zH hN;have HF:=zH (fun w2 w3 own1 cs1 p1 (k:ck own1 t w2 B cs1 p1 (iF L (cd d) (bt L (cd d)+1)) (all+1) x) (hk:Kp (fun b=>b=B∨own b=t) w w2) (b:Below w2.heap.size w2 w3)=>
  (show ck own1 t ((w3.setCell ⟨B,3,none⟩ (.int .i64 (fT x d).hi)).setCell ⟨B,4,none⟩ (.int .i64 (fT x d).lo)) B _ p1 _ _ (fT x d)∧Kp (fun b=>b=B∨own b=t) w ((w3.setCell ⟨B,3,none⟩ (.int .i64 (fT x d).hi)).setCell ⟨B,4,none⟩ (.int .i64 (fT x d).lo))from
   ⟨ck.setSum ⟨k.bag.below b,k.size,k.c3,k.c4⟩ (fT x d),((hk.trans (Kp.of_below _ b)).setCell (b:=B) (fun _=>.inl rfl) _).setCell (b:=B) (fun _=>.inl rfl) _⟩))
 clear h hx hl ha hc hN;go_enter func151,ntmps151;go_wp2_with fail;refine zr (fun _=>True) trivial fun hS0=>?_;(refine zh hS0 2 4 0 ?_;simp only[zd];((iterate 4 (refine zU ?_;simp only[zp]));refine ac ?_));(refine zo 4 rfl fun K hK=>?_;go_simp);go_at_call 225;(with_reducible refine(HK.out _).mono ?_);rintro e1 w1 ⟨rfl,rfl⟩;go_wp2_with fail;(refine zu hK hS0 ?_;clear hK K;try simp only[zp]);(refine zo 5 rfl fun K hK=>?_;go_simp);go_at_call 223;(with_reducible refine(HA.out _ (Pk _ w).drew).mono ?_);rintro e2 w2 ⟨own2,cs2,p2,rfl,k2⟩;obtain⟨h2,hk2,he2⟩:=HN.out _ _ _ _ _ _ _ (Pk _ w).drew k2;go_wp2_with fail;(refine zu hK hS0 ?_;clear hK K;try simp only[zp]);(refine ze ?_);have c3:w2.cell? ⟨B,3,none⟩=some (.int .i64 x.hi):=(aa h2.bag.box 3).trans h2.c3;have c4:w2.cell? ⟨B,4,none⟩=some (.int .i64 x.lo):=(aa h2.bag.box 4).trans h2.c4;have HH2:=zH h2;clear h2;go_wp2_with fail;go_at_call 226;(with_reducible refine(HW.out _).mono ?_);rintro e3 w3 ⟨rfl,b3⟩;have m3:=(b3.block _ (am HH2.out.bag.box)).trans HH2.out.bag.box;have d3:w3.cell? ⟨B,3,none⟩=some (.int .i64 x.hi):=(aa m3 3).trans HH2.out.c3;have d4:w3.cell? ⟨B,4,none⟩=some (.int .i64 x.lo):=(aa m3 4).trans HH2.out.c4;have f3:=ak m3;go_wp2_with fail;go_end0;obtain⟨z1,z2⟩:=HF.out _ _ _ _ _ HH2.out hk2 b3;exact⟨_,_,_,⟨_,rfl⟩,z1,z2,he2⟩
end
section
variable{t:Nat}{own own':Nat→Nat}{w w':World}{B:Nat}{cs cs':Array Value}{p p':Option Addr}{L L':List (Int×Int)}{all all':Int}{x:Sm}
theorem CW{q:Nat}{ty:TypeId}(h:bD own t w B q cs ty p L all):
  Calls prog 110 #[.pointer (some ⟨B,q,none⟩)] w fun e w'=>e=.returned (.int .i64 all)∧w=w':=by
 have c2:w.cell? ⟨B,q+2,none⟩=some (.int .i64 all):=(aa h.box (q+2)).trans h.c2;clear h;go_enter func110,ntmps110;go_wp2;go_ret;exact⟨rfl,rfl⟩
theorem GZ(h:ck own t w B cs p L all x):
  Calls prog 132 #[.pointer (some ⟨B,0,none⟩)] w fun e w'=>e=.returned (.int .i64 all)∧w=w':=by
 have HL:=zH (CW h.bag);clear h;go_enter func132,ntmps132;go_wp2_with (go_at_call 110;(with_reducible refine(HL.out).mono ?_);rintro e2 w2 ⟨rfl,rfl⟩);go_ret;exact⟨rfl,rfl⟩
theorem GY(h:ck own t w B cs p L all x):
  Calls prog 133 #[.pointer (some ⟨B,0,none⟩)] w fun e w'=>e=.returned (.agg #[.int .i64 x.hi,.int .i64 x.lo])∧Below w.heap.size w w':=by
 have hb:=(zB w (.cells #[.int .i64 0,.int .i64 0] 167));have hh:=h.bag.below hb;have c3:(w.alloc (.cells #[.int .i64 0,.int .i64 0] 167)).cell? ⟨B,3,none⟩=some (.int .i64 x.hi):=(aa hh.box 3).trans h.c3;have c4:(w.alloc (.cells #[.int .i64 0,.int .i64 0] 167)).cell? ⟨B,4,none⟩=some (.int .i64 x.lo):=(aa hh.box 4).trans h.c4;clear h hh;go_enter func133,ntmps133;go_wp2_with fail;refine Ux (v:=.agg #[.int .i64 x.hi,.int .i64 x.lo]) (by simp[results,results133,go_sem]) rfl ?_;exact⟨rfl,zb⟩
end
section
variable{t:Nat}{own own':Nat→Nat}{w w':World}{B:Nat}{cs cs':Array Value}{p p':Option Addr}{L L':List (Int×Int)}{all all':Int}{x:Sm}
theorem Es(h:ck own t w B cs p L all x)(d:Int)(hx:x.Ok)(hl:L.length≤700000)(ha:0≤all∧all≤4611686018427387904)(hc:1≤bt L (cd d)∧bt L (cd d)≤all)(hls:ue x (fT iR d)=false):
  Calls prog 309 #[.pointer (some ⟨B,0,none⟩),.int .i64 d] w fun e w'=>∃own' cs' p',e=.returned (.bool true)∧ck own' t w' B cs' p' (iF L (cd d) (bt L (cd d) - 1)) (all - 1) (jM x d)∧Kp (fun b=>b=B∨own b=t) w w'∧aO own own' w:=by
 have hK:∀w1,Calls prog 225 #[.int .i64 d] w1 fun e w'=>e=.returned (.int .i64 (cd d))∧w1=w':=fun w1=>uO d w1;have HK:=zH hK;clear hK;have HA:=zH (fun w1 (b:Below w.heap.size w w1)=>sH (h.bag.below b) (cd d) 1 hl ha ⟨by omega,hc.1⟩ ⟨by omega,hc.2⟩);have HW:=zH (FB x hx d);have HO:=zH (fun b w1 hb=>FC b d w1 hb);have HLS:=Di x (fT iR d) hx (CY wI d);rw[hls]at HLS;have HL:=zH HLS;clear HLS;have hN:∀w1 own1 cs1 p1 L1 all1 w2,Below w.heap.size w w2→eH own t w2 w1 B 0 cs 323 L1 all1 own1 cs1 p1→ck own1 t w1 B cs1 p1 L1 all1 x∧Kp (fun b=>b=B∨own b=t) w w1∧aO own own1 w:=fun w1 own1 cs1 p1 L1 all1 w2 b k=>
  ⟨⟨k.st,k.near.size.trans h.size,(k.near.far 3 (by omega)).trans h.c3,(k.near.far 4 (by omega)).trans h.c4⟩,(Kp.of_below _ b).trans k.kp,fun y hy=>k.ext y (Ut hy b.size)⟩
 have HN:=zH hN;have HF:=zH (fun w2 w3 own1 cs1 p1 (k:ck own1 t w2 B cs1 p1 (iF L (cd d) (bt L (cd d) - 1)) (all - 1) x) (hk:Kp (fun b=>b=B∨own b=t) w w2) (b:Below w2.heap.size w2 w3)=>
  Uq (ck.setSum ⟨k.bag.below b,k.size,k.c3,k.c4⟩ (jM x d)) (((hk.trans (Kp.of_below _ b)).setCell (b:=B) (j:=3) (fun _=>.inl rfl) (.int .i64 (jM x d).hi)).setCell (b:=B) (j:=4) (fun _=>.inl rfl) (.int .i64 (jM x d).lo)))
 have s3:w.cell? ⟨B,3,none⟩=some (.int .i64 x.hi):=(aa h.bag.box 3).trans h.c3;have s4:w.cell? ⟨B,4,none⟩=some (.int .i64 x.lo):=(aa h.bag.box 4).trans h.c4;have hBw:=am h.bag.box;have HS:=zH (fun w1 (b:Below w.heap.size w w1)=>Uq ((b.cell (p:=⟨B,3,none⟩) hBw).trans s3) ((b.cell (p:=⟨B,4,none⟩) hBw).trans s4));clear h hx hl ha hc hN hls;go_enter func309,ntmps309;go_wp2_with fail;refine zr (fun V=>V.cell? ⟨B,3,none⟩=some (.int .i64 x.hi)∧V.cell? ⟨B,4,none⟩=some (.int .i64 x.lo)) ⟨s3,s4⟩ fun hS0=>?_;(refine zh hS0 18 3 0 ?_;simp only[zd];((iterate 3 (refine zU ?_;simp only[zp]));refine ac ?_));(refine zh hS0 13 5 3 ?_;simp only[zd];((iterate 5 (refine zt (fun W hW=>by obtain⟨y3,y4⟩:=hW;exact zq) ?_;simp only[zp]));refine ac ?_));(refine zo 8 rfl fun K hK=>?_;go_simp);have b0:Below w.heap.size w (w.alloc (.cells #[.int .i64 d] 3)).drew:=zb;have n0:(w.alloc (.cells #[.int .i64 d] 3)).drew.cell? ⟨w.heap.size,0,none⟩=some (.int .i64 d):=aa (Up w (.cells #[.int .i64 d] 3)) 0;have hS1:=HS.out _ b0;(refine zu hK hS1 ?_;clear hK K;try simp only[zp]);(refine zo 9 rfl fun K hK=>?_;go_simp);go_at_call 355;(with_reducible refine(HO.out _ _ n0).mono ?_);rintro e1 w1 ⟨rfl,b1⟩;have b1':=b0.trans (b1.mono b0.size);have hS2:=HS.out _ b1';go_wp2_with fail;(refine zu hK hS2 ?_;clear hK K;try simp only[zp]);(refine zo 10 rfl fun K hK=>?_;go_simp);go_at_call 354;(with_reducible refine(HL.out _).mono ?_);rintro e2 w2 ⟨rfl,b2⟩;have b2':=b1'.trans (b2.mono b1'.size);have hS3:=HS.out _ b2';go_wp2_with fail;(refine zu hK hS3 ?_;clear hK K;try simp only[zp]);(refine zh hS3 8 2 11 ?_;simp only[zd];((iterate 2 (refine zU ?_;simp only[zp]));refine ac ?_));(refine zh hS3 4 4 13 ?_;simp only[zd];((iterate 4 (refine zU ?_;simp only[zp]));refine ac ?_));(refine zo 17 rfl fun K hK=>?_;go_simp);go_at_call 225;(with_reducible refine(HK.out _).mono ?_);rintro e3 w3 ⟨rfl,rfl⟩;go_wp2_with fail;(refine zu hK hS3 ?_;clear hK K;try simp only[zp]);(refine zo 18 rfl fun K hK=>?_;go_simp);go_at_call 222;(with_reducible refine(HA.out _ b2').mono ?_);rintro e4 w4 ⟨own4,cs4,p4,rfl,k4⟩;obtain⟨h4,hk4,he4⟩:=HN.out _ _ _ _ _ _ _ b2' k4;have c3:w4.cell? ⟨B,3,none⟩=some (.int .i64 x.hi):=(aa h4.bag.box 3).trans h4.c3;have c4:w4.cell? ⟨B,4,none⟩=some (.int .i64 x.lo):=(aa h4.bag.box 4).trans h4.c4;have HH4:=zH h4;clear h4;go_wp2_with fail;(refine zu hK (Uq c3 c4) ?_;clear hK K;try simp only[zp]);(refine zh (Uq c3 c4) 0 2 19 ?_;simp only[zd];((iterate 2 (refine zU ?_;simp only[zp]));refine ac ?_));(refine ze ?_);go_wp2_with fail;go_at_call 356;(with_reducible refine(HW.out _).mono ?_);rintro e5 w5 ⟨rfl,b5⟩;have m5:=(b5.block _ (am HH4.out.bag.box)).trans HH4.out.bag.box;have d3:w5.cell? ⟨B,3,none⟩=some (.int .i64 x.hi):=(aa m5 3).trans HH4.out.c3;have d4:w5.cell? ⟨B,4,none⟩=some (.int .i64 x.lo):=(aa m5 4).trans HH4.out.c4;have f3:=ak m5;go_wp2_with fail;go_ret;obtain⟨z1,z2⟩:=HF.out _ _ _ _ _ HH4.out hk4 b5;exact⟨_,_,_,rfl,z1,z2,he4⟩
end
theorem yd(w:World):
  Calls prog 149 #[.slice none 0 0] w fun e w'=>e=.returned (.pointer (some ⟨w.heap.size,0,none⟩))∧w'=w.alloc (.cells #[.pointer none,.int .i64 0,.int .i64 0,.int .i64 0,.int .i64 0] 323):=by
 go_enter func149,ntmps149;go_wp2_with fail;refine U8 1 ?_;rw[UB];exact NR
theorem yc{own:Nat→Nat}{w:World}(hO:Ow own w)(s t:Nat)(hst:s≠t):
  ck (dj own w.heap.size s) t (w.alloc (.cells #[.pointer none,.int .i64 0,.int .i64 0,.int .i64 0,.int .i64 0] 323)) w.heap.size #[.pointer none,.int .i64 0,.int .i64 0,.int .i64 0,.int .i64 0] none [] 0 iR:=
 ⟨⟨Up w _,rfl,rfl,rfl,bM _ _ _ _ _,oG hO _ _ (by rw[Pq];omega) (by rw[Pq];omega),by rw[oH];exact hst⟩,rfl,rfl,rfl⟩
def jN(n:Int):Sm:=⟨n / 4611686018427387904,n % 4611686018427387904⟩
def kL(l:List Int):Int:=(l.map bN).sum
theorem dJ(d:Int)(l:List Int):kL (d::l)=kL l+bN d:=by simp[kL];omega
theorem Kc(l:List Int):0≤kL l∧kL l≤l.length*4611686018427387904:=by
 induction l with
 |nil=>simp[kL]
 |cons d r ih=>
  have:=iO d;rw[dJ,PC]
  push_cast
  omega
theorem uE{l l':List Int}(h:l.Perm l'):kL l=kL l':=by
 induction h with
 |nil=>rfl
 |cons x _ ih=>rw[dJ,dJ,ih]
 |swap x y l=>rw[dJ,dJ,dJ,dJ];omega
 |trans _ _ h1 h2=>exact h1.trans h2
theorem Fp:iR=jN 0:=rfl
theorem Jp{n:Int}(h0:0≤n)(h1:n≤4294967295*4611686018427387904):(jN n).Ok:=by
 unfold Sm.Ok jN;simp only;omega
theorem CZ{n d:Int}(h0:0≤n)(h1:n+bN d≤4294967295*4611686018427387904):fT (jN n) d=jN (n+bN d):=by
 have:=iO d;unfold fT jN;simp only;rw[Pm (by omega)];rw[Sm.mk.injEq];omega
theorem Ji{n d:Int}(h0:0≤n):jM (jN (n+bN d)) d=jN n:=by
 have hd:=iO d;unfold jM jN;simp only;by_cases h:(n+bN d) % 4611686018427387904 - bN d<0
 ·rw[Pj h,Pm (by omega),Sm.mk.injEq];omega
 ·rw[Pm h,Sm.mk.injEq];omega
theorem Gy{n d:Int}(h0:0≤n)(h1:n≤4294967295*4611686018427387904):ue (jN (n+bN d)) (fT iR d)=false:=by
 have hd:=iO d;rw[Fp,CZ (Int.le_refl _) (by omega)];unfold ue jN;simp only[UP];omega
end
