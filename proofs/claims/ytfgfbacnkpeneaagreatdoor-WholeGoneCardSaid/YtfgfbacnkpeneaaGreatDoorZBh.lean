/- For WholeGone: contracts of functions and plain laws. -/
import Derived.Test.YtfgfbacnkpeneaaGreatDoorZBg
import Derived.Lib.AppendZeros
set_option maxRecDepth 100000
set_option maxHeartbeats 4000000
set_option linter.unusedVariables false
set_option linter.unusedSimpArgs false
namespace Go.Proofs.YtfgfbacnkpeneaaGreatDoor
open Go.Proofs.Tryz Go.ChangeShapes Go.WideShapes Go.ChangeAt Go.RowKit Go.Deep AvlP
abbrev Wj:=@List.length_pos_iff
theorem Oa{P:Prop}(h:P:=by
 rw[Ur];exact Qc _ _):P:=h
theorem Ov{P:Prop}(h:P:=by
 obtain⟨⟨own2,cs2,s2,n2,e2⟩,k2⟩:=h;exact⟨⟨own2,cs2,s2,n1.trans n2,e1.trans e2 k1.size⟩,k1.trans' k2 fun b hb hf=>hf.ext e1 hb⟩):P:=h
section
open BigP
def iv(s:WS)(tr i:Int):WS:=match ag oS s.P (kk tr i)with
 |none=>s
 |some v=>{bq s (kk tr i)with P:=ay oS s.P (kk tr i) {v with fa:=(aH s.C tr i).length}}
section
variable{own:Nat→Nat}{b:Nat}{w w':World}{B q:Nat}{cs:Array Value}{ty:TypeId}{W:Nat}{s:WS}
theorem az.stand{own:Nat→Nat}{b:Nat}{w0 w':World}{B q:Nat}{cs:Array Value}{ty:TypeId}{W:Nat}{s:WS}{x:Nat}{o:Obj}(D:az own b w0 w' B q cs ty W s)(hx:w0.heap[x]?=some o)(h1:x≠B)(h2:x≠W)(h3:own x=0)(hb:0<b):w'.heap[x]?=some o:=by
 obtain⟨_,_,_,_,h,_⟩:=D;exact h.at hx fun hf=>by unfold FW at hf;omega
theorem az.bw(D:az own b w w' B q cs ty W s):B<w'.heap.size∧W<w'.heap.size∧w.heap.size≤w'.heap.size:=by
 obtain⟨_,_,⟨_,_,_,_,_,_,_,h9⟩,_,h,_⟩:=D;exact⟨am h9.bB,am h9.bW,h.size⟩
theorem be.bw(h:be own b w B q cs ty W s):B<w.heap.size∧W<w.heap.size∧Ow own w:=by
 exact OP
theorem Fy(h:be own b w B q cs ty W s)(hb:0<b)(hs:s.Small)(tr i:Int)(hu:(bq s (kk tr i)).U.length≤700000)(h1:aB tr)(h2:aB i):
  Calls prog 185 #[.pointer (some ⟨W,0,none⟩),.int .i64 tr,.int .i64 i] w fun e w'=>(∃c,e=.returned c)∧az own b w w' B q cs ty W (iv s tr i):=by
 have D0:=(h.same2 (Pk _ w)).step;obtain⟨r0,n5,r5,f5⟩:=(h.same2 (Pk _ w)).reads;have HOF:=zH (cz tr i h1 h2);cases hq:ag oS s.P (kk tr i)with
 |none=>
  have HGP:=zH (fun w4 (D:dX own b w w4 B q cs ty W s)=>D.call fun own4 cs4 h4=>jJ h4 (kk tr i) none hq);have e0:iv s tr i=s:=by unfold iv;rw[hq]
  rw[e0];clear hq h hs e0;go_enter func185,ntmps185;go_wp2_with (first |(go_at_call 61;(with_reducible refine(HOF.out _).mono ?_);rintro e1 w1 ⟨rfl,b1⟩;have D1:=(D0 _).below b1;obtain⟨r1,_⟩:=D1.reads) |(go_at_call 183;(with_reducible refine(HGP.out _ D1).mono ?_);rintro e2 w2 ⟨rfl,b2⟩;have D2:=D1.below b2;have D3:=D2.below (zB w2 (.cells PZ 98))));refine Ux (VQ rfl _ _ _) rfl ?_;exact⟨⟨_,rfl⟩,D3.post⟩
 |some v=>
  have HGP:=zH (fun w4 (D:dX own b w w4 B q cs ty W s)=>D.call fun own4 cs4 h4=>jJ h4 (kk tr i) (some v) hq);have e0:iv s tr i={bq s (kk tr i)with P:=ay oS s.P (kk tr i) {v with fa:=(aH s.C tr i).length}}:=by unfold iv;rw[hq]
  rw[e0];have HC:=zH (fun own3 cs3 w3 (D:be own3 b w3 B q cs3 ty W s)=>wL D hs (kk tr i));obtain⟨t1,t2,t3,t4⟩:=iE s (kk tr i);have hst:(bq s (kk tr i)).Small:=⟨by rw[t1];exact hs.a,by rw[t2];exact hs.c,by rw[t3];exact hs.p,hu,by rw[t4];exact hs.g,by rw[t1];exact hs.i,by rw[t2];exact hs.k⟩;have HF:=zH (fun own4 cs4 w4 (D:be own4 b w4 B q cs4 ty W (bq s (kk tr i)))=>BQ D hst tr i h1 h2);rw[t2]at HF;have HP:=zH (fun own4 cs4 w4 (D:be own4 b w4 B q cs4 ty W (bq s (kk tr i))) p=>wK D hst (kk tr i) p);rw[t3]at HP;generalize hff:((aH s.C tr i).length:Int)=ff at HF;clear hq h hs e0 t1 t2 t3 t4 hst hu;go_enter func185,ntmps185;go_wp2_with (first |(go_at_call 61;(with_reducible refine(HOF.out _).mono ?_);rintro e1 w1 ⟨rfl,b1⟩;have D1:=(D0 _).below b1;obtain⟨r1,_⟩:=D1.reads) |(go_at_call 183;(with_reducible refine(HGP.out _ D1).mono ?_);rintro e2 w2 ⟨rfl,b2⟩;have D2:=D1.below b2;clear D0 D1;obtain⟨own2,cs2,q2,near2,kp2,ext2⟩:=D2;have hbw2:=q2.bw;have b3:=zB w2 (.cells (PA v) 98);have n3:=Up w2 (.cells (PA v) 98);have z3:=Pq w2 (.cells (PA v) 98);have q3:=q2.below b3) |(go_at_call 252;(with_reducible refine(HC.out _ _ _ q3).mono ?_);rintro e4 w4 ⟨⟨c4,rfl⟩,D4⟩;have hg0:own2 w2.heap.size=0:=hbw2.2.2 _ (Po _);have n4:=D4.stand n3 (by omega) (by omega) hg0 hb;obtain⟨r4,_⟩:=D4.reads;obtain⟨own4,cs4,q4,near4,kp4,ext4⟩:=D4) |(go_at_call 258;(with_reducible refine(HF.out _ _ _ q4).mono ?_);rintro e6 w6 ⟨rfl,b6⟩;have n6:=af n4 b6;have x6:=aa n6 5;have f6:=ak n6 5;have q6:=q4.below b6;have s6:=kp4.size;have s7:=b6.size));have n7:(w6.setCell ⟨w2.heap.size,5,none⟩ (.int .i64 ff)).heap[w2.heap.size]?=some (.cells #[.int .i64 ({v with fa:=ff}:Pl).tr,.int .i64 ({v with fa:=ff}:Pl).id,.int .i64 ({v with fa:=ff}:Pl).cl,.int .i64 ({v with fa:=ff}:Pl).de,.int .i64 ({v with fa:=ff}:Pl).to,.int .i64 ({v with fa:=ff}:Pl).fa] 98 (0,0)):=aq n6 5 (.int .i64 ff);have k7:=(Kp.refl (fun c=>c=w2.heap.size) w6).setCell (b:=w2.heap.size) (j:=5) (fun _=>rfl) (.int .i64 ff);have g4:own4 w2.heap.size=0:=(ext4 _ (by omega)).trans hg0;have q7:=q6.away k7 (by omega) (by omega) g4 hb;have hz7:=k7.size;generalize w6.setCell ⟨w2.heap.size,5,none⟩ (.int .i64 ff)=w7 at n7 k7 q7 hz7⊢;have c7:=q7.reads0;have HPP:=zH (fun w8 (b8:Below w7.heap.size w7 w8)=>HP.out _ _ _ (q7.below b8) {v with fa:=ff});refine zr (fun V=>V.cell? ⟨W,0,none⟩=some (.pointer (some ⟨B,q,none⟩))∧V.heap[w2.heap.size]?=some (.cells #[.int .i64 ({v with fa:=ff}:Pl).tr,.int .i64 ({v with fa:=ff}:Pl).id,.int .i64 ({v with fa:=ff}:Pl).cl,.int .i64 ({v with fa:=ff}:Pl).de,.int .i64 ({v with fa:=ff}:Pl).to,.int .i64 ({v with fa:=ff}:Pl).fa] 98 (0,0))) ⟨c7,n7⟩ fun hS0=>?_;(refine zh hS0 1 8 0 ?_;simp only[zd];((iterate 8 (refine zt (fun W hW=>by have c0:=hW.1;have d0:=aa hW.2;exact zq) ?_;simp only[zp]));refine ac ?_));(refine zo 8 rfl fun K hK=>?_;go_simp);go_at_call 259;(with_reducible refine(HPP.out _ (Pk _ w7).drew).mono ?_);rintro e9 w9 ⟨⟨cc,rfl⟩,D9⟩;have n9:=D9.stand n7 (by omega) (by omega) (by omega);go_wp2_with fail;(refine zu hK ⟨D9.reads.1,n9⟩ ?_;clear hK K;try simp only[zp]);(refine ze ?_);go_wp2_with fail;go_end0;refine⟨⟨_,rfl⟩,?_⟩;have D9':=(D9.back (Pk _ w7).drew).post;have K:Kp (FW own2 b B W) w2 w7:=((((Kp.of_below (FW own2 b B W) b3).trans' kp4 (fun _ _ h=>h)).trans (Kp.of_below _ b6)).trans' k7 (fun c hc e=>by omega));have near4':aT q 6 cs cs4:=near2.trans near4;exact az.after q7 near4' (((kp2.mono fun c _ hf=>by unfold FP at hf;unfold FW;omega).trans' K (fun c hc hf=>hf.ext ext2 hc))) (fun y hy=>(ext4 y (by have:=kp2.size;omega)).trans (ext2 y hy)) D9'
end
end
section
open Go.Shelf BigP
attribute [local go_sem] QA
def ol(x y:Pl):Bool:=x.tr==y.tr&&(x.id==y.id&&(x.cl==y.cl&&(x.de==y.de&&(x.to==y.to&&x.fa==y.fa))))
theorem nR(w:World)(n:Nat)(a b c d e f a' b' c' d' e' f':Int):
  (Op.equalIn (n+2) 98 (.agg #[.int .i64 a,.int .i64 b,.int .i64 c,.int .i64 d,.int .i64 e,.int .i64 f]) (.agg #[.int .i64 a',.int .i64 b',.int .i64 c',.int .i64 d',.int .i64 e',.int .i64 f'])).run prog w
   =.ok (ol ⟨a,b,c,d,e,f⟩ ⟨a',b',c',d',e',f'⟩) w:=by
 unfold ol;by_cases q1:a=a'
 case neg=>simp[go_sem,q1]
 by_cases q2:b=b'
 case neg=>simp[go_sem,q1,q2]
 by_cases q3:c=c'
 case neg=>simp[go_sem,q1,q2,q3]
 by_cases q4:d=d'
 case neg=>simp[go_sem,q1,q2,q3,q4]
 by_cases q5:e=e'
 case neg=>simp[go_sem,q1,q2,q3,q4,q5]
 by_cases q6:f=f'
 ·simp[go_sem,q1,q2,q3,q4,q5,q6]
 ·simp[go_sem,q1,q2,q3,q4,q5,q6]
@[go_sem high] theorem Ju(w:World)(a b c d e f a' b' c' d' e' f':Int):
  (binOp .eql 98 (.agg #[.int .i64 a,.int .i64 b,.int .i64 c,.int .i64 d,.int .i64 e,.int .i64 f]) (.agg #[.int .i64 a',.int .i64 b',.int .i64 c',.int .i64 d',.int .i64 e',.int .i64 f'])).run prog w
   =.ok (.bool (ol ⟨a,b,c,d,e,f⟩ ⟨a',b',c',d',e',f'⟩)) w:=by
 rw[run_eql_struct,nR w 9998];rfl
theorem F7{x y:Pl}:ol x y=true↔x=y:=by
 obtain⟨a,b,c,d,e,f⟩:=x;obtain⟨a',b',c',d',e',f'⟩:=y;simp[ol]
theorem cw{F:Fence}{n':Nat}{P:Program}{ops:Array Oper}{rest:List Oper}{o:Oper}{a:Act}{Q:Exit→Act→World→Prop}{w:World}(hgd:o.guard=none)(s x:Operand)(t:TypeId)
  (ho:o.op=.call {callee:=.builtin .append,args:=#[s,x],argTypes:=#[t,t]})
  (base:Nat)(e:TypeId)(i:TypeInfo)(z:Value)(size cr:Nat)(ht:P.underlying t=some (.slice e))(hi:P.info? e=some i)(hz:i.zero=some z)
  (hsize:i.size=size)(hby:i.bytes=cr)(hzs:z.cells.size=size)(hsz:0<size)
  (v:Value)(n:Nat)(xs:List Value)(hs:a.eval s=v)(hown:w.ownsRow base e size v n xs)
  (ad:Addr)(m c:Nat)(news:List Value)(hx:a.eval x=.slice (some ad) m c)(hl:news.length=m*size)(hnews:∀j u,news[j]?=some u→w.cell? (ad.add j)=some u)(h1:∀u∈news,u.oneCell'=true)
  (h63:n+m≤maxLen)(hbytes:(n+m)*cr≤140737488355328)(hbase:base≤w.heap.size)
  (h:∀v' w',w'.ownsRow base e size v' (n+m) (xs++news)→w.grownBy w' v.ownBlock→(∀k,v'.ownBlock=some k→v.ownBlock=some k∨w.heap.size≤k)→wpListIn F n' P ops Q rest (a.put o.dst v') w'):wpListIn F n' P ops Q (o::rest) a w:=by
 refine wpListIn_plain hgd fun K hK=>?_;obtain⟨v',w',hr,h2,h3,h4⟩:=gj (P:=P) base t o.type e i z size cr ht hi hz hsize hby hzs hsz v n xs hown ad m c news hl hnews h1 h63 hbytes hbase;unfold Oper.wpIn;refine⟨?_,?_⟩
 ·simp[Oper.about,ho,resolve,Target.leads,VP]
 ·rw[Oper.semAt_plain F _ _ (by rw[ho];intro c hc';cases hc')];simp[execOp,ho,resolve,invoke,builtin,hs,hx,hr,Result.andThen];exact hK _ _ (h v' w' h2 h3 h4)
structure ik(W:World)(B D:Nat)(T:TypeId)(vo vi:Value)(lo li:List Pl):Prop where
 box:W.heap[D]?=some (.cells #[vo,vi] T (0,0))
 o:W.ownsRow B 98 6 vo lo.length (lo.flatMap iq)
 i:W.ownsRow B 98 6 vi li.length (li.flatMap iq)
 oi:gb vo vi
section
variable{W w7:World}{B D:Nat}{T:TypeId}{vo vi v7:Value}{lo li:List Pl}{tmp:Obj}{x:Pl}
theorem tE{v:Value}{l:List Pl}(h:W.ownsRow B 98 6 v (l.length+1) (l.flatMap iq++iq x)):W.ownsRow B 98 6 v (l++[x]).length ((l++[x]).flatMap iq):=by
 rw[show(l++[x]).length=l.length+1 by simp,show(l++[x]).flatMap iq=l.flatMap iq++iq x by simp];exact h
theorem ik.kept(h:ik W B D T vo vi lo li)(hb:Below W.heap.size W w7):ik w7 B D T vo vi lo li:=⟨af h.box hb,au h.o hb,au h.i hb,h.oi⟩
theorem ik.noD(h:ik W B D T vo vi lo li)(hD:D<B):vo.ownBlock≠some D∧vi.ownBlock≠some D:=⟨fun e=>by have:=(h.o.lt _ e).1;omega,fun e=>by have:=(h.i.lt _ e).1;omega⟩
theorem ik.appI(h:ik W B D T vo vi lo li)(oi7:w7.ownsRow B 98 6 v7 (li.length+1) (li.flatMap iq++iq x))(g7:(W.alloc tmp).grownBy w7 vi.ownBlock)(d7:∀k,v7.ownBlock=some k→vi.ownBlock=some k∨(W.alloc tmp).heap.size≤k)(hD:D<B):
  w7.heap[D]?=some (.cells #[vo,vi] T (0,0))∧ik (w7.setCell ⟨D,1,none⟩ v7) B D T vo v7 lo (li++[x]):=by
 have hb:=aS h.box (h.noD hD).2 g7;have h7:v7.ownBlock≠some D:=fun e=>by have:=(oi7.lt _ e).1;omega
 exact⟨hb,aq hb 1 v7,Us (bO h.oi.symm h.o g7) (a:=⟨D,1,none⟩) (h.noD hD).1 _,Us (tE oi7) (a:=⟨D,1,none⟩) h7 _,(bK h.oi.symm h.o (by rw[Pq];exact UE _) d7).symm⟩
theorem ik.appO(h:ik W B D T vo vi lo li)(oo7:w7.ownsRow B 98 6 v7 (lo.length+1) (lo.flatMap iq++iq x))(g7:(W.alloc tmp).grownBy w7 vo.ownBlock)(d7:∀k,v7.ownBlock=some k→vo.ownBlock=some k∨(W.alloc tmp).heap.size≤k)(hD:D<B):
  w7.heap[D]?=some (.cells #[vo,vi] T (0,0))∧ik (w7.setCell ⟨D,0,none⟩ v7) B D T v7 vi (lo++[x]) li:=by
 have hb:=aS h.box (h.noD hD).1 g7;have h7:v7.ownBlock≠some D:=fun e=>by have:=(oo7.lt _ e).1;omega
 exact⟨hb,aq hb 0 v7,Us (tE oo7) (a:=⟨D,0,none⟩) h7 _,Us (bO h.oi h.i g7) (a:=⟨D,0,none⟩) (h.noD hD).2 _,bK h.oi h.i (by rw[Pq];exact UE _) d7⟩
theorem iH{v:Value}{n sz:Nat}{e:TypeId}{xs:List Value}(h:W.ownsRow B e sz v n xs)(hg:(W.alloc tmp).grownBy w7 v.ownBlock):KeepsOthers W w7:=
 ⟨Pt (by rw[Pq];exact UE _) hg.size,fun b o hb ho=>aS hb (fun e'=>by
  rcases h.2 with⟨rfl,_⟩ |⟨g,cap,cur,rfl,_,hg',_⟩
  ·simp[Value.ownBlock]at e'
  ·have:g=b:=by simpa[Value.ownBlock]using e'
   subst this;rw[hb]at hg';cases hg';cases ho) hg⟩
theorem ik.cst(h:ik W B D T vo vi lo li)(hc:Mg W w7):ik w7 B D T vo vi lo li:=by
 have own:∀{v:Value} {n:Nat} {xs:List Value},W.ownsRow B 98 6 v n xs→w7.ownsRow B 98 6 v n xs:=fun {v n xs} h=>by
  refine⟨h.1,h.2.imp id ?_⟩;rintro⟨g,cap,cur,rfl,h1,h2,h3⟩;exact⟨g,cap,cur,rfl,h1,hc.2 _ _ _ _ h2,h3⟩
 exact⟨hc.2 _ _ _ _ h.box,own h.o,own h.i,h.oi⟩
end
def qE(P:List (ByteArray×Pl))(z:ByteArray×Pl):Pl:=(ag oS P z.1).getD ku
def dh(P:List (ByteArray×Pl))(z:ByteArray×Pl):Option Pl:=if ol z.2 (qE P z)||z.2.cl==0 then none else some z.2
def io(P:List (ByteArray×Pl))(z:ByteArray×Pl):Option Pl:=if ol z.2 (qE P z)||(qE P z).cl==0 then none else some (qE P z)
end
section
open Go.Shelf BigP
attribute [local go_sem] QA
section
variable{own:Nat→Nat}{b:Nat}{w:World}{B q:Nat}{cs:Array Value}{ty:TypeId}{W:Nat}{s:WS}
theorem Fv(h:be own b w B q cs ty W s)(hs:s.Small):
  Calls prog 186 #[.pointer (some ⟨W,0,none⟩)] w fun e w'=>∃vo vi,e=.returned (.agg #[vo,vi])∧w'.ownsRow w.heap.size 98 6 vo (s.U.filterMap (dh s.P)).length ((s.U.filterMap (dh s.P)).flatMap iq)∧
   w'.ownsRow w.heap.size 98 6 vi (s.U.filterMap (io s.P)).length ((s.U.filterMap (io s.P)).flatMap iq)∧Below w.heap.size w w':=by
 obtain⟨i0,hi⟩:=Qm mZ;have HI:=zH hi;clear hi;obtain⟨ds,p1,p2,p3,p4,p5,n,h0⟩:=(show be own b w B q cs ty W s from h);obtain⟨T,hp,hTl,hT,hTn,hTs⟩:=h0.tU;have hbw:=h.bw;have hc4:=(aa h0.bW 1).trans h0.d1;have b0:=ae (.cells #[.slice none 0 0,.slice none 0 0] 207) (ae (.cells #[.slice none 0 0,.slice none 0 0] 207) (zB w (.cells #[.pointer (some ⟨W,0,none⟩)] 290)));have n1:=ar (ar (Up w (.cells #[.pointer (some ⟨W,0,none⟩)] 290)) (.cells #[.slice none 0 0,.slice none 0 0] 207)) (.cells #[.slice none 0 0,.slice none 0 0] 207);have n2:=ar (Up (w.alloc (.cells #[.pointer (some ⟨W,0,none⟩)] 290)) (.cells #[.slice none 0 0,.slice none 0 0] 207)) (.cells #[.slice none 0 0,.slice none 0 0] 207);have n3:=Up ((w.alloc (.cells #[.pointer (some ⟨W,0,none⟩)] 290)).alloc (.cells #[.slice none 0 0,.slice none 0 0] 207)) (.cells #[.slice none 0 0,.slice none 0 0] 207);simp only[Pq]at n2 n3;have z3:(((w.alloc (.cells #[.pointer (some ⟨W,0,none⟩)] 290)).alloc (.cells #[.slice none 0 0,.slice none 0 0] 207)).alloc (.cells #[.slice none 0 0,.slice none 0 0] 207)).heap.size=w.heap.size+3:=by simp only[Pq]
 have HGP:=zH (fun k w4 (b4:Below w.heap.size w w4)=>jJ (h.below b4) k _ rfl);have HR0:=zH (fun w4 (b4:Below w.heap.size w w4)=>(h.below b4).reads0);refine(PE (n:=9)).1 ?_;refine QR func186 rfl trivial ?_ rfl;simp only[ntmps186,UH,PC,Qe,Nat.reduceAdd,Nat.reduceSub,QH,QI,QJ,QK,PQ,PN];gi_wp2;generalize ((w.alloc (.cells #[.pointer (some ⟨W,0,none⟩)] 290)).alloc (.cells #[.slice none 0 0,.slice none 0 0] 207)).alloc (.cells #[.slice none 0 0,.slice none 0 0] 207)=w3 at b0 n1 n2 n3 z3⊢;have HZ3:=zH z3;clear z3;have y1:=aa n1 0;gi_wp2_with (refine⟨trivial,?_⟩;gi_at_call 127;refine(PE.2 (MM ⟨W,1,none⟩ _)).mono ?_;rintro e w4 ⟨rfl,rfl⟩);have b4:=ae (.cells #[.pointer (some ⟨W,1,none⟩)] 241) b0;have n4:=Up w3 (.cells #[.pointer (some ⟨W,1,none⟩)] 241);have z4:=Pq w3 (.cells #[.pointer (some ⟨W,1,none⟩)] 241);have m1:=ar n1 (.cells #[.pointer (some ⟨W,1,none⟩)] 241);have m2:=ar n2 (.cells #[.pointer (some ⟨W,1,none⟩)] 241);have m3:=ar n3 (.cells #[.pointer (some ⟨W,1,none⟩)] 241);generalize w3.alloc (.cells #[.pointer (some ⟨W,1,none⟩)] 241)=V at b4 n4 z4 m1 m2 m3⊢;have hst:=sI (own:=own) (t:=b+3) 8 w3.heap.size W 1 T V (aa n4 0) ((b4.cell (p:=⟨W,1,none⟩) hbw.2.1).trans (hp▸hc4)) (hT.below b4) (hTl▸hTs);have hTw:∀c∈T.blocks,c<w.heap.size:=fun c hc=>(hT.at c hc).2;have hlen:T.toL.length≤700000:=by rw[hTl];exact hs.u
 have hz3:w.heap.size+3≤w3.heap.size:=Nat.le_of_eq HZ3.out.symm;have hz4:w3.heap.size<V.heap.size:=am n4;clear z4;have hD:w.heap.size+1+1<V.heap.size:=by omega
 have HD:=zH hD;refine Sa rfl (by omega) (gf:=198) (lb:=#[.pointer (some ⟨w3.heap.size,0,none⟩)]) rfl trivial (QS func198 (by kernel_rfl) rfl) hst
  (fun h k=>fh h k) (fun W l o o' hl' hW h1 h2=>gP (w:=V) (fun b hb=>by have:=hTw b hb;omega) W l o o' hl' hW h1 h2) (Pk _ _) (fun _=>rfl)
  (fun pre X=>(∃vo vi,ik X V.heap.size (w.heap.size+1+1) 207 vo vi ((pre.map (·.1)).filterMap (dh s.P)) ((pre.map (·.1)).filterMap (io s.P)))∧Below w.heap.size w X∧X.heap[w.heap.size]?=some (.cells #[.pointer (some ⟨W,0,none⟩)] 290 (0,0))∧X.heap[w.heap.size+1]?=some (.cells #[.slice none 0 0,.slice none 0 0] 207 (0,0))∧V.heap.size≤X.heap.size)
  (fun _ _ _=>False) ?hI (fun _ _ _ _ _ h _ _=>h) ⟨⟨_,_,m3,PS _ _ _ _,PS _ _ _ _,ki _⟩,b4,m1,m2,Po _⟩
  (fun z=>uQ V.heap.size 98 (iq z.1.2).toArray fun Bx=>{tmps:=#[.pointer (some ⟨W,0,none⟩),.pointer (some ⟨w.heap.size,0,none⟩),.pointer (some ⟨w.heap.size+1,0,none⟩),.pointer (some ⟨w.heap.size+1+1,0,none⟩),.string z.1.1,.pointer (some ⟨Bx,0,none⟩),undef,undef,.pointer (some ⟨W,0,none⟩),.pointer (some ⟨W,0,none⟩),.pointer (some ⟨W,1,none⟩),.func (.func 198) #[] #[.pointer (some ⟨w3.heap.size,0,none⟩)],.string z.1.1,.agg (PA z.1.2),undef,undef,undef,undef,undef,undef,undef,undef,undef,undef,undef,undef,undef,undef,undef,undef,undef,undef,undef,undef,undef,undef,undef,undef,undef,undef,undef,undef,undef,undef,undef,undef,undef],defers:=[]}) (fun _ _=>jK)
  ?assign ?body ?done (fun _ _ _ _ _ _ h _=>h.elim)
 case assign=>
  rintro l pre z X K hI hK;have hVX:=hI.2.2.2.2;gi_wp2;refine hK _ _ ((TD _ _).from _) (bG (n:=X.heap.size) (fun b hb=>by have:=hTw b hb;omega) (ae _ (Pk _ _))) ?_ ⟨X.heap.size,hVX,Up _ _,rfl⟩;obtain⟨⟨vo,vi,hR⟩,hb,i1,i2,i3⟩:=hI;exact⟨⟨vo,vi,hR.kept (ae _ (Pk _ _))⟩,hb.trans ((ae _ (Pk _ _)).mono hb.size),ar i1 _,ar i2 _,by rw[Pq];omega⟩
 case hI=>
  rintro pre X Y row ⟨⟨vo,vi,hR⟩,hb,i1,i2,i3⟩ hg hr;exact⟨⟨vo,vi,hR.cst (wh hg hr)⟩,hb.grown hg hb.size (fun k e=>by have:=(hr k e).1;omega),aW i1 hg hr,aW i2 hg hr,Pt i3 hg.size⟩
 case done=>
  rintro D zs X hDD hS ⟨⟨vo,vi,hR⟩,hb,i1,i2,i3⟩ hK;rw[hS,hTl]at hR;obtain⟨Ao,co,rfl⟩:=an hR.o;obtain⟨Ai,ci,rfl⟩:=an hR.i;have d0:=aa hR.box 0;have d1:=aa hR.box 1;have x0:=aa i2;have f0:=ak i2;have hDne:D≠w.heap.size+1:=by omega
  have hoD:∀{v:Value} {n:Nat} {xs:List Value},X.ownsRow V.heap.size 98 6 v n xs→v.ownBlock≠some (w.heap.size+1):=fun h e=>by have:=(h.lt _ e).1;omega
  gi_wp2;have KY:=QF (X.setCell ⟨w.heap.size+1,0,none⟩ (.slice Ao (s.U.filterMap (dh s.P)).length co)) ⟨w.heap.size+1,1,none⟩ D (.slice Ai (s.U.filterMap (io s.P)).length ci) hDne|>.trans (QF X ⟨w.heap.size+1,0,none⟩ D (.slice Ao (s.U.filterMap (dh s.P)).length co) hDne)|>.trans hK;have r2:=aq (aq i2 0 (.slice Ao (s.U.filterMap (dh s.P)).length co)) 1 (.slice Ai (s.U.filterMap (io s.P)).length ci);have ro:=Us (Us hR.o (a:=⟨w.heap.size+1,0,none⟩) (hoD hR.o) (.slice Ao (s.U.filterMap (dh s.P)).length co)) (a:=⟨w.heap.size+1,1,none⟩) (hoD hR.o) (.slice Ai (s.U.filterMap (io s.P)).length ci);have ri:=Us (Us hR.i (a:=⟨w.heap.size+1,0,none⟩) (hoD hR.i) (.slice Ao (s.U.filterMap (dh s.P)).length co)) (a:=⟨w.heap.size+1,1,none⟩) (hoD hR.i) (.slice Ai (s.U.filterMap (io s.P)).length ci);have bY:=(hb.setCell (p:=⟨w.heap.size+1,0,none⟩) (UE _) (.slice Ao (s.U.filterMap (dh s.P)).length co)).setCell (p:=⟨w.heap.size+1,1,none⟩) (UE _) (.slice Ai (s.U.filterMap (io s.P)).length ci);generalize (X.setCell ⟨w.heap.size+1,0,none⟩ (.slice Ao (s.U.filterMap (dh s.P)).length co)).setCell ⟨w.heap.size+1,1,none⟩ (.slice Ai (s.U.filterMap (io s.P)).length ci)=Y at KY r2 ro ri bY⊢;have r3:=(QP (o:=.deferred none) hDne.symm).trans r2;have t0:=aa r3 0;have t1:=aa r3 1;have hlow:∀{v:Value} {n:Nat} {xs:List Value},(Y.putObj D (.deferred none)).ownsRow V.heap.size 98 6 v n xs→(Y.putObj D (.deferred none)).ownsRow w.heap.size 98 6 v n xs:=fun h=>⟨h.1,h.2.imp id fun⟨g,cap,cur,e,hb',rest⟩=>⟨g,cap,cur,e,by omega,rest⟩⟩;refine⟨by simp,.inl ⟨_,_,rfl,UW KY,?_⟩⟩;refine⟨.agg #[.slice Ao (s.U.filterMap (dh s.P)).length co,.slice Ai (s.U.filterMap (io s.P)).length ci],(by simp[results,results186,go_sem,t0,t1]),?_⟩;exact⟨_,_,rfl,hlow (SQ ro _ KY rfl),hlow (SQ ri _ KY rfl),bY.grown (RE Y D _) bY.size fun k e=>by cases e;omega⟩
 case body=>
  rintro l pre z a' X hl' ⟨r,hr'⟩ ⟨⟨vo,vi,hR⟩,hb,i1,i2,i3⟩ ⟨Bx,hBx,bX,rfl⟩ hlen';have hXs:=hb.size;have hBxX:=am bX;have c1:=aa i1 0;have hgz:=fun w4 b4=>HGP.out z.1.1 w4 b4;obtain⟨is,his⟩:∃is,qE s.P z.1=is:=⟨_,rfl⟩;rw[show(ag oS s.P z.1.1).getD ku=is from his]at hgz;generalize (ag oS s.P z.1.1).isSome=ib at hgz;have HGZ:=zH hgz;have HB:=zH hb;have HR:=zH hR;have c2:=HR0.out _ hb;have hlo:((pre.map (·.1)).filterMap (dh s.P)).length≤700000:=Pt (Vl _ _) (by rw[Ur];omega);have hli:((pre.map (·.1)).filterMap (io s.P)).length≤700000:=Pt (Vl _ _) (by rw[Ur];omega);have HSO:=zH (show((pre++[z]).map (·.1)).filterMap (dh s.P)=(pre.map (·.1)).filterMap (dh s.P)++(dh s.P z.1).toList by rw[PU,Vj];cases h:dh s.P z.1<;>simp[h]);have HSI:=zH (show((pre++[z]).map (·.1)).filterMap (io s.P)=(pre.map (·.1)).filterMap (io s.P)++(io s.P z.1).toList by rw[PU,Vj];cases h:io s.P z.1<;>simp[h]);have HEO:=zH (show dh s.P z.1=if ol z.1.2 is||z.1.2.cl==0 then none else some z.1.2 by unfold dh;rw[his]);have HEI:=zH (show io s.P z.1=if ol z.1.2 is||is.cl==0 then none else some is by unfold io;rw[his]);generalize hlog:(pre.map (·.1)).filterMap (dh s.P)=lo at hlo HR HSO;generalize hlig:(pre.map (·.1)).filterMap (io s.P)=li at hli HR HSI;have HNO:=zH (show ∀y,X.heap.size≤y→vo.ownBlock≠some y from fun y hy e=>by have:=(HR.out.o.lt _ e).2;omega);have HI1:=zH (Uq i1 i2);have HFIN:=zH (show ∀X' vo' vi',ik X' V.heap.size (w.heap.size+1+1) 207 vo' vi' (lo++(dh s.P z.1).toList) (li++(io s.P z.1).toList)→Below w.heap.size w X'→X.heap.size≤X'.heap.size→KeepsOthers X X'→X'.heap[w.heap.size]?=some (.cells #[.pointer (some ⟨W,0,none⟩)] 290 (0,0))→X'.heap[w.heap.size+1]?=some (.cells #[.slice none 0 0,.slice none 0 0] 207 (0,0))→
    KeepsFrom V.heap.size X X'∧cu (fun b=>b∈T.blocks) X X'∧(∃vo vi,ik X' V.heap.size (w.heap.size+1+1) 207 vo vi (((pre++[z]).map (·.1)).filterMap (dh s.P)) (((pre++[z]).map (·.1)).filterMap (io s.P)))∧Below w.heap.size w X'∧X'.heap[w.heap.size]?=some (.cells #[.pointer (some ⟨W,0,none⟩)] 290 (0,0))∧X'.heap[w.heap.size+1]?=some (.cells #[.slice none 0 0,.slice none 0 0] 207 (0,0))∧V.heap.size≤X'.heap.size from
   fun X' vo' vi' h1 h2 h3 h4 h5 h6=>⟨h4.from _,fun c hc=>(h2.block c (hTw c hc)).trans (HB.out.block c (hTw c hc)).symm,⟨vo',vi',by rw[HSO.out,HSI.out];exact h1⟩,h2,h5,h6,Pt i3 h3⟩)
  clear hb hR i1 i2 hgz his hlog hlig;simp only[iq]at bX;rcases he:ol z.1.2 is with _ |_
  ·rw[he]at HEO HEI;have HEO:=HEO.out;have HEI:=HEI.out;simp only[Bool.false_or]at HEO HEI;rcases hw:(z.1.2.cl==0)with _ |_
   ·have hw':(z.1.2.cl !=0)=true:=by rw[bne,hw];rfl
    rw[hw,Pm (by decide)]at HEO;rcases hi:(is.cl==0)with _ |_
    ·have hi':(is.cl !=0)=true:=by rw[bne,hi];rfl
     rw[hi,Pm (by decide)]at HEI;have HE:=zH (Uq HEO HEI);clear HEO HEI hw hi;gi_wp2_with (first |(refine⟨trivial,?_⟩;gi_at_call 183;refine(UG _ (PE.2 (HGZ.out _ HB.out))).mono ?_;rintro e5 w5 ⟨rfl,b5⟩;have B6:=ae (.cells (PA is) 98) b5;have n6:=Up w5 (.cells (PA is) 98);have m6:=ar (af bX b5) (.cells (PA is) 98);have R6:=zH (HR.out.kept B6);have HB6:=zH (HB.out.trans (B6.mono hXs));have HK6:=zH ((Kp.of_below (fun _=>False) B6).others);have z6:=b5.size;have l6:=ar (af HI1.out.1 b5) (.cells (PA is) 98);have k6:=ar (af HI1.out.2 b5) (.cells (PA is) 98);have x0:=aa m6;have y0:=aa n6;have e60:=aa R6.out.box;have f60:=ak R6.out.box) |(gi_at_builtin;refine cw rfl _ _ 80 rfl V.heap.size 98 i0 (.agg PZ) 6 48 Sn HI.out.1 HI.out.2.1 HI.out.2.2.1 HI.out.2.2.2 rfl (by decide) (vo) _ _ rfl (R6.out.o.alloc _) ⟨w5.heap.size+1,0,none⟩ 1 1 (iq z.1.2) rfl rfl (bj (w5.alloc (.cells (PA is) 98)) _ _ (w5.heap.size+1) (by simp)) (by simp[iq,Value.oneCell']) (by unfold maxLen;omega) (by omega) (by simp;omega) ?_;intro v7 w7 of7 g7 d7;obtain⟨gf,cf,rfl⟩:=Qv of7;obtain⟨q7,R7⟩:=R6.out.appO of7 g7 d7 HD.out;have R8:=zH R7;have e7:=aa q7 0;have f7:=ak q7 0;have n8:=aw (j:=0) (aS n6 (HNO.out _ (by omega)) g7) (show w5.heap.size≠w.heap.size+1+1 by omega) (.slice (some ⟨gf,0,none⟩) (lo.length+1) cf);have u0:=aa n8;have l8:=aw (j:=0) (aS l6 (fun e=>by have:=(R6.out.o.lt _ e).1;omega) g7) (show w.heap.size≠w.heap.size+1+1 by omega) (.slice (some ⟨gf,0,none⟩) (lo.length+1) cf);have k8:=aw (j:=0) (aS k6 (fun e=>by have:=(R6.out.o.lt _ e).1;omega) g7) (show w.heap.size+1≠w.heap.size+1+1 by omega) (.slice (some ⟨gf,0,none⟩) (lo.length+1) cf);have e81:=aa R8.out.box 1;have f81:=ak R8.out.box 1;have HB8:=zH (((HB6.out.alloc HB6.out.size _).grown g7 (by have:=HB6.out.size;simp only[Pq]at*;omega) (fun k e=>by have:=(R6.out.o.lt k e).1;omega)).setCell (p:=⟨w.heap.size+1+1,0,none⟩) (by show w.heap.size≤w.heap.size+1+1;omega) (.slice (some ⟨gf,0,none⟩) (lo.length+1) cf));have HK8:=zH (HK6.out.trans ((iH R6.out.o g7).trans (Vm w7 ⟨w.heap.size+1+1,0,none⟩ (.slice (some ⟨gf,0,none⟩) (lo.length+1) cf))));have z7:w5.heap.size<w7.heap.size:=(by have:=g7.size;simp only[Pq]at this;omega)) |(gi_at_builtin;refine cw rfl _ _ 80 rfl V.heap.size 98 i0 (.agg PZ) 6 48 Sn HI.out.1 HI.out.2.1 HI.out.2.2.1 HI.out.2.2.2 rfl (by decide) (vi) _ _ rfl (R8.out.i.alloc _) ⟨w7.heap.size,0,none⟩ 1 1 (iq is) rfl rfl (bj (w7.setCell ⟨w.heap.size+1+1,0,none⟩ (.slice (some ⟨gf,0,none⟩) (lo.length+1) cf)) _ _ (w7.heap.size) (by simp)) (by simp[iq,Value.oneCell']) (by unfold maxLen;omega) (by omega) (by simp;omega) ?_;intro v9 w9 of9 g9 d9;obtain⟨gi,ci,rfl⟩:=Qv of9;obtain⟨q9,R9⟩:=R8.out.appI of9 g9 d9 HD.out;have R10:=zH R9;have l10:=aw (j:=1) (aS l8 (fun e=>by have:=(R8.out.i.lt _ e).1;omega) g9) (show w.heap.size≠w.heap.size+1+1 by omega) (.slice (some ⟨gi,0,none⟩) (li.length+1) ci);have k10:=aw (j:=1) (aS k8 (fun e=>by have:=(R8.out.i.lt _ e).1;omega) g9) (show w.heap.size+1≠w.heap.size+1+1 by omega) (.slice (some ⟨gi,0,none⟩) (li.length+1) ci);have e9:=aa q9 1;have f9:=ak q9 1;have HB10:=zH (((HB8.out.alloc HB8.out.size _).grown g9 (by have:=HB8.out.size;simp only[Pq]at*;omega) (fun k e=>by have:=(R8.out.i.lt k e).1;omega)).setCell (p:=⟨w.heap.size+1+1,1,none⟩) (by show w.heap.size≤w.heap.size+1+1;omega) (.slice (some ⟨gi,0,none⟩) (li.length+1) ci));have HK10:=zH (HK8.out.trans ((iH R8.out.i g9).trans (Vm w9 ⟨w.heap.size+1+1,1,none⟩ (.slice (some ⟨gi,0,none⟩) (li.length+1) ci))))));refine HFIN.out _ _ _ (by rw[HE.out.1,HE.out.2];exact R10.out) HB10.out HK10.out.size HK10.out l10 k10
    ·have hi':(is.cl !=0)=false:=by rw[bne,hi];rfl
     rw[hi,Pj rfl]at HEI;have HE:=zH (Uq HEO HEI);clear HEO HEI hw hi;gi_wp2_with (first |(refine⟨trivial,?_⟩;gi_at_call 183;refine(UG _ (PE.2 (HGZ.out _ HB.out))).mono ?_;rintro e5 w5 ⟨rfl,b5⟩;have B6:=ae (.cells (PA is) 98) b5;have n6:=Up w5 (.cells (PA is) 98);have m6:=ar (af bX b5) (.cells (PA is) 98);have R6:=zH (HR.out.kept B6);have HB6:=zH (HB.out.trans (B6.mono hXs));have HK6:=zH ((Kp.of_below (fun _=>False) B6).others);have z6:=b5.size;have l6:=ar (af HI1.out.1 b5) (.cells (PA is) 98);have k6:=ar (af HI1.out.2 b5) (.cells (PA is) 98);have x0:=aa m6;have y0:=aa n6;have e60:=aa R6.out.box;have f60:=ak R6.out.box) |(gi_at_builtin;refine cw rfl _ _ 80 rfl V.heap.size 98 i0 (.agg PZ) 6 48 Sn HI.out.1 HI.out.2.1 HI.out.2.2.1 HI.out.2.2.2 rfl (by decide) (vo) _ _ rfl (R6.out.o.alloc _) ⟨w5.heap.size+1,0,none⟩ 1 1 (iq z.1.2) rfl rfl (bj (w5.alloc (.cells (PA is) 98)) _ _ (w5.heap.size+1) (by simp)) (by simp[iq,Value.oneCell']) (by unfold maxLen;omega) (by omega) (by simp;omega) ?_;intro v7 w7 of7 g7 d7;obtain⟨gf,cf,rfl⟩:=Qv of7;obtain⟨q7,R7⟩:=R6.out.appO of7 g7 d7 HD.out;have R8:=zH R7;have e7:=aa q7 0;have f7:=ak q7 0;have n8:=aw (j:=0) (aS n6 (HNO.out _ (by omega)) g7) (show w5.heap.size≠w.heap.size+1+1 by omega) (.slice (some ⟨gf,0,none⟩) (lo.length+1) cf);have u0:=aa n8;have l8:=aw (j:=0) (aS l6 (fun e=>by have:=(R6.out.o.lt _ e).1;omega) g7) (show w.heap.size≠w.heap.size+1+1 by omega) (.slice (some ⟨gf,0,none⟩) (lo.length+1) cf);have k8:=aw (j:=0) (aS k6 (fun e=>by have:=(R6.out.o.lt _ e).1;omega) g7) (show w.heap.size+1≠w.heap.size+1+1 by omega) (.slice (some ⟨gf,0,none⟩) (lo.length+1) cf);have e81:=aa R8.out.box 1;have f81:=ak R8.out.box 1;have HB8:=zH (((HB6.out.alloc HB6.out.size _).grown g7 (by have:=HB6.out.size;simp only[Pq]at*;omega) (fun k e=>by have:=(R6.out.o.lt k e).1;omega)).setCell (p:=⟨w.heap.size+1+1,0,none⟩) (by show w.heap.size≤w.heap.size+1+1;omega) (.slice (some ⟨gf,0,none⟩) (lo.length+1) cf));have HK8:=zH (HK6.out.trans ((iH R6.out.o g7).trans (Vm w7 ⟨w.heap.size+1+1,0,none⟩ (.slice (some ⟨gf,0,none⟩) (lo.length+1) cf))));have z7:w5.heap.size<w7.heap.size:=(by have:=g7.size;simp only[Pq]at this;omega)));refine HFIN.out _ _ vi (by rw[HE.out.1,HE.out.2];simpa using R8.out) HB8.out HK8.out.size HK8.out l8 k8
   ·have hw':(z.1.2.cl !=0)=false:=by rw[bne,hw];rfl
    rw[hw,Pj rfl]at HEO;rcases hi:(is.cl==0)with _ |_
    ·have hi':(is.cl !=0)=true:=by rw[bne,hi];rfl
     rw[hi,Pm (by decide)]at HEI;have HE:=zH (Uq HEO HEI);clear HEO HEI hw hi;gi_wp2_with (first |(refine⟨trivial,?_⟩;gi_at_call 183;refine(UG _ (PE.2 (HGZ.out _ HB.out))).mono ?_;rintro e5 w5 ⟨rfl,b5⟩;have B6:=ae (.cells (PA is) 98) b5;have n6:=Up w5 (.cells (PA is) 98);have m6:=ar (af bX b5) (.cells (PA is) 98);have R6:=zH (HR.out.kept B6);have HB6:=zH (HB.out.trans (B6.mono hXs));have HK6:=zH ((Kp.of_below (fun _=>False) B6).others);have z6:=b5.size;have l6:=ar (af HI1.out.1 b5) (.cells (PA is) 98);have k6:=ar (af HI1.out.2 b5) (.cells (PA is) 98);have x0:=aa m6;have y0:=aa n6;have e60:=aa R6.out.box;have f60:=ak R6.out.box) |(gi_at_builtin;refine cw rfl _ _ 80 rfl V.heap.size 98 i0 (.agg PZ) 6 48 Sn HI.out.1 HI.out.2.1 HI.out.2.2.1 HI.out.2.2.2 rfl (by decide) (vi) _ _ rfl (R6.out.i.alloc _) ⟨w5.heap.size+1,0,none⟩ 1 1 (iq is) rfl rfl (bj (w5.alloc (.cells (PA is) 98)) _ _ (w5.heap.size+1) (by simp)) (by simp[iq,Value.oneCell']) (by unfold maxLen;omega) (by omega) (by simp;omega) ?_;intro v9 w9 of9 g9 d9;obtain⟨gi,ci,rfl⟩:=Qv of9;obtain⟨q9,R9⟩:=R6.out.appI of9 g9 d9 HD.out;have R10:=zH R9;have l10:=aw (j:=1) (aS l6 (fun e=>by have:=(R6.out.i.lt _ e).1;omega) g9) (show w.heap.size≠w.heap.size+1+1 by omega) (.slice (some ⟨gi,0,none⟩) (li.length+1) ci);have k10:=aw (j:=1) (aS k6 (fun e=>by have:=(R6.out.i.lt _ e).1;omega) g9) (show w.heap.size+1≠w.heap.size+1+1 by omega) (.slice (some ⟨gi,0,none⟩) (li.length+1) ci);have e9:=aa q9 1;have f9:=ak q9 1;have HB10:=zH (((HB6.out.alloc HB6.out.size _).grown g9 (by have:=HB6.out.size;simp only[Pq]at*;omega) (fun k e=>by have:=(R6.out.i.lt k e).1;omega)).setCell (p:=⟨w.heap.size+1+1,1,none⟩) (by show w.heap.size≤w.heap.size+1+1;omega) (.slice (some ⟨gi,0,none⟩) (li.length+1) ci));have HK10:=zH (HK6.out.trans ((iH R6.out.i g9).trans (Vm w9 ⟨w.heap.size+1+1,1,none⟩ (.slice (some ⟨gi,0,none⟩) (li.length+1) ci))))));refine HFIN.out _ vo _ (by rw[HE.out.1,HE.out.2];simpa using R10.out) HB10.out HK10.out.size HK10.out l10 k10
    ·have hi':(is.cl !=0)=false:=by rw[bne,hi];rfl
     rw[hi,Pj rfl]at HEI;have HE:=zH (Uq HEO HEI);clear HEO HEI hw hi;gi_wp2_with (refine⟨trivial,?_⟩;gi_at_call 183;refine(UG _ (PE.2 (HGZ.out _ HB.out))).mono ?_;rintro e5 w5 ⟨rfl,b5⟩;have B6:=ae (.cells (PA is) 98) b5;have n6:=Up w5 (.cells (PA is) 98);have m6:=ar (af bX b5) (.cells (PA is) 98);have R6:=zH (HR.out.kept B6);have HB6:=zH (HB.out.trans (B6.mono hXs));have HK6:=zH ((Kp.of_below (fun _=>False) B6).others);have z6:=b5.size;have l6:=ar (af HI1.out.1 b5) (.cells (PA is) 98);have k6:=ar (af HI1.out.2 b5) (.cells (PA is) 98);have x0:=aa m6;have y0:=aa n6;have e60:=aa R6.out.box;have f60:=ak R6.out.box);refine HFIN.out _ vo vi (by rw[HE.out.1,HE.out.2];simpa using R6.out) HB6.out B6.size HK6.out l6 k6
  ·rw[he]at HEO HEI;have HEO:=HEO.out;have HEI:=HEI.out;simp only[Bool.true_or,RT]at HEO HEI;have HE:=zH (Uq HEO HEI);clear HEO HEI;gi_wp2_with (refine⟨trivial,?_⟩;gi_at_call 183;refine(UG _ (PE.2 (HGZ.out _ HB.out))).mono ?_;rintro e5 w5 ⟨rfl,b5⟩;have B6:=ae (.cells (PA is) 98) b5;have n6:=Up w5 (.cells (PA is) 98);have m6:=ar (af bX b5) (.cells (PA is) 98);have R6:=zH (HR.out.kept B6);have HB6:=zH (HB.out.trans (B6.mono hXs));have HK6:=zH ((Kp.of_below (fun _=>False) B6).others);have z6:=b5.size;have l6:=ar (af HI1.out.1 b5) (.cells (PA is) 98);have k6:=ar (af HI1.out.2 b5) (.cells (PA is) 98);have x0:=aa m6;have y0:=aa n6;have e60:=aa R6.out.box;have f60:=ak R6.out.box);refine HFIN.out _ vo vi ?_ HB6.out B6.size HK6.out l6 k6;rw[HE.out.1,HE.out.2];simpa using R6.out
end
end
section
def qu(R:List Sp)(k:ByteArray):List Int:=(R.filter fun x=>decide (fe x.sv x.op=k)).map (·.du)
theorem oL(x:Sp)(R:List Sp)(k:ByteArray):qu (x::R) k=if k=fe x.sv x.op then x.du::qu R k else qu R k:=by
 unfold qu;by_cases e:k=fe x.sv x.op
 ·rw[Pj e,US,Pj (by simpa using e.symm)];rfl
 ·rw[Pm e,US,Pm (by simpa using fun h=>e h.symm)]
theorem jZ{R R':List Sp}(h:R.Perm R')(k:ByteArray):(qu R k).Perm (qu R' k):=(h.filter _).map _
theorem qF(R:List Sp)(k:ByteArray):(qu R k).length≤R.length:=by
 unfold qu;exact Oa
section
variable{own own':Nat→Nat}{t tm th hb:Nat}{w w':World}{B q v:Nat}{cs cs':Array Value}{ty:TypeId}{p p':Option Addr}{L L':List (ByteArray×Nat)}{D D':ByteArray→List Int}{l:List Int}{R R':List Sp}{x:Sp}{k:ByteArray}
theorem dm.kmE{K V:Type}{N:Nd K V}{o:eN K}{F:Nat→Prop}{M:List (K×V)}(h:dm N o own t w p M)(hk:Km F w w')(hf:∀b,b<w.heap.size→own b=t→¬F b)(he:aO own own' w):dm N o own' t w' p M:=by
 obtain⟨T,h1,h2,h3,h4,h5⟩:=h;exact⟨T,h1,h2,h3.kept fun b hb=>⟨hk.block b (h3.at b hb).2 (hf b (h3.at b hb).2 (h3.at b hb).1),he b (h3.at b hb).2⟩,h4,h5⟩
theorem fY.lt(h:fY own t w v l):v<w.heap.size:=by
 obtain⟨cs,p,L,h1,_⟩:=h;exact am h1.bag.box
theorem fY.ow(h:fY own t w v l):Ow own w:=by
 obtain⟨cs,p,L,h1,_⟩:=h;exact h1.bag.ow
theorem fY.km{F:Nat→Prop}(h:fY own t w v l)(hk:Km F w w')(hv:¬F v)(hf:∀b,b<w.heap.size→own b=t→¬F b)(he:aO own own' w)(ho:Ow own' w'):fY own' t w' v l:=by
 have hlt:=h.lt;obtain⟨cs,p,L,h1,h2⟩:=h;exact⟨cs,p,L,⟨⟨hk.at h1.bag.box hv,h1.bag.c0,h1.bag.c1,h1.bag.c2,h1.bag.tr.kmE hk hf he,ho,by rw[he v hlt];exact h1.bag.n1⟩,h1.size,h1.c3,h1.c4⟩,h2⟩
structure dE(own:Nat→Nat)(tm th hb:Nat)(w:World)(B q:Nat)(cs:Array Value)(ty:TypeId)(p:Option Addr)(L:List (ByteArray×Nat))(D:ByteArray→List Int):Prop where
 box:w.heap[B]?=some (.cells cs ty (0,0))
 c0:cs[q]?=some (.pointer p)
 c1:cs[q+1]?=some (.int .i64 (L.length:Nat))
 tr:dm AvH.nd oS own tm w p L
 ow:Ow own w
 oB:own B=0
 held:∀k v,ag oS L k=some v→own v=th∧fY own (hb+2*v) w v (D k)
 lack:∀k,ag oS L k=none→D k=[]
 inj:∀k k' v,ag oS L k=some v→ag oS L k'=some v→k=k'
structure Ku(tm th hb:Nat):Prop where
 m:tm≠0
 h:th≠0
 n:tm≠th
 m':tm<hb
 h':th<hb
def mJ(own:Nat→Nat)(tm th hb B b:Nat):Prop:=b=B∨own b=tm∨own b=th∨(hb≤own b∧own b % 2=hb % 2)
def cH(own:Nat→Nat)(tm th hb:Nat)(w:World)(B q:Nat)(cs:Array Value)(ty:TypeId)(R:List Sp):Prop:=
 ∃p L D,dE own tm th hb w B q cs ty p L D∧(∀k v,ag oS L k=some v→D k≠[])∧∀k,(D k).Perm (qu R k)
theorem cH.perm(h:cH own tm th hb w B q cs ty R)(hp:R.Perm R'):cH own tm th hb w B q cs ty R':=by
 obtain⟨p,L,D,h1,h2,h3⟩:=h;exact⟨p,L,D,h1,h2,fun k=>(h3 k).trans (jZ hp k)⟩
theorem rN{L:List (ByteArray×Nat)}(hs:aX oS L)(h:∀k v,ag oS L k=some v→qu R k≠[]):L.length≤R.length:=by
 have:=eT (l:=R.map fun x=>fe x.sv x.op) (lU hs) fun k hk=>by
  have hg:=(eX hs).2 hk;cases e:ag oS L k with
  |none=>exact absurd e hg
  |some v=>
   have h1:=h k v e;unfold qu at h1;cases hf:R.filter fun x=>decide (fe x.sv x.op=k)with
   |nil=>rw[hf]at h1;exact absurd rfl h1
   |cons y r=>
    have hm:y∈R.filter fun x=>decide (fe x.sv x.op=k):=by rw[hf];exact UI ..
    obtain⟨m1,m2⟩:=Uz.1 hm;simp only[P7]at m2;exact Uu.2 ⟨y,m1,m2⟩
 rwa [Ur,Ur]at this
theorem lV{α:Type}{l m:List α}(h:l.Perm m)(hl:l≠[]):m≠[]:=fun e=>by subst e;exact hl h.eq_nil
structure dv(own:Nat→Nat)(tm th hb:Nat)(w w':World)(B q:Nat)(cs:Array Value)(ty:TypeId)(R:List Sp):Prop where
 ex:∃own' cs',cH own' tm th hb w' B q cs' ty R∧aT q 2 cs cs'∧aO own own' w
 kp:Km (mJ own tm th hb B) w w'
theorem dE.far{F:Nat→Prop}(h:dE own tm th hb w B q cs ty p L D)(hk:Km F w w')(hf:∀b,b<w.heap.size→mJ own tm th hb B b→¬F b)(he:aO own own' w)(ho:Ow own' w'):dE own' tm th hb w' B q cs ty p L D:=by
 have hlB:=am h.box;refine⟨hk.at h.box (hf B hlB (.inl rfl)),h.c0,h.c1,h.tr.kmE hk (fun b hb e=>hf b hb (.inr (.inl e))) he,ho,by rw[he B hlB];exact h.oB,fun k v hv=>?_,h.lack,h.inj⟩;obtain⟨h1,h2⟩:=h.held k v hv;have hlv:=h2.lt;exact⟨by rw[he v hlv];exact h1,h2.km hk (hf v hlv (.inr (.inr (.inl h1)))) (fun b hb e=>hf b hb (.inr (.inr (.inr ⟨by omega,by omega⟩)))) he ho⟩
theorem dE.below(h:dE own tm th hb w B q cs ty p L D)(b:Below w.heap.size w w'):dE own tm th hb w' B q cs ty p L D:=
 h.far (Km.of_below (fun _=>False) b) (fun _ _ _=>id) (aO.refl _ _) (h.ow.mono b.size)
theorem cH.far{F:Nat→Prop}(h:cH own tm th hb w B q cs ty R)(hk:Km F w w')(hf:∀b,b<w.heap.size→mJ own tm th hb B b→¬F b)(he:aO own own' w)(ho:Ow own' w'):cH own' tm th hb w' B q cs ty R:=by
 obtain⟨p,L,D,h1,h2,h3⟩:=h;exact⟨p,L,D,h1.far hk hf he ho,h2,h3⟩
theorem cH.ow(h:cH own tm th hb w B q cs ty R):Ow own w:=by
 obtain⟨_,_,_,h1,_⟩:=h;exact h1.ow
theorem cH.lt(h:cH own tm th hb w B q cs ty R):B<w.heap.size:=by
 obtain⟨_,_,_,h1,_⟩:=h;exact am h1.box
theorem cH.below(h:cH own tm th hb w B q cs ty R)(b:Below w.heap.size w w'):cH own tm th hb w' B q cs ty R:=by
 obtain⟨p,L,D,h1,h2,h3⟩:=h;exact⟨p,L,D,h1.below b,h2,h3⟩
theorem mJ.ext{b:Nat}(he:aO own own' w)(hlt:b<w.heap.size)(h:mJ own' tm th hb B b):mJ own tm th hb B b:=by
 unfold mJ at*;rw[he b hlt]at h;exact h
theorem mJ.none{b:Nat}(hT:Ku tm th hb)(h0:own b=0)(hne:b≠B):¬mJ own tm th hb B b:=fun hf=>by
 have:=hT.m;have:=hT.h;have:=hT.m';unfold mJ at hf;rw[h0]at hf;omega
theorem dv.join{own1:Nat→Nat}{cs1:Array Value}{w1 w2:World}(n1:aT q 2 cs cs1)(e1:aO own own1 w)(k1:Km (mJ own tm th hb B) w w1)(h:dv own1 tm th hb w1 w2 B q cs1 ty R):dv own tm th hb w w2 B q cs ty R:=by
 exact Ov
theorem dE.turn(h:dE own tm th hb w B q cs ty p L D)(hT:Ku tm th hb)(hg:ag oS L k=some v)(hd:fY own' (hb+2*v) w' v l)(hk:Kp (fun b=>b=v∨own b=hb+2*v) w w')(he:aO own own' w):
  dE own' tm th hb w' B q cs ty p L (fun a=>if a=k then l else D a)∧Kp (mJ own tm th hb B) w w':=by
 have hv:=h.held k v hg;have hlv:=hv.2.lt;have hlB:=am h.box;have hBv:B≠v:=fun e=>by have:=hv.1;rw[←e,h.oB]at this;exact hT.h this.symm
 have hfar:∀b,own b=tm→¬(b=v∨own b=hb+2*v):=fun b e hf=>by
  have:=hT.m';rcases hf with rfl |e2
  ·rw[hv.1]at e;exact hT.n e.symm
  ·omega
 refine⟨⟨hk.at h.box (fun hf=>?_),h.c0,h.c1,h.tr.kmE hk.toKm (fun b _ e=>hfar b e) he,hd.ow,by rw[he B hlB];exact h.oB,fun a u hu=>?_,fun a ha=>?_,h.inj⟩,hk.mono fun b _ hf=>?_⟩
 ·rcases hf with e |e
  ·exact hBv e
  ·rw[h.oB]at e;have:=hT.m';omega
 ·by_cases e:a=k
  ·subst e;rw[hu]at hg;cases hg;exact⟨(he _ hlv).trans hv.1,by simp only[Pj];exact hd⟩
  ·have hu2:=h.held a u hu;have huv:u≠v:=fun e2=>e (h.inj a k v (by rw[←e2];exact hu) hg);simp only[Pm e];refine⟨(he _ hu2.2.lt).trans hu2.1,hu2.2.km hk.toKm (fun hf=>?_) (fun b _ e3 hf=>?_) he hd.ow⟩
   ·rcases hf with e3 |e3
    ·exact huv e3
    ·rw[hu2.1]at e3;have:=hT.h';omega
   ·rcases hf with e4 |e4
    ·rw[e4,hv.1]at e3;have:=hT.h';omega
    ·omega
 ·rw[Pm (fun e=>by rw[e,hg]at ha;cases ha)];exact h.lack a ha
 ·rcases hf with rfl |e
  ·exact .inr (.inr (.inl hv.1))
  ·exact .inr (.inr (.inr ⟨by omega,by omega⟩))
theorem dE.come(h:dE own tm th hb w B q cs ty p L D)(hT:Ku tm th hb)(hg:ag oS L k=none){own1 own2:Nat→Nat}{w1 w2:World}{z:Nat}{p2:Option Addr}(h1:fY own1 (hb+2*z) w1 z [])(hz:w.heap.size≤z)(hb1:Below w.heap.size w w1)(e1:aO own own1 w)(o1:own1 z=th)
  (m:bI AvH.nd oS own1 tm w1 w2 B q cs ty (ay oS L k z) own2 p2):
  dE own2 tm th hb w2 B q ((cs.setIfInBounds q (.pointer p2)).setIfInBounds (q+1) (.int .i64 ((ay oS L k z).length:Nat))) ty p2 (ay oS L k z) D∧Kp (mJ own tm th hb B) w w2∧aO own own2 w:=by
 have hlB:=am h.box;have e2:=e1.trans m.ext hb1.size;have hs:=h.tr.srt;have hgi:∀a,ag oS (ay oS L k z) a=if a=k then some z else ag oS L a:=fun a=>by
  by_cases e:a=k
  ·rw[Pj e,e];exact(bm oS hs k z).1
  ·rw[Pm e];exact(bm oS hs k z).2 a e
 have hkp:Kp (fun b=>b=B∨own b=tm) w w2:=(Kp.of_below _ hb1).trans' m.kp fun b hb hf=>by rw[e1 b hb]at hf;exact hf
 have hlz:=h1.lt;have t01:=gh (u:=.pointer p2) (v:=.int .i64 ((ay oS L k z).length:Nat)) h.c0 h.c1;have hBz:B≠z:=by omega
 refine⟨⟨m.box,t01.1,t01.2,m.tr,m.ow,by rw[e2 B hlB];exact h.oB,fun a u hu=>?_,fun a ha=>?_,fun a a' u hu hu'=>?_⟩,hkp.mono fun b _ hf=>?_,e2⟩
 ·rw[hgi]at hu;by_cases e:a=k
  ·rw[Pj e]at hu;cases hu;refine⟨by rw[m.ext z hlz];exact o1,?_⟩;rw[e,h.lack k hg];refine h1.km m.kp.toKm (fun hf=>?_) (fun b _ e3 hf=>?_) m.ext m.ow
   ·rcases hf with e3 |e3
    ·exact hBz e3.symm
    ·rw[o1]at e3;exact hT.n e3.symm
   ·have:=hT.m';rcases hf with e4 |e4
    ·rw[e4,e1 B hlB,h.oB]at e3;omega
    ·omega
  ·rw[Pm e]at hu;have hu2:=h.held a u hu;refine⟨by rw[e2 u hu2.2.lt];exact hu2.1,hu2.2.km hkp.toKm (fun hf=>?_) (fun b _ e3 hf=>?_) e2 m.ow⟩
   ·rcases hf with e3 |e3
    ·have:=hu2.1;rw[e3,h.oB]at this;exact hT.h this.symm
    ·rw[hu2.1]at e3;exact hT.n e3.symm
   ·have:=hT.m';rcases hf with e4 |e4
    ·rw[e4,h.oB]at e3;omega
    ·omega
 ·rw[hgi]at ha;by_cases e:a=k
  ·rw[Pj e]at ha;cases ha
  ·rw[Pm e]at ha;exact h.lack a ha
 ·rw[hgi]at hu hu';by_cases e:a=k
  ·rw[Pj e]at hu;cases hu;by_cases e':a'=k
   ·rw[e,e']
   ·rw[Pm e']at hu';have:=(h.held a' z hu').2.lt;omega
  ·rw[Pm e]at hu;by_cases e':a'=k
   ·rw[Pj e']at hu';cases hu';have:=(h.held a z hu).2.lt;omega
   ·rw[Pm e']at hu';exact h.inj a a' u hu hu'
 ·rcases hf with e |e
  ·exact .inl e
  ·exact .inr (.inl e)
theorem dE.go(h:dE own tm th hb w B q cs ty p L D)(hT:Ku tm th hb)(hD:D k=[]){p2:Option Addr}(m:bI AvH.nd oS own tm w w' B q cs ty (aK oS L k) own' p2):
  dE own' tm th hb w' B q ((cs.setIfInBounds q (.pointer p2)).setIfInBounds (q+1) (.int .i64 ((aK oS L k).length:Nat))) ty p2 (aK oS L k) D∧Kp (mJ own tm th hb B) w w':=by
 have hlB:=am h.box;have hs:=h.tr.srt;have t01:=gh (u:=.pointer p2) (v:=.int .i64 ((aK oS L k).length:Nat)) h.c0 h.c1;have hgi:∀a,ag oS (aK oS L k) a=if a=k then none else ag oS L a:=fun a=>by
  by_cases e:a=k
  ·rw[Pj e,e];exact(dC oS hs k).1
  ·rw[Pm e];exact(dC oS hs k).2 a e
 have hof:∀a u,ag oS (aK oS L k) a=some u→ag oS L a=some u:=fun a u hu=>by
  rw[hgi]at hu;by_cases e:a=k
  ·rw[Pj e]at hu;cases hu
  ·rw[Pm e]at hu;exact hu
 refine⟨⟨m.box,t01.1,t01.2,m.tr,m.ow,by rw[m.ext B hlB];exact h.oB,fun a u hu=>?_,fun a ha=>?_,fun a a' u hu hu'=>h.inj a a' u (hof a u hu) (hof a' u hu')⟩,m.kp.mono fun b _ hf=>?_⟩
 ·have hu2:=h.held a u (hof a u hu);refine⟨by rw[m.ext u hu2.2.lt];exact hu2.1,hu2.2.km m.kp.toKm (fun hf=>?_) (fun b _ e3 hf=>?_) m.ext m.ow⟩
  ·rcases hf with e3 |e3
   ·have:=hu2.1;rw[e3,h.oB]at this;exact hT.h this.symm
   ·rw[hu2.1]at e3;exact hT.n e3.symm
  ·have:=hT.m';rcases hf with e4 |e4
   ·rw[e4,h.oB]at e3;omega
   ·omega
 ·rw[hgi]at ha;by_cases e:a=k
  ·rw[e];exact hD
  ·rw[Pm e]at ha;exact h.lack a ha
 ·rcases hf with e |e
  ·exact .inl e
  ·exact .inr (.inl e)
end
section
variable{own own':Nat→Nat}{t tm th hb:Nat}{w w':World}{B q v:Nat}{cs cs':Array Value}{ty:TypeId}{p p':Option Addr}{L L':List (ByteArray×Nat)}{D D':ByteArray→List Int}{l:List Int}{R R':List Sp}{x:Sp}{k:ByteArray}{d:Int}
theorem tT(h:dE own tm th hb w B q cs ty p L (fun a=>if a=k then d::D k else D a))(hk:k=fe x.sv x.op)(hd:x.du=d)(h2:∀a u,ag oS L a=some u→a=k∨D a≠[])(h3:∀a,(D a).Perm (qu R a)):cH own tm th hb w B q cs ty (x::R):=by
 refine⟨p,L,_,h,fun a u hu=>?_,fun a=>?_⟩
 ·by_cases e:a=k
  ·simp only[Pj e];exact List.cons_ne_nil _ _
  ·simp only[Pm e];exact(h2 a u hu).resolve_left e
 ·rw[oL,←hk,hd];by_cases e:a=k
  ·simp only[Pj e];rw[e];exact(h3 k).cons _
  ·simp only[Pm e];exact h3 a
theorem xB(h:dE own tm th hb w B q cs ty p L (fun a=>if a=k then l else D a))(hk:k=fe x.sv x.op)(hl:l=qu R k)(h2:∀a u,ag oS L a=some u→(a≠k∧D a≠[])∨(a=k∧l≠[]))(h3:∀a,(D a).Perm (qu (x::R) a)):cH own tm th hb w B q cs ty R:=by
 refine⟨p,L,_,h,fun a u hu=>?_,fun a=>?_⟩
 ·by_cases e:a=k
  ·simp only[Pj e];exact(h2 a u hu).elim (fun h=>absurd e h.1) (·.2)
  ·simp only[Pm e];exact(h2 a u hu).elim (·.2) (fun h=>absurd h.1 e)
 ·by_cases e:a=k
  ·simp only[Pj e];rw[hl,e]
  ·simp only[Pm e];have:=h3 a;rw[oL,←hk,Pm e]at this;exact this
theorem LK{t':Nat}(hO:Ow own w)(hst:t'≠t):fY (dj own w.heap.size t') t (w.alloc (.cells #[.pointer none,.int .i64 0,.int .i64 0,.int .i64 0,.int .i64 0] 323)) w.heap.size []:=
 ⟨_,_,_,yc hO t' t hst,dF⟩
theorem G7(h:fY own t w v l):Calls prog 132 #[.pointer (some ⟨v,0,none⟩)] w fun e w'=>e=.returned (.int .i64 (l.length:Nat))∧w=w':=by
 obtain⟨cs,p,L,h1,_⟩:=h;exact GZ h1
theorem Co(h:cH own tm th hb w B q cs ty R)(hT:Ku tm th hb)(x:Sp)(hx:x.few)(hl:R.length≤90000):
  Calls prog 87 #[.pointer (some ⟨B,q,none⟩),.agg (SA x)] w fun e w'=>(∃u,e=.returned u)∧dv own tm th hb w w' B q cs ty (x::R):=by
 obtain⟨p,L,D,h1,h2,h3⟩:=h;have hlen:=rN h1.tr.srt fun k v hv=>lV (h3 k) (h2 k v hv);have hm:=hT.m';have hh:=hT.h';have hDl:(D (fe x.sv x.op)).length≤90000:=by rw[(h3 _).length_eq];exact Pt (qF _ _) hl
 have b0:=zB w (.cells (SA x) 93);have n0:=Up w (.cells (SA x) 93);have H0:=h1.below b0;have hBw:=am h1.box;have c0:=(aa H0.box q).trans H0.c0;have y0:=aa n0 0;have y1:=aa n0 1;have y2:=aa n0 2;have y3:=aa n0 3;have y4:=aa n0 4;have y5:=aa n0 5;have y6:=aa n0 6;have y7:=aa n0 7;have y8:=aa n0 8;have HK:=zH (fun w1=>qC x.sv x.op (Pt hx.1 (by omega)) (Pt hx.2 (by omega)) w1);have hso:own w.heap.size=0:=h1.ow _ (Po _);have HNF:=zH (show ¬mJ own tm th hb B w.heap.size from fun hf=>by
  have:=hT.m;have:=hT.h;unfold mJ at hf;rw[hso]at hf;omega)
 have HN0:=zH n0;have HB0:=zH b0;clear hx;rcases hg:ag oS L (fe x.sv x.op)with _ |v
 ·have HG:=zH (fun w1 c1 t1=>Cr (own:=own) (t:=tm) B q p L (fe x.sv x.op) w1 c1 t1 none hg);have HS:=zH (fun(w0:World) (b0:Below w.heap.size w w0) (H0:dE own tm th hb w0 B q cs ty p L D)=>by
   have hbn:=zB w0 (.cells #[.pointer none,.int .i64 0,.int .i64 0,.int .i64 0,.int .i64 0] 323);have hew:=lZ own w0 th (b:=w0.heap.size) (Po _);have how:=oG H0.ow w0.heap.size th (w':=w0.alloc (.cells #[.pointer none,.int .i64 0,.int .i64 0,.int .i64 0,.int .i64 0] 323)) (by rw[Pq];omega) (by rw[Pq];omega);exact Mu (own:=dj own w0.heap.size th) (t:=tm) B q cs ty p L (fe x.sv x.op) w0.heap.size (w0.alloc (.cells #[.pointer none,.int .i64 0,.int .i64 0,.int .i64 0,.int .i64 0] 323)) how (af H0.box hbn) H0.c0 H0.c1 (by rw[hew B (am H0.box),H0.oB];exact fun e=>hT.m e.symm) ((H0.tr.ext hew).below hbn) (by omega))
  have HC:=zH (fun(w0:World) (H0:dE own tm th hb w0 B q cs ty p L D) own2 p2 w2 (m:bI AvH.nd oS (dj own w0.heap.size th) tm (w0.alloc (.cells #[.pointer none,.int .i64 0,.int .i64 0,.int .i64 0,.int .i64 0] 323)) w2 B q cs ty (ay oS L (fe x.sv x.op) w0.heap.size) own2 p2)=>
   H0.come hT hg (LK (t:=hb+2*w0.heap.size) (t':=th) H0.ow (by omega)) (Po _) (ae _ (Pk _ _)) (lZ own w0 th (Po _)) (oH own w0.heap.size th) m)
  have HZ:=zH (fun z=>(bm oS h1.tr.srt (fe x.sv x.op) z).1);have HO:=zH (fun z own3 w3 cs3 p3 (h:dE own3 tm th hb w3 B q cs3 ty p3 (ay oS L (fe x.sv x.op) z) (fun a=>if a=fe x.sv x.op then x.du::D (fe x.sv x.op)else D a))=>tT (x:=x) h rfl rfl (fun a u hu=>by
   by_cases e:a=fe x.sv x.op
   ·exact .inl e
   ·rw[(bm oS h1.tr.srt _ z).2 a e]at hu;exact .inr (h2 a u hu)) h3)
  have H0':=zH H0;have HT:=zH hT;clear h1 h2 h3 hT hg H0 n0 b0;go_enter func87,ntmps87;go_wp2_with (go_at_call 147;(with_reducible refine(HK.out _).mono ?_);rintro e w1 ⟨rfl,rfl⟩);generalize w.alloc (.cells (SA x) 93)=w0 at*;have tr0:=H0'.out.tr;have z0:=HB0.out.size;clear y0 y1 y2 y3 y4 y5 y6 y7 y8;have HC:=zH (HC.out w0 H0'.out);have HS:=zH (HS.out w0 HB0.out H0'.out);have HG:=zH (HG.out w0 c0 tr0);clear tr0;go_wp2_with (first |(go_at_call 148;(with_reducible refine(HG.out).mono ?_);rintro e w1 ⟨rfl,rfl⟩;simp only[AvH.vo,Sl]) |(go_at_call 149;(with_reducible refine(yd _).mono ?_);rintro e w1 ⟨rfl,rfl⟩) |(go_at_call 150;(with_reducible refine(HS.out).mono ?_);rintro e w2 ⟨own2,p2,rfl,m2⟩;obtain⟨H2,k2,x2⟩:=HC.out _ _ _ m2;clear m2;have n2:=aa (k2.at HN0.out HNF.out) 7;have HA:=zH (G6 (H2.held _ _ (HZ.out _)).2 (by omega) x.du)) |(go_at_call 151;(with_reducible refine(HA.out).mono ?_);rintro e w3 ⟨own3,⟨u,rfl⟩,d3,k3,x3⟩));go_end0;obtain⟨H3,k3'⟩:=H2.turn HT.out (HZ.out _) d3 k3 x3;exact⟨⟨_,rfl⟩,dv.join (cX _ _ _ _) (fun b hb=>x2 b (by omega)) ((Km.of_below _ HB0.out).trans k2.toKm) ⟨⟨_,_,HO.out _ _ _ _ _ H3,aT.refl _ _ _,x3⟩,k3'.toKm⟩⟩
 ·have HG:=zH (fun w1 c1 t1=>Cr (own:=own) (t:=tm) B q p L (fe x.sv x.op) w1 c1 t1 (some v) hg);have HA:=zH (G6 (H0.held _ _ hg).2 (by omega) x.du);have HTU:=zH (fun own' w' l (hd:fY own' (hb+2*v) w' v l) (hk:Kp (fun b=>b=v∨own b=hb+2*v) _ w') (he:aO own own' _)=>H0.turn hT hg hd hk he);have HO:=zH (fun own3 w3 (h:dE own3 tm th hb w3 B q cs ty p L (fun a=>if a=fe x.sv x.op then x.du::D (fe x.sv x.op)else D a))=>tT (x:=x) h rfl rfl (fun a u hu=>.inr (h2 a u hu)) h3);have tr0:=H0.tr;clear h1 h2 h3 hT hg H0 n0 b0;go_enter func87,ntmps87;go_wp2_with (go_at_call 147;(with_reducible refine(HK.out _).mono ?_);rintro e w1 ⟨rfl,rfl⟩);generalize w.alloc (.cells (SA x) 93)=w0 at*;have z0:=HB0.out.size;go_wp2_with (first |(go_at_call 148;(with_reducible refine(HG.out _ c0 tr0).mono ?_);rintro e w1 ⟨rfl,rfl⟩;simp only[AvH.vo,RH]) |(go_at_call 151;(with_reducible refine(HA.out).mono ?_);rintro e w3 ⟨own3,⟨u,rfl⟩,d3,k3,x3⟩));go_end0;obtain⟨H3,k3'⟩:=HTU.out _ _ _ d3 k3 x3;exact⟨⟨_,rfl⟩,⟨_,_,HO.out _ _ H3,aT.refl _ _ _,fun b hb=>x3 b (by omega)⟩,(Km.of_below _ HB0.out).trans k3'.toKm⟩
theorem Ge(x:Sp)(h:cH own tm th hb w B q cs ty (x::R))(hT:Ku tm th hb)(hx:x.few)(hl:R.length≤80000):
  Calls prog 264 #[.pointer (some ⟨B,q,none⟩),.agg (SA x)] w fun e w'=>e=.returned (.bool true)∧dv own tm th hb w w' B q cs ty R:=by
 obtain⟨p,L,D,h1,h2,h3⟩:=h;have hlen:=rN h1.tr.srt fun k v hv=>lV (h3 k) (h2 k v hv);rw[PC]at hlen;have hm:=hT.m';have hh:=hT.h';have hDl:=qF R (fe x.sv x.op);have b0:=zB w (.cells (SA x) 93);have n0:=Up w (.cells (SA x) 93);have H0:=h1.below b0;have hBw:=am h1.box;have c0:=(aa H0.box q).trans H0.c0;have y0:=aa n0;have HK:=zH (fun w1=>qC x.sv x.op (Pt hx.1 (by omega)) (Pt hx.2 (by omega)) w1);have HB0:=zH b0;have hDk:=h3 (fe x.sv x.op);rw[oL,Pj rfl]at hDk;rcases hg:ag oS L (fe x.sv x.op)with _ |v
 ·rw[h1.lack _ hg]at hDk;exact absurd hDk.symm.eq_nil (List.cons_ne_nil _ _)
 have HG:=zH (fun w1 c1 t1=>Cr (own:=own) (t:=tm) B q p L (fe x.sv x.op) w1 c1 t1 (some v) hg);have HA:=zH (JX (l:=qu R (fe x.sv x.op)) x.du ((H0.held _ _ hg).2.perm hDk) (by omega));have HTU:=zH (fun own' w' l (hd:fY own' (hb+2*v) w' v l) (hk:Kp (fun b=>b=v∨own b=hb+2*v) _ w') (he:aO own own' _)=>H0.turn hT hg hd hk he);have HO:=zH (fun own3 w3 cs3 p3 L3 (h:dE own3 tm th hb w3 B q cs3 ty p3 L3 (fun a=>if a=fe x.sv x.op then qu R (fe x.sv x.op)else D a)) (hs:∀a u,ag oS L3 a=some u→ag oS L a=some u∧(a=fe x.sv x.op→qu R (fe x.sv x.op)≠[]))=>xB (x:=x) h rfl rfl (fun a u hu=>by
  obtain⟨g1,g2⟩:=hs a u hu;by_cases e:a=fe x.sv x.op
  ·exact .inr ⟨e,g2 e⟩
  ·exact .inl ⟨e,h2 a u g1⟩) h3)
 have HSR:=zH h1.tr.srt;have HT:=zH hT;have tr0:=H0.tr;clear h1 h2 h3 hT hg H0 n0 b0 hDk;go_enter func264,ntmps264;go_wp2_with (go_at_call 147;(with_reducible refine(HK.out _).mono ?_);rintro e w1 ⟨rfl,rfl⟩);generalize w.alloc (.cells (SA x) 93)=w0 at*;have z0:=HB0.out.size;have HG:=zH (HG.out _ c0 tr0);go_wp2_with (first |(go_at_call 148;(with_reducible refine(HG.out).mono ?_);rintro e w1 ⟨rfl,rfl⟩;simp only[AvH.vo,RH]) |(go_at_call 309;(with_reducible refine(HA.out).mono ?_);rintro e w3 ⟨own3,rfl,d3,k3,x3⟩;obtain⟨H3,k3'⟩:=HTU.out _ _ _ d3 k3 x3;have HLN:=zH (G7 d3)));by_cases hz:qu R (fe x.sv x.op)=[]
 ·have HMD:=zH (Lx (own:=own3) (t:=tm) B q cs ty p L (fe x.sv x.op) w3 H3.ow H3.box H3.c0 H3.c1 (by rw[H3.oB];exact fun e=>HT.out.m e.symm) H3.tr (by omega));have HGO:=zH (fun w4 p4 (m:bI AvH.nd oS own3 tm w3 w4 B q cs ty (aK oS L (fe x.sv x.op)) own3 p4)=>H3.go HT.out (k:=fe x.sv x.op) (by simp only[Pj];exact hz) m);rw[hz]at HLN;have H3':=zH H3;clear H3 d3;go_wp2_with (first |(go_at_call 132;(with_reducible refine(HLN.out).mono ?_);rintro e w4 ⟨rfl,rfl⟩;simp only[Qe]) |(go_at_call 310;(with_reducible refine(HMD.out).mono ?_);rintro e w4 ⟨p4,rfl,m4⟩));go_ret;obtain⟨H4,k4⟩:=HGO.out _ _ m4;refine⟨rfl,dv.join (aT.refl _ _ _) (fun b hb=>x3 b (by omega)) ((Km.of_below _ HB0.out).trans k3'.toKm) ⟨⟨_,_,HO.out _ _ _ _ _ H4 (fun a u hu=>?_),cX _ _ _ _,aO.refl _ _⟩,k4.toKm⟩⟩;have hgd:=dC oS HSR.out (fe x.sv x.op);by_cases e:a=fe x.sv x.op
  ·rw[e,hgd.1]at hu;cases hu
  ·rw[hgd.2 a e]at hu;exact⟨hu,fun e2=>absurd e2 e⟩
 ·have hne:(((qu R (fe x.sv x.op)).length:Nat)==(0:Int))=false:=by
   have:=Wj.2 hz;rw[Qz];omega
  have H3':=zH H3;clear H3 d3;go_wp2_with (go_at_call 132;(with_reducible refine(HLN.out).mono ?_);rintro e w4 ⟨rfl,rfl⟩);go_ret;exact⟨rfl,⟨_,_,HO.out _ _ _ _ _ H3'.out (fun a u hu=>⟨hu,fun _=>hz⟩),aT.refl _ _ _,fun b hb=>x3 b (by omega)⟩,(Km.of_below _ HB0.out).trans k3'.toKm⟩
end
end
section
open BigP
theorem AU(n:Nat)(hn:n≤700000)(w:World):
  Calls prog 251 #[.slice none 0 0,.int .i64 n] w fun e w'=>∃v,e=.returned v∧w'.ownsRow w.heap.size 93 9 v 0 []∧Below w.heap.size w w':=by
 obtain⟨i0,hi⟩:=Qm cC;by_cases h0:n=0
 ·subst h0;clear hi;go_enter func251,ntmps251;go_wp2;go_ret;exact⟨_,rfl,PS _ _ _ _,Pk _ _⟩
 ·have HI:=zH hi;clear hi;have hpos:(0:Int)< (n:Int):=by omega
  have hneg:¬((n:Int)<0):=by omega
  have hiw:=Qp (n:Int) (by omega);go_enter func251,ntmps251;have hfit:n*i0.bytes≤281474976710656:=by rw[HI.out.2.2.2];omega
  have HRUN:=zH (fun(ty':TypeId)=>Lib.run_append_nil_zeros (P:=prog) w 22 3 ty' 93 i0 _ .i64 .i64 UF U7 HI.out.1 HI.out.2.1 n (by omega) (by rw[HI.out.2.2.1];decide) (by omega) hfit);have hcap:=grownCap_ge w n 0 93;have hcm:=grownCap_le_maxLen w n 0 93 (by unfold maxLen;omega);generalize grownCap w n 0 93=cap at HRUN hcap hcm;clear hiw;go_wp2_with (at_builtin;go_loud (refine Lib.wpList_append_run w rfl _ _ 22 3 rfl _ _ rfl rfl _ _ (HRUN.out _) ?_));have hsz:(Builtin.zeroCells SZ n++Builtin.zeroCells SZ (cap - n)).size=cap*9:=by
   rw[Array.size_append,size_zeroCells,size_zeroCells];show n*9+(cap - n)*9=cap*9;omega
  generalize Builtin.zeroCells SZ n++Builtin.zeroCells SZ (cap - n)=zs at hsz⊢;refine Ux (v:=.slice (some ⟨w.heap.size,0,none⟩) 0 cap) (by simp[results,results251,go_sem]) rfl ?_;exact⟨_,rfl,⟨rfl,.inr ⟨w.heap.size,cap,zs,rfl,Po _,Up w _,QZ _,hcm,hsz,by simp⟩⟩,(ae _ (Pk _ _)).drew⟩
theorem iU{ops:Array Oper}{rest:List Oper}{o:Oper}{a:Act}{Q:Exit→Act→World→Prop}{w:World}(hgd:o.guard=none)(s x:Operand)
  (ho:o.op=.call {callee:=.builtin .append,args:=#[s,x],argTypes:=#[22,22]})(base b2:Nat)(v u:Value)(n:Nat)(xs:List Value)(l:List Sp)(hs:a.eval s=v)(hown:w.ownsRow base 93 9 v n xs)
  (hx:a.eval x=u)(hu:w.ownsRow b2 93 9 u l.length (l.flatMap bg))(hn:n+l.length≤1000000)(hbase:base≤w.heap.size)
  (h:∀v' w',w'.ownsRow base 93 9 v' (n+l.length) (xs++l.flatMap bg)→w.grownBy w' v.ownBlock→wpList prog ops Q rest (a.put o.dst v') w'):wpList prog ops Q (o::rest) a w:=by
 obtain⟨i0,hi⟩:=Qm cC;rcases hu.2 with⟨rfl,h0⟩ |⟨g,cap,cur,rfl,hg,hgg,rest'⟩
 ·have hl:l=[]:=QW h0;subst hl;obtain⟨A,c,rfl⟩:∃A c,v=.slice A n c:=an hown;have hc:n≤c:=by
   rcases hown.2 with⟨e,h0⟩ |⟨_,_,_,e,_,_,h3,_⟩
   ·cases e;omega
   ·cases e;exact h3
  refine SU hgd fun _ hK=>Lib.wp_append_run w s x 22 22 ho _ _ hs hx (.slice A n c) w ?_ (hK _ _ (h _ _ (by simpa using hown) ⟨rfl,rfl,rfl,Po _,fun _ _ _=>rfl⟩));cases A<;>simp[Builtin.append_,Qu UF,sizeOf,typeInfo,hi.1,Builtin.firstCells,Builtin.lenOf,hc,storeCells]
 ·have hone:∀u∈l.flatMap bg,u.oneCell'=true:=fun u hu'=>by
   obtain⟨y,_,hy⟩:=List.mem_flatMap.1 hu';simp[bg]at hy;rcases hy with rfl |rfl |rfl |rfl |rfl |rfl |rfl |rfl |rfl<;>rfl
  refine aM hgd s x 22 ho base 93 i0 _ 9 88 UF hi.1 hi.2.1 hi.2.2.1 hi.2.2.2 rfl (by decide) v n xs hs hown ⟨g,0,none⟩ l.length cap (l.flatMap bg) hx hu.1 (fun j u' hj=>hu.cells (g:=g) rfl j u' hj) hone (by unfold maxLen;omega) (by omega) hbase (fun v' w' h1 h2 _=>h v' w' h1 h2)
theorem wj(B1 B2 H:Nat)(vo vi:Value)(lo li:List Sp)(w:World)(hH:w.heap[H]?=some (.cells #[vo,vi] 22 (0,0)))(ho:w.ownsRow B1 93 9 vo lo.length (lo.flatMap bg))(hi:w.ownsRow B2 93 9 vi li.length (li.flatMap bg))(h1:lo.length≤300000)(h2:li.length≤300000):
  Calls prog 181 #[.slice (some ⟨H,0,none⟩) 2 2] w fun e w'=>∃v,e=.returned v∧w'.ownsRow w.heap.size 93 9 v (lo++li).length ((lo++li).flatMap bg)∧Below w.heap.size w w':=by
 obtain⟨Ao,co,rfl⟩:=an ho;obtain⟨Ai,ci,rfl⟩:=an hi;have hHw:=am hH;have c0:=aa hH 0;have c1:=aa hH 1;have e1:=Qp (lo.length:Int) (by omega);have e2:=Qp ((lo.length:Int)+(li.length:Int)) (by omega);have e3:¬((lo.length:Int)<0):=by omega
 have e4:¬((lo.length:Int)+(li.length:Int)<0):=by omega
 have HG:=zH (AU (lo.length+li.length) (by omega) w);rw[show((lo.length+li.length:Nat):Int)=(lo.length:Int)+(li.length:Int)by omega]at HG;have HO:=zH ho;have HI:=zH hi;clear ho hi;go_enter func181,ntmps181;go_wp2_with fail;refine U8 9 ?_;rw[UB];go_wp2_with fail;rw[UB];go_wp2_with fail;rw[UB];go_wp2_with (go_at_call 251;(with_reducible refine(HG.out).mono ?_);rintro e3 w3 ⟨v3,rfl,r3,b3⟩;have c2:=(b3.cell (p:=⟨H,0,none⟩) hHw).trans c0;have c3:=(b3.cell (p:=⟨H,1,none⟩) hHw).trans c1;have O3:=au HO.out b3;have I3:=au HI.out b3);refine U8 9 ?_;rw[UB];go_wp2_with (at_builtin;go_loud (refine iU rfl _ _ rfl w.heap.size _ v3 _ _ _ lo rfl r3 rfl O3 (by omega) b3.size ?_);intro v4 w4 r4 g4;have B4:=b3.grown g4 b3.size (fun k e=>(r3.lt k e).1);have c5:=(B4.cell (p:=⟨H,1,none⟩) hHw).trans c1;have I4:=au HI.out B4);rw[Rf,PQ]at r4;rw[UB];go_wp2_with (at_builtin;go_loud (refine iU rfl _ _ rfl w.heap.size _ v4 _ _ _ li rfl r4 rfl I4 (by omega) B4.size ?_);intro v6 w6 r6 g6;have B6:=B4.grown g6 B4.size (fun k e=>(r4.lt k e).1));rw[UB];go_wp2_with fail;refine Ux (v:=v6) (by simp[results,results181,go_sem]) rfl ?_;exact⟨v6,rfl,by rw[Pu,UX];exact r6,B6⟩
end
