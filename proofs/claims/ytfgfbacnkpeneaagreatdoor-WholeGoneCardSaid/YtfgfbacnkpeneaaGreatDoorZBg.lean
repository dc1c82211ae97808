/- For WholeGone: contracts of functions and plain laws. -/
import Derived.Test.YtfgfbacnkpeneaaGreatDoorZBf
import Derived.Test.YtfgfbacnkpeneaaGreatDoorZAd
set_option maxRecDepth 100000
set_option maxHeartbeats 4000000
set_option linter.unusedVariables false
set_option linter.unusedSimpArgs false
namespace Go.Proofs.YtfgfbacnkpeneaaGreatDoor
open Go.Proofs.Tryz Go.ChangeShapes Go.WideShapes Go.ChangeAt Go.RowKit Go.Deep AvlP BigP
abbrev VQ:=@Go.results_none
abbrev V6:=@Go.Proofs.Tryz.results256
abbrev Wi:=@List.getLast?_eq_getElem?
theorem Uh{P:Prop}(h:P:=by
 go_simp;go_at_call 61;(with_reducible refine(HOF.out _).mono ?_);rintro e4 w4 ⟨rfl,g4⟩;have S4:=hS0.trans (g4.mono hS0.size);go_wp2_with fail;(refine zu hK S4 ?_;clear hK K;try simp only[zp]);refine aU 9 13 (by kernel_rfl) rfl rfl (fun K hK=>?_) (fun K hK=>?_)
 ·rw[Pj (by rfl)];go_simp;go_at_call 183;(with_reducible refine(HGW.out _ S4).mono ?_);rintro e5 w5 ⟨rfl,g5⟩;have S5:=S4.trans (g5.mono S4.size);go_wp2_with fail;(refine zu hK S5 ?_;clear hK K;try simp only[zp]);(refine zh S5 3 3 10 ?_;simp only[zd];((iterate 3 (refine zU ?_;simp only[zp]));refine ac ?_));(refine zo 13 rfl fun K hK=>?_);(go_simp;(refine zu hK (ae _ S5) ?_;clear hK K;try simp only[zp]));(refine zo 14 rfl fun K hK=>?_);(refine bu _ _ rfl (by rfl) (by rfl) (Up _ _) rfl ?_);intro w6 n6 k6 _;have S6:=(ae _ S5).trans (gA k6 S5.size (by rw[Pq];have:=S5.size;omega));(refine zu hK S6 ?_;clear hK K;try simp only[zp]);(refine zh S6 0 1 15 ?_;simp only[zd];((iterate 1 (refine zU ?_;simp only[zp]));refine ac ?_));(refine ze ?_);have hle:=S5.size;generalize w5.heap.size=g11 at n6 hle⊢;exact HG g11 w6 ⟨S6,n6,hle⟩
 ·(rw[Pj (by rfl)];go_simp;(refine zu hK (ae _ S4) ?_;clear hK K;try simp only[zp]));refine aE 9 (by kernel_rfl) rfl (fun K hK=>?_);rw[Pj (by rfl)];go_simp;have n4:=Up w4 (.cells (PA ku) 98);go_at_call 183;(with_reducible refine(HGW.out _ (ae _ S4)).mono ?_);rintro e5 w5 ⟨rfl,g5⟩;have S5:=ah g5 (ae _ S4);have n5:=af n4 g5;go_wp2_with fail;(refine zu hK S5 ?_;clear hK K;try simp only[zp]);(refine zh S5 2 3 10 ?_;simp only[zd];((iterate 3 (refine zU ?_;simp only[zp]));refine ac ?_));(refine zo 14 rfl fun K hK=>?_);(refine bu _ _ rfl (by rfl) (by rfl) (n5) rfl ?_);intro w6 n6 k6 _;have S6:=S5.trans (gA k6 S4.size S5.size);(refine zu hK S6 ?_;clear hK K;try simp only[zp]);(refine zh S6 0 1 15 ?_;simp only[zd];((iterate 1 (refine zU ?_;simp only[zp]));refine ac ?_));(refine ze ?_);exact HG _ _ ⟨S6,n6,S4.size⟩):P:=h
theorem Uk{P:Prop}(h:P:=by
 have S3:=ae (.cells (PA ku) 98) hS0;(rw[Pj (by rfl)];go_simp;(refine zu hK (S3) ?_;clear hK K;try simp only[zp]));refine aE 8 (by kernel_rfl) rfl (fun K hK=>?_);rw[Pj (by rfl)];go_simp;go_at_call 61;(with_reducible refine(HOF.out _).mono ?_);rintro e4 w4 ⟨rfl,g4⟩;have S4:=ah g4 S3;have n4:=af n3 g4;go_wp2_with fail;(refine zu hK S4 ?_;clear hK K;try simp only[zp]);refine aE 9 (by kernel_rfl) rfl (fun K hK=>?_);rw[Pj (by rfl)];go_simp;go_at_call 183;(with_reducible refine(HGW.out _ S4).mono ?_);rintro e5 w5 ⟨rfl,g5⟩;have S5:=ah g5 S4;have n5:=af n4 g5;go_wp2_with fail;(refine zu hK S5 ?_;clear hK K;try simp only[zp]);(refine zh S5 2 3 10 ?_;simp only[zd];((iterate 3 (refine zU ?_;simp only[zp]));refine ac ?_));(refine zo 14 rfl fun K hK=>?_);(refine bu _ _ rfl (by rfl) (by rfl) (n5) rfl ?_);intro w6 n6 k6 _;have S6:=S5.trans (gA k6 (Po _) S5.size);(refine zu hK S6 ?_;clear hK K;try simp only[zp]);(refine zh S6 0 1 15 ?_;simp only[zd];((iterate 1 (refine zU ?_;simp only[zp]));refine ac ?_));(refine ze ?_);exact HG _ _ ⟨S6,n6,Po _⟩):P:=h
theorem NS{P:Prop}(h:P:=by
 have HN:=zH (show ∀y∈l.take (k+1),y≠x from fun y hy=>by
  rw[PO,hk']at hy;rcases Px.1 hy with h |h
  ·exact hn y h
  ·simp at h;rw[h];exact fun e=>hx e.symm)
 clear hk' hn;go_wp2_with fail;exact⟨⟨k+1,by omega,by go_num,HN.out,by simp⟩,by simp[intOf];omega⟩):P:=h
theorem NX{P:Prop}(h:P:=by
 (refine ze ?_);exact HG _ _ ⟨S6,n6,Po _⟩):P:=h
theorem Oq{P:Prop}(h:P:=by
 refine⟨A,c,h1,h2,h3,fun k x hx=>?_⟩;obtain⟨g,e1,_,h5,h6⟩:=h4 k x hx;have:=h6 0 _ rfl;rw[Vx,Ru]at this;exact⟨g,e1,h5,this⟩):P:=h
theorem OF{P:Prop}(h:P:=by
 rw[PM]at hn;go_wp2_with fail;go_ret;exact⟨⟨_,rfl,by rw[UM (fun h=>hn x h rfl)];rfl⟩,rfl⟩):P:=h
theorem OG{P:Prop}(h:P:=by
 obtain⟨g,e,h1,h2⟩:=h k x hx;exact⟨g,e,Ut h1 hb.size,(hb.cell (p:=⟨g,k,none⟩) h1).trans h2⟩):P:=h
theorem OO{P:Prop}(h:P:=by
 (refine ze ?_);have hle:=S4.size;generalize w4.heap.size=g11 at n6 hle⊢;exact HG g11 w6 ⟨S6,n6,hle⟩):P:=h
theorem OP{P:Prop}(h:P:=by
 obtain⟨_,_,_,_,_,_,_,h9⟩:=(show be own b w B q cs ty W s from h);exact⟨am h9.bB,am h9.bW,h9.ow⟩):P:=h
theorem O0{P:Prop}(h:P:=by
 clear hk';go_wp2_with fail;go_ret;exact⟨⟨_,rfl,by rw[U1 HM.out];simp⟩,rfl⟩):P:=h
theorem Pa{P:Prop}(h:P:=by
 induction l with
 |nil=>rfl
 |cons a r ih=>rw[UA,UR,ih];rfl):P:=h
section
attribute [local go_sem] QA
def E9(w:World)(A:Option Addr)(l:List Int):Prop:=∀k x,l[k]?=some x→∃g,A=some ⟨g,0,none⟩∧g<w.heap.size∧w.cell? ⟨g,k,none⟩=some (.int .i64 x)
theorem Hg(l:List Int):l.map iV=l.flatMap fun i=>[iV i]:=by
 exact Pa
theorem nZ{w:World}{base:Nat}{e:TypeId}{v:Value}{l:List Int}(h:w.ownsRow base e 1 v l.length (l.map iV)):∃A c,v=.slice A l.length c∧l.length≤c∧c≤maxLen∧E9 w A l:=by
 rw[Hg]at h;obtain⟨A,c,h1,h2,h3,h4,_⟩:=cK (f:=fun i=>[iV i]) (l:=l) (fun _=>rfl) h;exact Oq
theorem E9.below{w w':World}{A:Option Addr}{l:List Int}(h:E9 w A l)(hb:Below w.heap.size w w'):E9 w' A l:=fun k x hx=>by
 exact OG
theorem AK(A:Option Addr)(c:Nat)(l:List Int)(x:Int)(hm:l.length≤maxLen)(w:World)(hr:E9 w A l):
  Calls prog 352 #[.slice A l.length c,.int .i64 x] w fun e w'=>(∃i:Int,e=.returned (.int .i64 i)∧decide (0≤i)=decide (x∈l))∧w'=w:=by
 unfold maxLen at hm;have HR:=zH hr;clear hr;go_enter func352,ntmps352;go_wp2_with fail;go_loopw [8] (fun i wr=>∃k:Nat,k≤l.length∧i=.int .i64 k∧(∀y∈l.take k,y≠x)∧wr=w) (fun i _=>l.length - (intOf i).toNat)
 case atStart=>exact⟨0,by omega,rfl,by simp,rfl⟩
 case round=>
  obtain⟨k,hk,rfl,hn,rfl⟩:=hrel;by_cases hlt:k<l.length
  ·obtain⟨f,hk'⟩:=zg hlt;obtain⟨g,rfl,hg1,hg2⟩:=HR.out k f hk';have hi1:(k:Int)< (l.length:Int):=by omega
   by_cases hx:x=f
   ·subst hx;have HM:=zH (Pv hk');have hx1:(x==x)=true:=by simp
    exact O0
   ·have hx1:(x==f)=false:=by simpa using hx
    exact NS
  ·obtain rfl:k=l.length:=by omega
   exact OF
theorem tn(A:Option Addr)(c:Nat)(l:List Int)(x:Int)(hm:l.length≤maxLen)(w:World)(hr:E9 w A l):
  Calls prog 305 #[.slice A l.length c,.int .i64 x] w fun e w'=>e=.returned (.bool (decide (x∈l)))∧w'=w:=by
 have HI:=zH (AK A c l x hm w hr);clear hr;go_enter func305,ntmps305;go_wp2_with (go_at_call 352;with_reducible refine(HI.out).mono ?_;rintro e w1 ⟨⟨i,rfl,hi⟩,rfl⟩;have HH:=zH hi;clear hi);refine Ux (v:=.bool (decide (0≤i))) (by simp[results,results305,go_sem]) rfl ?_;exact⟨by rw[HH.out],rfl⟩
end
section
theorem rG{C G:Nat→World→Prop}{H:Prop}(hH:(∀g W,C g W→G g W)→H)(hG:∀g W,C g W→G g W):H:=hH hG
theorem aU{P:Program}{md:Region.Mode}{Q:Exit→Act→World→Prop}{S:World→Prop}{l:List Oper}{o o':Oper}(i j:Nat){f:Nat}{listed:Array Bool}{a:Act}{w:World}(hr:Region.ready md l.toArray listed=[i,j])(ho:(l.drop i).head?=some o)(ho':(l.drop j).head?=some o')
  (h:∀K':Act→World→Prop,Shut (∀a w,S w→(S w→wpAnyH P md l.toArray Q S f (listed.setIfInBounds i true) a w)→K' a w)→if Region.wanted o (yielded l.toArray a.tmps)=true then Oper.wp P o a w K' Q else K' (a.put o.dst undef) w)
  (h':∀K':Act→World→Prop,Shut (∀a w,S w→(S w→wpAnyH P md l.toArray Q S f (listed.setIfInBounds j true) a w)→K' a w)→if Region.wanted o' (yielded l.toArray a.tmps)=true then Oper.wp P o' a w K' Q else K' (a.put o'.dst undef) w):wpAnyH P md l.toArray Q S (f+1) listed a w:=
 wpAnyH_ready (rs:=[i,j]) hr (by simp) (AllReadyH.cons (by rw[Vb]at ho;simpa using ho) h (AllReadyH.cons (by rw[Vb]at ho';simpa using ho') h' AllReadyH.nil))
theorem DG{w:World}{B:Nat}{T:TypeId}{cs:Array Value}{fr:Nat×Nat}(h:w.heap[B]?=some (.cells cs T fr))(hs:cs.size=6)(y:Pl):
  ((((((w.setCell ⟨B,0,none⟩ (.int .i64 y.tr)).setCell ⟨B,1,none⟩ (.int .i64 y.id)).setCell ⟨B,2,none⟩ (.int .i64 y.cl)).setCell ⟨B,3,none⟩ (.int .i64 y.de)).setCell ⟨B,4,none⟩ (.int .i64 y.to)).setCell ⟨B,5,none⟩ (.int .i64 y.fa)).heap[B]?=some (.cells (PA y) T fr):=by
 obtain⟨l⟩:=cs
 match l,hs with
 |[c0,c1,c2,c3,c4,c5],_=>
  have:=aq (aq (aq (aq (aq (aq h 0 (.int .i64 y.tr)) 1 (.int .i64 y.id)) 2 (.int .i64 y.cl)) 3 (.int .i64 y.de)) 4 (.int .i64 y.to)) 5 (.int .i64 y.fa);exact NY
theorem bu{o:Oper}{a:Act}{K:Act→World→Prop}{Q:Exit→Act→World→Prop}{w:World}(p v:Operand)(hop:o.op=Op.store 98 p v){B:Nat}{T:TypeId}{cs:Array Value}{y:Pl}
  (hp:a.eval p=.pointer (some ⟨B,0,none⟩))(hv:a.eval v=.agg (PA y))(h:w.heap[B]?=some (.cells cs T (0,0)))(hs:cs.size=6)
  (hK:∀w',w'.heap[B]?=some (.cells (PA y) T (0,0))→Kp (fun c=>c=B) w w'→w'.heap.size=w.heap.size→K (a.put o.dst undef) w'):Oper.wp prog o a w K Q:=by
 have hk:=hK _ (DG h hs y) ((((((((Kp.refl (fun c=>c=B) w).setCell (fun _=>rfl) _).setCell (fun _=>rfl) _).setCell (fun _=>rfl) _).setCell (fun _=>rfl) _).setCell (fun _=>rfl) _).setCell (fun _=>rfl) _)) (by simp only[PK]);have hl:∀j,j<6→∃u,w.cell? ⟨B,j,none⟩=some u:=fun j hj=>by rw[aa h];exact⟨_,RF (by omega)⟩
 obtain⟨u0,c0⟩:=hl 0 (by omega);obtain⟨u1,c1⟩:=hl 1 (by omega);obtain⟨u2,c2⟩:=hl 2 (by omega);obtain⟨u3,c3⟩:=hl 3 (by omega);obtain⟨u4,c4⟩:=hl 4 (by omega);obtain⟨u5,c5⟩:=hl 5 (by omega);have f0:=ak h 0;have f1:=ak h 1;have f2:=ak h 2;have f3:=ak h 3;have f4:=ak h 4;have f5:=ak h 5;unfold Oper.wp;simp only[execOp,hop,hp,hv];simp[Result.andThen,go_sem,c0,c1,c2,c3,c4,c5,f0,f1,f2,f3,f4,f5];exact hk
theorem La(r:Option Int):AvI.vo r=.int .i64 (r.getD 0):=by cases r<;>rfl
theorem gA{w w':World}{B n:Nat}(h:Kp (fun c=>c=B) w w')(hB:n≤B)(hs:n≤w.heap.size):Below n w w':=h.below (fun b hb e=>by omega) hs
def FP(own:Nat→Nat)(b B W:Nat)(c:Nat):Prop:=c=B∨c=W∨own c=b+2
def dX(own:Nat→Nat)(b:Nat)(w w':World)(B q:Nat)(cs:Array Value)(ty:TypeId)(W:Nat)(s':WS):Prop:=∃own' cs',be own' b w' B q cs' ty W s'∧aT q 6 cs cs'∧Kp (FP own b B W) w w'∧aO own own' w
section
variable{own own1:Nat→Nat}{b:Nat}{w w' w0 w1 w2:World}{B q:Nat}{cs cs1 ds:Array Value}{ty:TypeId}{W:Nat}{p1 p2 p3 p4 p5 r:Option Addr}{s s1 s2:WS}{n:Int}
theorem FP.ext(he:aO own own1 w){c:Nat}(hc:c<w.heap.size)(h:FP own1 b B W c):FP own b B W c:=by
 unfold FP at*;rw[he c hc]at h;exact h
theorem dX.post(D:dX own b w w' B q cs ty W s):az own b w w' B q cs ty W s:=by
 obtain⟨own1,cs1,h1,h2,h3,h4⟩:=D;exact⟨own1,cs1,h1,h2,h3.mono fun c _ hf=>by unfold FP at hf;unfold FW;omega,h4⟩
theorem az.narrow(D:az own b w w' B q cs ty W s)(hk:Kp (FP own b B W) w w'):dX own b w w' B q cs ty W s:=by
 obtain⟨own1,cs1,h1,h2,h3,h4⟩:=D;exact⟨own1,cs1,h1,h2,hk,h4⟩
theorem be.same2(h:be own b w B q cs ty W s)(hb:Below w.heap.size w w1):dX own b w w1 B q cs ty W s:=(h.same hb).narrow (Kp.of_below _ hb)
theorem dX.trans(h:dX own b w w1 B q cs ty W s1)(k:∀own1 cs1,be own1 b w1 B q cs1 ty W s1→dX own1 b w1 w2 B q cs1 ty W s2):dX own b w w2 B q cs ty W s2:=by
 obtain⟨own1,cs1,h1,h2,h3,h4⟩:=h;obtain⟨own2,cs2,k1,k2,k3,k4⟩:=k own1 cs1 h1;exact O2
theorem dX.below(h:dX own b w w1 B q cs ty W s)(hb:Below w1.heap.size w1 w2):dX own b w w2 B q cs ty W s:=h.trans fun _ _ h1=>h1.same2 hb
theorem be.step2(h:be own b w B q cs ty W s)(m:Int):dX own b w (w.setCell ⟨W,5,none⟩ (.int .i64 m)) B q cs ty W s:=by
 obtain⟨ds,p1,p2,p3,p4,p5,n,h⟩:=h;exact(h.step m).narrow ((Kp.refl _ _).setCell (b:=W) (fun _=>.inr (.inl rfl)) _)
theorem dX.step(D:dX own b w0 w B q cs ty W s)(m:Int):dX own b w0 (w.setCell ⟨W,5,none⟩ (.int .i64 m)) B q cs ty W s:=D.trans fun _ _ h=>h.step2 m
theorem dX.reads(D:dX own b w0 w B q cs ty W s):w.cell? ⟨W,0,none⟩=some (.pointer (some ⟨B,q,none⟩))∧∃n,w.cell? ⟨W,5,none⟩=some (.int .i64 n)∧w.frozen? ⟨W,5,none⟩=false:=D.post.reads
theorem dX.call{P:Program}{f:FuncId}{args:Array Value}{R:Ending→Prop}(D:dX own b w0 w B q cs ty W s)(H:∀own1 cs1,be own1 b w B q cs1 ty W s→Calls P f args w fun e w'=>R e∧Below w.heap.size w w'):
  Calls P f args w fun e w'=>R e∧Below w.heap.size w w':=by
 obtain⟨own1,cs1,h1,_⟩:=D;exact H own1 cs1 h1
theorem qO(h:be own b w B q cs ty W s)(tr id:Int)(h1:aB tr)(h2:aB id)(r:Option Int)(hr:ag oS s.A (kk tr id)=r):
  Calls prog 228 #[.pointer (some ⟨B,q,none⟩),.int .i64 tr,.int .i64 id] w fun e w'=>e=.returned (.tuple #[.int .i64 (r.getD 0),.bool r.isSome])∧Below w.heap.size w w':=by
 obtain⟨ds,p1,p2,p3,p4,p5,n,h⟩:=h;rw[←La];exact Dh h tr id h1 h2 r hr
theorem jJ(h:be own b w B q cs ty W s)(k:ByteArray)(r:Option Pl)(hr:ag oS s.P k=r):
  Calls prog 183 #[.pointer (some ⟨B,q+4,none⟩),.string k] w fun e w'=>e=.returned (.tuple #[.agg #[.int .i64 (r.getD ku).tr,.int .i64 (r.getD ku).id,.int .i64 (r.getD ku).cl,.int .i64 (r.getD ku).de,.int .i64 (r.getD ku).to,.int .i64 (r.getD ku).fa],.bool r.isSome])∧Below w.heap.size w w':=by
 obtain⟨ds,p1,p2,p3,p4,p5,n,h⟩:=h;have:=BR h k r hr;rw[FH]at this;exact this
theorem BQ(h:be own b w B q cs ty W s)(hs:s.Small)(tr id:Int)(h1:aB tr)(h2:aB id):
  Calls prog 258 #[.pointer (some ⟨B,q,none⟩),.int .i64 tr,.int .i64 id] w fun e w'=>e=.returned (.int .i64 (aH s.C tr id).length)∧Below w.heap.size w w':=by
 obtain⟨ds,p1,p2,p3,p4,p5,n,h⟩:=h;exact K5 h hs tr id h1 h2
theorem wK(h:be own b w B q cs ty W s)(hs:s.Small)(k:ByteArray)(v:Pl):
  Calls prog 259 #[.pointer (some ⟨B,q+4,none⟩),.string k,.agg (PA v)] w fun e w'=>(∃c,e=.returned (.bool c))∧dX own b w w' B q cs ty W {s with P:=ay oS s.P k v}:=by
 obtain⟨ds,p1,p2,p3,p4,p5,n,h⟩:=h;exact(Gk B (q+4) cs ty p3 s.P k v w h.ow h.bB h.k4 h.k5 (by have:=h.nB;omega) h.tP hs.p).mono fun e w' ⟨_,_,he,m⟩=>⟨⟨_,he⟩,(h.plc m).narrow (m.kp.mono fun c _ hf=>hf.imp id .inr)⟩
end
structure jH(s:WS)(tr id:Int)(l:List Int)(i:Int):Prop where
 ch:PlcP.iD (fX s.A tr) l i
 hd:(l=[]∧i=id)∨l.head?=some id
 nd:l.Nodup
 un:∀a∈l,ag oS s.P (kk tr a)=none
 ok:∀a∈l,aB a
 oi:aB i
section
variable{own:Nat→Nat}{b:Nat}{w w' w0:World}{B q:Nat}{cs:Array Value}{ty:TypeId}{W:Nat}{s s0:WS}{tr id i e:Int}{l:List Int}
theorem wk(s:WS)(tr id:Int)(h:aB id):jH s tr id [] id:=⟨trivial,.inl ⟨rfl,rfl⟩,List.nodup_nil,by simp,by simp,h⟩
theorem jH.step(h:jH s tr id l i)(hp:fX s.A tr i=some e)(hk:ag oS s.P (kk tr i)=none)(hn:i∉l)(he:aB e):jH s tr id (l++[i]) e:=by
 refine⟨PlcP.sy h.ch hp,.inr ?_,?_,?_,?_,he⟩
 ·rcases h.hd with⟨rfl,rfl⟩ |h1
  ·rfl
  ·cases l with
   |nil=>simp at h1
   |cons a r=>exact h1
 ·exact PW.2 ⟨h.nd,by simp,fun a ha c hc e=>hn (by simp at hc;rw[←hc,←e];exact ha)⟩
 ·intro a ha;rcases Px.1 ha with ha |ha
  ·exact h.un a ha
  ·rw[Ql.1 ha];exact hk
 ·intro a ha;rcases Px.1 ha with ha |ha
  ·exact h.ok a ha
  ·rw[Ql.1 ha];exact h.oi
theorem jH.len(h:jH s tr id l i)(h1:aB tr)(ha:aX oS s.A):l.length≤s.A.length:=by
 have:=eU (l:=l.map (kk tr)) (m:=s.A.map (·.1)) (by
  rw[Vk,Q9];exact((Vk.1 h.nd).imp_of_mem fun ha hb hne e=>hne (bS h1 (h.ok _ ha) h1 (h.ok _ hb) e).2)) fun k hk=>by
  obtain⟨a,ha',rfl⟩:=Uu.1 hk;exact(eX ha).1 (PlcP.tv h.ch a ha')
 simpa using this
theorem pN{base n:Nat}{e:TypeId}{v:Value}{xs:List Value}(h:w.ownsRow base e 1 v n xs):gJ w base e v xs:=by
 have hl:=h.1;rw[Vx]at hl;rcases h.2 with⟨rfl,h0⟩ |⟨g,cap,cur,rfl,h1,h2,h3,h4,h5,h6⟩
 ·exact .inl ⟨rfl,QW (by omega)⟩
 ·rw[Vx]at h5 h6;exact .inr ⟨g,0,cap,cur,by rw[hl],h1,h2,by omega,h4,by omega,by rw[Qo,hl];exact h6⟩
theorem bP{base n sz:Nat}{e:TypeId}{v:Value}{xs:List Value}(h:w.ownsRow base e sz v n xs)(hk:∀g,v.ownBlock=some g→w'.heap[g]?=w.heap[g]?):w'.ownsRow base e sz v n xs:=by
 refine⟨h.1,h.2.imp id ?_⟩;rintro⟨g,cap,cur,rfl,h1,h2,h3⟩;exact⟨g,cap,cur,rfl,h1,(hk g rfl).trans h2,h3⟩
theorem Fz(h:be own b w B q cs ty W s)(hb:0<b)(hs:s.Small)(tr id:Int)(h1:aB tr)(h2:aB id):
  Calls prog 255 #[.pointer (some ⟨W,0,none⟩),.int .i64 tr,.int .i64 id] w fun e w'=>∃v l i own' cs',e=.returned (.tuple #[v,.int .i64 i])∧w'.ownsRow w.heap.size 3 1 v l.length (l.map iV)∧jH s tr id l i∧(fX s.A tr i=none∨ag oS s.P (kk tr i)≠none∨i∈l)∧(∀k,v.ownBlock=some k→own' k=0)∧be own' b w' B q cs' ty W s∧aT q 6 cs cs'∧Kp (FP own b B W) w w'∧aO own own' w:=by
 obtain⟨i0,hi⟩:=Qm uj;have HI:=zH hi;clear hi;have hBW:B<w.heap.size∧W<w.heap.size∧aX oS s.A:=by
  obtain⟨ds,p1,p2,p3,p4,p5,n,h⟩:=h;exact⟨am h.bB,am h.bW,h.tA.srt⟩
 have HS:=zH (Uq hs hBW.2.2);have hBw:=hBW.1;have hWw:=hBW.2.1;have HH:=zH h;clear hBW hs h;go_enter func255,ntmps255;go_wp2_with fail;go_step3;go_wp2_with fail;go_step3;go_wp2_with fail;go_loopw [2,8] (fun ti v wr=>∃(l:List Int) (i:Int) (vg:Value),vg=v∧ti=.int .i64 i∧wr.ownsRow w.heap.size 3 1 vg l.length (l.map iV)∧jH s tr id l i∧∃own' cs',(∀k,vg.ownBlock=some k→own' k=0)∧be own' b wr B q cs' ty W s∧aT q 6 cs cs'∧Kp (FP own b B W) w wr∧aO own own' w) (fun _ v _=>s.A.length+1 - MA v)
 case atStart=>exact⟨[],id,_,rfl,rfl,PS _ _ _ _,wk s tr id h2,own,cs,fun k e=>by simp[Value.ownBlock]at e,HH.out,aT.refl _ _ _,Kp.refl _ _,aO.refl _ _⟩
 case round=>
  obtain⟨l,i,v,rfl,rfl,hrow,hI,own1,cs1,hov,hwk,hnear,hkp,hext⟩:=hrel;obtain⟨wo,rfl⟩:∃wo,wo=wr:=⟨_,rfl⟩;have hso:=hkp.size;obtain⟨r0,n5,r5,f5⟩:=(hwk.same2 (Pk _ _)).reads;have D0:=(hwk.same2 (Pk _ wo)).step;have HRB:=zH (show ∀k,v.ownBlock=some k→w.heap.size≤k∧k<wo.heap.size from fun k e=>hrow.lt k e);have HRW:=zH hrow;have HC:=zH (show ∀w4,dX own1 b wo w4 B q cs1 ty W s→w4.ownsRow w.heap.size 3 1 v l.length (l.map iV)∧(∃own4 cs4,(∀k,v.ownBlock=some k→own4 k=0)∧be own4 b w4 B q cs4 ty W s∧aT q 6 cs cs4∧Kp (FP own b B W) w w4∧aO own own4 w)from
   fun w4 ⟨own4,cs4,k1,k2,k3,k4⟩=>⟨bP HRW.out fun k e=>k3.block k (HRB.out k e).2 (fun hf=>by
    have:=(HRB.out k e).1;rcases hf with e' |e' |e'
    ·omega
    ·omega
    ·have:=hov k e;omega),own4,cs4,fun k e=>by rw[k4 k (HRB.out k e).2];exact hov k e,k1,hnear.trans k2,hkp.trans' k3 (fun c hc hf=>hf.ext hext hc),hext.trans k4 hkp.size⟩)
  have HCN:=zH (fun(w4:World) (D:dX own1 b wo w4 B q cs1 ty W s) A c (e:v=.slice A l.length c) (hm:l.length≤maxLen)=>tn A c l i hm w4 (by
   obtain⟨A2,c2,e2,_,_,h2⟩:=nZ ((HC.out w4 D).1);rw[e]at e2;cases e2;exact h2))
  have HII:=zH hI;have hoi:=hI.oi;have hll:=hI.len h1 HS.out.2;have hA7:=HS.out.1.a;obtain⟨A,c,rfl,_⟩:=(pN hrow).slice;rw[Ur]at*;have HPA:=zH (fun w4 (D:dX own1 b wo w4 B q cs1 ty W s) r (e:fX s.A tr i=r)=>D.call fun own4 cs4 h4=>qO h4 tr i h1 hoi r e);have HGP:=zH (fun w4 (D:dX own1 b wo w4 B q cs1 ty W s) r (e:ag oS s.P (kk tr i)=r)=>D.call fun own4 cs4 h4=>jJ h4 (kk tr i) r e);have HOF:=zH (cz tr i h1 hoi);clear hrow hI hov hwk hnear hkp hext;obtain⟨rp,hrp⟩:∃r,fX s.A tr i=r:=⟨_,rfl⟩;obtain⟨rk,hrk⟩:∃r,ag oS s.P (kk tr i)=r:=⟨_,rfl⟩;have HRP:=zH hrp;have HRK:=zH hrk;have hpx:=fun w4 D=>HPA.out w4 D rp hrp;have hgx:=fun w4 D=>HGP.out w4 D rk hrk;have HPX:=zH hpx;have HGX:=zH hgx;clear hpx hgx hrp hrk HPA HGP;obtain⟨pe,hpe⟩:∃x,rp.getD 0=x:=⟨_,rfl⟩;obtain⟨pi,hpi⟩:∃x,rp.isSome=x:=⟨_,rfl⟩;obtain⟨pv,hpv⟩:∃x,rk.getD ku=x:=⟨_,rfl⟩;obtain⟨pb,hpb⟩:∃x,rk.isSome=x:=⟨_,rfl⟩;rw[hpe,hpi]at HPX;rw[hpv,hpb]at HGX;have HE:=zH (Uq hpe (Uq hpi hpb));clear hpe hpi hpv hpb;go_wp2_with (go_at_call 228;(with_reducible refine(HPX.out _ (D0 _)).mono ?_);rintro e3 w3 ⟨rfl,b3⟩;have D3:=(D0 _).below b3;clear D0;obtain⟨r3,_⟩:=D3.reads);have HGW:=zH (fun w4 (b4:Below w3.heap.size w3 w4)=>HGX.out w4 (D3.below b4));have HW0:=zH (fun w4 (b4:Below w3.heap.size w3 w4)=>(D3.below b4).reads.1);refine zr (fun V=>Below w3.heap.size w3 V) (Pk _ w3).drew fun hS0=>?_;(refine zh hS0 8 8 0 ?_;simp only[zd];((iterate 8 (refine zt (fun W hW=>by have c0:=HW0.out _ hW;exact zq) ?_;simp only[zp]));refine ac ?_));apply rG (C:=fun g W=>Below w3.heap.size w3 W∧W.heap[g]?=some (.cells (PA pv) 98 (0,0))∧w3.heap.size≤g)
  ·intro HG;refine aU 8 13 (by kernel_rfl) rfl rfl (fun K hK=>?_) (fun K hK=>?_)
   ·rw[Pj (by rfl)];exact Uh
   ·have n3:=Up w3.drew (.cells (PA ku) 98);exact Uk
  ·rintro g11 w5 ⟨S5,_,_⟩;have D5:=D3.below S5;clear D3 HGW HW0 hS0 b3;have HD:=zH D5;obtain⟨j1,own5,cs5,j2,j3,j4,j5,j6⟩:=HC.out _ D5;have HJ:=zH j1;rcases pi with _ |_
   ·go_wp2_with fail;rw[Vp];refine Ux (v:=.tuple #[.slice A l.length c,.int .i64 i]) (by simp[results,results255,go_sem]) rfl ?_;exact⟨_,l,i,own5,cs5,rfl,HJ.out,HII.out,.inl (by rw[HRP.out];have:=HE.out.2.1;cases rp with |none=>rfl |some _=>cases this),j2,j3,j4,j5,j6⟩
   ·rcases pb with _ |_
    ·have hcn:=HCN.out w5 D5 A c rfl (by unfold maxLen;omega);by_cases hm:i∈l
     ·rw[U1 hm]at hcn;have HCM:=zH hcn;have HM:=zH hm;clear hcn hm;go_wp2_with (go_at_call 305;(with_reducible refine(HCM.out).mono ?_);rintro e6 w6 ⟨rfl,rfl⟩);rw[Vp];refine Ux (v:=.tuple #[.slice A l.length c,.int .i64 i]) (by simp[results,results255,go_sem]) rfl ?_;exact⟨_,l,i,own5,cs5,rfl,HJ.out,HII.out,.inr (.inr HM.out),j2,j3,j4,j5,j6⟩
     ·rw[UM hm]at hcn;have HCM:=zH hcn;have hrk:ag oS s.P (kk tr i)=none:=by rw[HRK.out];have:=HE.out.2.2;cases rk with |none=>rfl |some _=>cases this
      have hrp:fX s.A tr i=some pe:=by
       rw[HRP.out];have h1:=HE.out.1;have h2:=HE.out.2.1;cases rp with
       |none=>cases h2
       |some z=>rw[show z=pe from h1]
      have HST:=zH (HII.out.step hrp hrk hm (HS.out.1.i _ ((ax oS HS.out.2).1 hrp)));have hst:=HST.out.len h1 HS.out.2;have hb5:=j5.size;rw[Pu,U5]at hst;clear hcn hm hrk hrp;go_wp2_with (first |(go_at_call 305;(with_reducible refine(HCM.out).mono ?_);rintro e6 w6 ⟨rfl,rfl⟩) |(at_builtin;refine aM rfl _ _ 176 rfl w.heap.size 3 i0 (.int .i64 0) 1 8 V5 HI.out.1 HI.out.2.1 HI.out.2.2.1 HI.out.2.2.2 rfl (by decide) (.slice A l.length c) _ _ rfl (HJ.out.alloc _) ⟨w6.heap.size,0,none⟩ 1 1 [.int .i64 (i)] rfl rfl (bj w6 _ _ (w6.heap.size) (by simp)) (by simp[Value.oneCell']) (by unfold maxLen;omega) (by omega) (by simp;omega) ?_;intro v7 w7 hr7 hg7 hd7;obtain⟨A7,c7,rfl⟩:=an hr7));have bA:=zB w6 (.cells #[.int .i64 i] 3);have hwin:=pN (HJ.out.alloc (.cells #[.int .i64 i] 3));have how:Ow own5 w6:=by
       obtain⟨_,_,_,_,_,_,_,h9⟩:=(show be own5 b w6 B q cs5 ty W s from j3);exact h9.ow
      refine⟨⟨l++[i],pe,_,rfl,rfl,by simpa using hr7,HST.out,own5,cs5,fun k hk=>?_,(j3.below bA).grown hwin (fun k hk=>⟨j2 k hk,?_⟩) hb hg7,j4,(j5.trans (Kp.of_below _ bA)).trans' (AF hwin hg7) (fun k hk e=>?_),j6⟩,by show s.A.length+1 - (l.length+1)<s.A.length+1 - l.length;omega⟩
      ·rcases hd7 k hk with e |e
       ·exact j2 k e
       ·rw[Pq]at e;exact how k (by omega)
      ·have:=(HRB.out k hk).1;omega
      ·have:=(HRB.out k e).1;omega
    ·go_wp2_with fail;rw[Vp];refine Ux (v:=.tuple #[.slice A l.length c,.int .i64 i]) (by simp[results,results255,go_sem]) rfl ?_;exact⟨_,l,i,own5,cs5,rfl,HJ.out,HII.out,.inr (.inl (by rw[HRK.out];have:=HE.out.2.2;cases rk with |none=>cases this |some _=>simp)),j2,j3,j4,j5,j6⟩
end
theorem kM{n B:Nat}{w0 w:World}(h:Below n w0 w)(hB:n≤B)(y:Pl):
  Below n w0 ((((((w.setCell ⟨B,0,none⟩ (.int .i64 y.tr)).setCell ⟨B,1,none⟩ (.int .i64 y.id)).setCell ⟨B,2,none⟩ (.int .i64 y.cl)).setCell ⟨B,3,none⟩ (.int .i64 y.de)).setCell ⟨B,4,none⟩ (.int .i64 y.to)).setCell ⟨B,5,none⟩ (.int .i64 y.fa)):=
 (((((h.setCell (p:=⟨B,0,none⟩) hB _).setCell (p:=⟨B,1,none⟩) hB _).setCell (p:=⟨B,2,none⟩) hB _).setCell (p:=⟨B,3,none⟩) hB _).setCell (p:=⟨B,4,none⟩) hB _).setCell (p:=⟨B,5,none⟩) hB _
def mn(kn:Option Pl)(there:Bool)(e bZ:Int):Pl:=match kn with
 |some k=>k
 |none=>if there then⟨0,0,3,0,0,0⟩else if e=0 then⟨0,0,1,0,bZ,0⟩else⟨0,0,2,0,bZ,0⟩
theorem Jc(kn:Option Pl)(there:Bool)(e bZ:Int):((mn kn there e bZ).cl,(mn kn there e bZ).de,(mn kn there e bZ).to)=Jd kn there e bZ:=by
 unfold mn Jd;cases kn with
 |some k=>rfl
 |none=>
  cases there with
  |true=>rfl
  |false=>by_cases h:e=0<;>simp[h]
section
variable{own:Nat→Nat}{b:Nat}{w:World}{B q:Nat}{cs:Array Value}{ty:TypeId}{W:Nat}{s:WS}
theorem be.reads0(h:be own b w B q cs ty W s):w.cell? ⟨W,0,none⟩=some (.pointer (some ⟨B,q,none⟩)):=(h.same2 (Pk _ _)).reads.1
theorem FA(h:be own b w B q cs ty W s)(tr bZ i:Int)(h1:aB tr)(h2:aB i):
  Calls prog 256 #[.pointer (some ⟨W,0,none⟩),.int .i64 tr,.int .i64 bZ,.int .i64 i] w fun r w'=>r=.returned (.agg #[.int .i64 (mn (ag oS s.P (kk tr i)) (fX s.A tr i).isSome i bZ).tr,.int .i64 (mn (ag oS s.P (kk tr i)) (fX s.A tr i).isSome i bZ).id,.int .i64 (mn (ag oS s.P (kk tr i)) (fX s.A tr i).isSome i bZ).cl,.int .i64 (mn (ag oS s.P (kk tr i)) (fX s.A tr i).isSome i bZ).de,.int .i64 (mn (ag oS s.P (kk tr i)) (fX s.A tr i).isSome i bZ).to,.int .i64 (mn (ag oS s.P (kk tr i)) (fX s.A tr i).isSome i bZ).fa])∧Below w.heap.size w w':=by
 have n0:=Up w (.cells PZ 98);have b0:=zB w (.cells PZ 98);obtain⟨rp,hrp⟩:∃r,fX s.A tr i=r:=⟨_,rfl⟩;obtain⟨rk,hrk⟩:∃r,ag oS s.P (kk tr i)=r:=⟨_,rfl⟩;have HPA:=zH (fun w4 (b4:Below w.heap.size w w4)=>qO (h.below b4) tr i h1 h2 rp hrp);have HGP:=zH (fun w4 (b4:Below w.heap.size w w4)=>jJ (h.below b4) (kk tr i) rk hrk);have HRD:=zH (fun w4 (b4:Below w.heap.size w w4)=>(h.below b4).reads0);have HOF:=zH (cz tr i h1 h2);rw[hrp,hrk];obtain⟨pe,hpe⟩:∃x,rp.getD 0=x:=⟨_,rfl⟩;obtain⟨pi,hpi⟩:∃x,rp.isSome=x:=⟨_,rfl⟩;obtain⟨pv,hpv⟩:∃x,rk.getD ku=x:=⟨_,rfl⟩;obtain⟨pb,hpb⟩:∃x,rk.isSome=x:=⟨_,rfl⟩;rw[hpe,hpi]at HPA;rw[hpv,hpb]at HGP;obtain⟨uu,huu⟩:∃u,mn rk rp.isSome i bZ=u:=⟨_,rfl⟩;rw[huu];have HU:=zH (show uu=if pb then pv else if pi then(⟨0,0,3,0,0,0⟩:Pl)else if i=0 then⟨0,0,1,0,bZ,0⟩else⟨0,0,2,0,bZ,0⟩by
  rw[←huu,←hpi,←hpb,←hpv];unfold mn;cases rk<;>rfl)
 have hR:=Pq w (.cells PZ 98);clear hpe hpi hpv hpb hrp hrk h huu;go_enter func256,ntmps256;go_wp2_with fail;generalize w.alloc (.cells PZ 98)=w3 at n0 b0 hR⊢;have hR0:w.heap.size<w3.heap.size:=by omega
 clear hR;have HGW:=zH (fun w4 (b4:Below w3.heap.size w3 w4)=>HGP.out w4 (b0.trans (b4.mono (Rw hR0))));have HW0:=zH (fun w4 (b4:Below w3.heap.size w3 w4)=>HRD.out w4 (b0.trans (b4.mono (Rw hR0))));refine zr (fun V=>Below w3.heap.size w3 V) (Pk _ w3).drew fun hS0=>?_;(refine zh hS0 8 8 0 ?_;simp only[zd];((iterate 8 (refine zt (fun W hW=>by have c0:=HW0.out _ hW;exact zq) ?_;simp only[zp]));refine ac ?_));apply rG (C:=fun g W=>Below w3.heap.size w3 W∧W.heap[g]?=some (.cells (PA pv) 98 (0,0))∧w3.heap.size≤g)
 ·intro HG;refine aU 8 13 (by kernel_rfl) rfl rfl (fun K hK=>?_) (fun K hK=>?_)
  ·rw[Pj (by rfl)];exact Uh
  ·have n3:=Up w3.drew (.cells (PA ku) 98);exact Uk
 ·rintro g11 w5 ⟨S5,n5,hg⟩;have B5:=b0.trans (S5.mono (Rw hR0));have c0:=HRD.out _ B5;have m5:=af n0 S5;clear hS0 HGW HW0 HGP;rcases pb with _ |_
  ·rcases pi with _ |_
   ·by_cases hi:i=0
    ·subst hi;go_wp2_with (go_at_call 228;(with_reducible refine(HPA.out _ B5).mono ?_);rintro e6 w6 ⟨rfl,b6⟩;have n6:=af n5 b6;have m6:=af m5 b6;have B6:=ah b6 B5;have y0:=aa n6;have z0:=aa m6;have f0:=ak m6);have r6:=DG m6 rfl ((⟨0,0,1,0,bZ,0⟩:Pl));have t6:=kM B6 (Po _) ((⟨0,0,1,0,bZ,0⟩:Pl));dsimp only at r6 t6;have x0:=aa r6 0;have x1:=aa r6 1;have x2:=aa r6 2;have x3:=aa r6 3;have x4:=aa r6 4;have x5:=aa r6 5;refine Ux (v:=.agg #[.int .i64 0,.int .i64 0,.int .i64 1,.int .i64 0,.int .i64 bZ,.int .i64 0]) (by simp[results,V6,go_sem,x0,x1,x2,x3,x4,x5]) rfl ⟨by rw[show uu=(⟨0,0,1,0,bZ,0⟩:Pl)by rw[HU.out];simp],t6⟩
    ·have hi1:(i==0)=false:=by simpa using hi
     go_wp2_with (go_at_call 228;(with_reducible refine(HPA.out _ B5).mono ?_);rintro e6 w6 ⟨rfl,b6⟩;have n6:=af n5 b6;have m6:=af m5 b6;have B6:=ah b6 B5;have y0:=aa n6;have z0:=aa m6;have f0:=ak m6);have r6:=DG m6 rfl ((⟨0,0,2,0,bZ,0⟩:Pl));have t6:=kM B6 (Po _) ((⟨0,0,2,0,bZ,0⟩:Pl));dsimp only at r6 t6;have x0:=aa r6 0;have x1:=aa r6 1;have x2:=aa r6 2;have x3:=aa r6 3;have x4:=aa r6 4;have x5:=aa r6 5;refine Ux (v:=.agg #[.int .i64 0,.int .i64 0,.int .i64 2,.int .i64 0,.int .i64 bZ,.int .i64 0]) (by simp[results,V6,go_sem,x0,x1,x2,x3,x4,x5]) rfl ⟨by rw[show uu=(⟨0,0,2,0,bZ,0⟩:Pl)by rw[HU.out];simp[hi]],t6⟩
   ·go_wp2_with (go_at_call 228;(with_reducible refine(HPA.out _ B5).mono ?_);rintro e6 w6 ⟨rfl,b6⟩;have n6:=af n5 b6;have m6:=af m5 b6;have B6:=ah b6 B5;have y0:=aa n6;have z0:=aa m6;have f0:=ak m6);have r6:=DG m6 rfl ((⟨0,0,3,0,0,0⟩:Pl));have t6:=kM B6 (Po _) ((⟨0,0,3,0,0,0⟩:Pl));dsimp only at r6 t6;have x0:=aa r6 0;have x1:=aa r6 1;have x2:=aa r6 2;have x3:=aa r6 3;have x4:=aa r6 4;have x5:=aa r6 5;refine Ux (v:=.agg #[.int .i64 0,.int .i64 0,.int .i64 3,.int .i64 0,.int .i64 0,.int .i64 0]) (by simp[results,V6,go_sem,x0,x1,x2,x3,x4,x5]) rfl ⟨by rw[show uu=(⟨0,0,3,0,0,0⟩:Pl)by rw[HU.out];simp],t6⟩
  ·go_wp2_with (go_at_call 228;(with_reducible refine(HPA.out _ B5).mono ?_);rintro e6 w6 ⟨rfl,b6⟩;have n6:=af n5 b6;have m6:=af m5 b6;have B6:=ah b6 B5;have y0:=aa n6;have z0:=aa m6;have f0:=ak m6);have r6:=DG m6 rfl (pv);have t6:=kM B6 (Po _) (pv);have x0:=aa r6 0;have x1:=aa r6 1;have x2:=aa r6 2;have x3:=aa r6 3;have x4:=aa r6 4;have x5:=aa r6 5;refine Ux (v:=.agg (PA pv)) (by simp[results,V6,go_sem,x0,x1,x2,x3,x4,x5]) rfl ⟨by rw[show uu=pv by rw[HU.out];simp],t6⟩
end
end
section
open Go.Shelf
attribute [local go_sem] QA
def Mg(w w':World):Prop:=w.heap.size≤w'.heap.size∧∀(b:Nat) (cs:Array Value) (ty:TypeId) (fr:Nat×Nat),w.heap[b]?=some (Obj.cells cs ty fr)→w'.heap[b]?=some (Obj.cells cs ty fr)
theorem wh{w w':World}{row:Option Nat}{B:Nat}(hg:w.grownBy w' row)(hr:∀r,row=some r→B≤r∧∃o:Obj,w.heap[r]?=some o∧o.isCells=false):Mg w w':=⟨hg.size,fun _ _ _ _ h=>aW h hg hr⟩
theorem CR{w:World}{D:Nat}{o o':Obj}(h:w.heap[D]?=some o)(ho:o.isCells=false):Mg w (w.putObj D o'):=⟨by simp,fun b cs ty fr hb=>(QP (fun e=>by
 rw[e,h]at hb;cases hb;cases ho)).trans hb⟩
theorem aC.cst{K V:Type}{N:Nd K V}{own:Nat→Nat}{t:Nat}{w w':World}{T:AT K V}(h:aC N own t w T)(hc:Mg w w'):aC N own t w' T:=by
 induction T with
 |nil=>trivial
 |node c l k v r ih1 ih2=>exact⟨h.1,hc.2 _ _ _ _ h.2.1,ih1 h.2.2.1,ih2 h.2.2.2⟩
theorem dm.cst{K V:Type}{N:Nd K V}{o:eN K}{own:Nat→Nat}{t:Nat}{w w':World}{p:Option Addr}{L:List (K×V)}(h:dm N o own t w p L)(hc:Mg w w'):dm N o own t w' p L:=by
 obtain⟨T,h1,h2,h3,h4⟩:=h;exact⟨T,h1,h2,h3.cst hc,h4⟩
theorem be.cst{own:Nat→Nat}{b:Nat}{w w':World}{B q:Nat}{cs:Array Value}{ty:TypeId}{W:Nat}{s:WS}(h:be own b w B q cs ty W s)(hc:Mg w w'):be own b w' B q cs ty W s:=by
 obtain⟨ds,p1,p2,p3,p4,p5,n,h⟩:=h;exact⟨ds,p1,p2,p3,p4,p5,n,⟨hc.2 _ _ _ _ h.bB,hc.2 _ _ _ _ h.bW,h.k0,h.k1,h.k2,h.k3,h.k4,h.k5,h.d0,h.d1,h.d2,h.d3,h.d4,h.d5,h.tA.cst hc,h.tC.cst hc,h.tP.cst hc,h.tU.cst hc,h.tG.cst hc,h.ow.mono hc.1,h.nB,h.nW,h.ne⟩⟩
theorem Kp.row{F:Nat→Prop}{w X Y:World}{row:Option Nat}(h:Kp F w X)(hg:X.grownBy Y row)(hr:∀r,row=some r→w.heap.size≤r):Kp F w Y:=
 ⟨⟨hg.os.trans h.os,hg.tape.trans h.tape,hg.output.trans h.output,Pt h.size hg.size,fun c hc hn=>(hg.block c (Ut hc h.size) (fun e=>by have:=hr c e.symm;omega)).trans (h.block c hc hn)⟩,
  fun c o hc ho=>(hg.block c (am (h.oth c o hc ho)) (fun e=>by have:=hr c e.symm;have:=am hc;omega)).trans (h.oth c o hc ho)⟩
def ML(xs:List Int)(x:Nat):Array Value:=#[.int .i64 ((xs.length - 1 - x:Nat):Int),.int .i64 (xs.reverse.getD x 0)]
def Nu(B1:Nat)(v:Value)(W W':World):Prop:=W'.heap[B1]?=W.heap[B1]?∧∀g,v.ownBlock=some g→W'.heap[g]?=W.heap[g]?
theorem tq(A:Option Addr)(n c:Nat)(w:World):Calls prog 257 #[.slice A n c] w fun e w'=>e=.returned (.func (.func 306) #[] #[.pointer (some ⟨w.heap.size,0,none⟩)])∧w'=w.alloc (.cells #[.slice A n c] 176):=by
 go_enter func257,ntmps257;go_wp2;go_ret;exact⟨rfl,rfl⟩
theorem LX{xs:List Int}{k q:Nat}{s:Int}(hk:xs.length - 1 - k=q)(hl:k<xs.length)(hs:xs[q]?=some s):ML xs k=#[.int .i64 (q:Int),.int .i64 s]:=by
 unfold ML;rw[hk,Vu,List.getElem?_reverse hl,hk,hs];rfl
theorem MJ(n:Nat)(hn:1≤n)(l B1:Nat)(A:Option Addr)(c:Nat)(xs:List Int)(hx:xs.length≤700000)(J Jx:List Nat→World→Prop)
  (hJc:∀pre W,J pre W→W.cell? ⟨B1,0,none⟩=some (.slice A xs.length c)∧E9 W A xs)
  (hY:∀pre x W,J pre W→pre.length<xs.length→YieldAt Fence.wide (n - 1) prog l (ML xs x) W fun e W'=>
   (e=.returned (.bool true)∧J (pre++[x]) W'∧True)∨(e=.returned (.bool false)∧Jx (pre++[x]) W'))
  (W:World)(h0:J [] W):
  CallsIn Fence.wide n prog 306 #[.func (.yield l) #[] #[],.pointer (some ⟨B1,0,none⟩)] W fun e W'=>(∃v,e=.returned v)∧
   ((∃ys,ys=List.range xs.length∧J ys W')∨(∃pre,True∧Jx pre W')):=by
 have HY:=zH hY;have HJC:=zH hJc;clear hY hJc;have x0:=(HJC.out _ _ h0).1;refine callsIn_of_wp func306 rfl trivial ?_ rfl;simp only[ntmps306,UH,PC,Qe,Nat.reduceAdd,Nat.reduceSub,QH,QI,QJ,QK,PQ,PN];gi_wp2;gi_loopw [3] (fun i wr=>∃r k:Nat,r+k=xs.length∧i=.int .i64 ((r:Int) - 1)∧J (List.range k) wr) (fun i _=>(intOf i+1).toNat)
 case atStart=>exact⟨xs.length,0,rfl,rfl,h0⟩
 case round=>
  obtain⟨r,k,hrk,rfl,hJs⟩:=hrel;clear x0;cases r with
  |zero=>
   have e0:((0:Nat):Int) - 1= -1:=rfl;rw[e0];obtain rfl:k=xs.length:=by omega
   gi_wp2;go_end0;exact⟨⟨_,rfl⟩,.inl ⟨_,rfl,hJs⟩⟩
  |succ q=>
   have e0:((q+1:Nat):Int) - 1=(q:Int):=by omega
   rw[e0];have hqk:xs.length - 1 - k=q:=by omega
   obtain⟨s,hs⟩:∃s,xs[q]?=some s:=⟨xs[q]'(by omega),PT _⟩;obtain⟨x1,x2⟩:=HJC.out _ _ hJs;obtain⟨g,rfl,_,z⟩:=x2 q s hs;obtain⟨fn,tmps,assign,body,hy,hR⟩:=HY.out (List.range k) k wr hJs (by simp;omega);rw[LX hqk (by omega) hs]at hy;have hi1:(q:Int)< (xs.length:Int):=by omega
   have hi2:(0:Int)≤(q:Int):=by omega
   have HQ:=zH hrk;clear hs x2 hqk hrk e0;gi_wp2;refine hR.mono ?_;rintro e W3 (⟨rfl,hJ3,_⟩ |⟨rfl,hJx3⟩)
   ·gi_wp2;refine⟨⟨q,k+1,by have:=HQ.out;omega,rfl,by rw[List.range_succ];exact hJ3⟩,?_⟩;simp[intOf]
    try omega
   ·gi_wp2;refine Ux (VQ rfl _ _ _) rfl ?_;exact⟨⟨_,rfl⟩,.inr ⟨List.range k++[k],trivial,hJx3⟩⟩
theorem Iu(n:Nat)(hn:1≤n)(B1 B:Nat)(A:Option Addr)(c:Nat)(xs:List Int)(hx:xs.length≤700000)(w:World)(h1:w.heap[B1]?=some (.cells #[.slice A xs.length c] 176 (0,0)))(h2:w.ownsRow B 3 1 (.slice A xs.length c) xs.length (xs.map iV)):
  SeqStopsK Fence.wide n prog 306 #[.pointer (some ⟨B1,0,none⟩)] (fun x:Nat=>ML xs x) (Nu B1 (.slice A xs.length c)) (fun ys=>ys=List.range xs.length) (fun _=>True) xs.length w:=fun l J Jx W hW hJ _ hY h0=>by
 refine(MJ n hn l B1 A c xs hx (fun pre W=>J pre W∧W.heap[B1]?=some (.cells #[.slice A xs.length c] 176 (0,0))∧W.ownsRow B 3 1 (.slice A xs.length c) xs.length (xs.map iV)) Jx
  (fun pre X hX=>⟨(aa hX.2.1 0).trans rfl,by
   obtain⟨A2,c2,e2,_,_,h9⟩:=nZ hX.2.2;cases e2;exact h9⟩)
  (fun pre x X hX hl=>?_) W ⟨h0,af h1 hW,bP h2 fun g hg=>hW.block g (h2.lt g hg).2⟩).mono ?_
 ·obtain⟨fn,tmps,assign,body,hy,hR⟩:=hY pre x X hX.1 hl;refine⟨fn,tmps,assign,body,hy,hR.mono ?_⟩;rintro e W' (⟨he,hj,q1,q2⟩ |⟨he,hj⟩)
  ·exact .inl ⟨he,⟨hj,q1.trans hX.2.1,bP hX.2.2 q2⟩,trivial⟩
  ·exact .inr ⟨he,hj⟩
 ·rintro e W' ⟨he,(⟨ys,hys,hj⟩ |⟨pre,hp,hj⟩)⟩
  ·exact⟨he,.inl ⟨ys,hys,hj.1⟩⟩
  ·exact⟨he,.inr ⟨pre,hp,hj⟩⟩
end
section
open Go.Shelf
attribute [local go_sem] QA
def Fh(tr a:Int)(u:Pl)(f:Int):Pl:=⟨tr,a,u.cl,if u.cl=3 then 0 else IntKind.i64.wrap (u.de+1),u.to,f⟩
def fQ(tr:Int)(rl:List Int)(fan:Int→Int)(z:Pl×List (ByteArray×Pl))(x:Nat):Pl×List (ByteArray×Pl):=
 (Fh tr (rl.getD x 0) z.1 (fan (rl.getD x 0)),ay oS z.2 (kk tr (rl.getD x 0)) (Fh tr (rl.getD x 0) z.1 (fan (rl.getD x 0))))
section
variable{own:Nat→Nat}{b:Nat}{w:World}{B q:Nat}{cs:Array Value}{ty:TypeId}{W:Nat}{s:WS}
theorem dX.back{own:Nat→Nat}{b:Nat}{w w0 w':World}{B q:Nat}{cs:Array Value}{ty:TypeId}{W:Nat}{s:WS}(D:dX own b w0 w' B q cs ty W s)(hb:Below w.heap.size w w0):dX own b w w' B q cs ty W s:=by
 obtain⟨own3,cs3,k1,k2,k3,k4⟩:=D;exact⟨own3,cs3,k1,k2,(Kp.of_below _ hb).trans' k3 (fun _ _ h=>h),fun x hx=>k4 x (Ut hx hb.size)⟩
theorem dX.stand{own:Nat→Nat}{b:Nat}{w0 w':World}{B q:Nat}{cs:Array Value}{ty:TypeId}{W:Nat}{s:WS}{x:Nat}{o:Obj}(D:dX own b w0 w' B q cs ty W s)(hx:w0.heap[x]?=some o)(h1:x≠B)(h2:x≠W)(h3:own x≠b+2):w'.heap[x]?=some o:=by
 obtain⟨_,_,_,_,h,_⟩:=D;exact h.at hx fun hf=>by unfold FP at hf;omega
theorem be.away{own:Nat→Nat}{b:Nat}{w w':World}{B q:Nat}{cs:Array Value}{ty:TypeId}{W x:Nat}{s:WS}(h:be own b w B q cs ty W s)(hk:Kp (fun c=>c=x) w w')(h1:x≠B)(h2:x≠W)(h3:own x=0)(hb:0<b):be own b w' B q cs ty W s:=by
 obtain⟨ds,p1,p2,p3,p4,p5,n,h⟩:=h;have hf:∀t,0<t→∀c,c<w.heap.size→own c=t→¬c=x:=fun t ht c _ e e'=>by rw[e',h3]at e;omega
 exact⟨ds,p1,p2,p3,p4,p5,n,⟨hk.at h.bB (fun e=>h1 e.symm),hk.at h.bW (fun e=>h2 e.symm),h.k0,h.k1,h.k2,h.k3,h.k4,h.k5,h.d0,h.d1,h.d2,h.d3,h.d4,h.d5,
  h.tA.kp hk (hf b hb) (aO.refl _ _),h.tC.kp hk (hf _ (by omega)) (aO.refl _ _),h.tP.kp hk (hf _ (by omega)) (aO.refl _ _),h.tU.kp hk (hf _ (by omega)) (aO.refl _ _),h.tG.kp hk (hf _ (by omega)) (aO.refl _ _),h.ow.mono hk.size,h.nB,h.nW,h.ne⟩⟩
theorem JQ{w:World}{B:Nat}(y:Pl):
  Kp (fun c=>c=B) w ((((((w.setCell ⟨B,0,none⟩ (.int .i64 y.tr)).setCell ⟨B,1,none⟩ (.int .i64 y.id)).setCell ⟨B,2,none⟩ (.int .i64 y.cl)).setCell ⟨B,3,none⟩ (.int .i64 y.de)).setCell ⟨B,4,none⟩ (.int .i64 y.to)).setCell ⟨B,5,none⟩ (.int .i64 y.fa)):=
 ((((((Kp.refl (fun c=>c=B) w).setCell (fun _=>rfl) _).setCell (fun _=>rfl) _).setCell (fun _=>rfl) _).setCell (fun _=>rfl) _).setCell (fun _=>rfl) _).setCell (fun _=>rfl) _
def KW(s:WS)(tr i:Int)(l:List Int):Prop:=fX s.A tr i=none∨ag oS s.P (kk tr i)≠none∨i∈l
theorem I8(h:be own b w B q cs ty W s)(hb:0<b)(hs:s.Small)(hP:s.P.length+s.A.length≤700000)(tr id:Int)(h1:aB tr)(h2:aB id):
  Calls prog 184 #[.pointer (some ⟨W,0,none⟩),.int .i64 tr,.int .i64 id] w fun e w'=>(∃c,e=.returned c)∧∃l i,jH s tr id l i∧KW s tr i l∧
   ((l=[]∧dX own b w w' B q cs ty W s)∨∃bZ,l.getLast?=some bZ∧
    dX own b w w' B q cs ty W {s with P:=((List.range l.length).foldl (fQ tr l.reverse fun a=>(aH s.C tr a).length) (mn (ag oS s.P (kk tr i)) (fX s.A tr i).isSome i bZ,s.P)).2}):=by
 have b0:=ae (.cells #[.int .i64 tr] 3) (zB w (.cells #[.pointer (some ⟨W,0,none⟩)] 290));have n0:=ar (Up w (.cells #[.pointer (some ⟨W,0,none⟩)] 290)) (.cells #[.int .i64 tr] 3);have m0:=Up (w.alloc (.cells #[.pointer (some ⟨W,0,none⟩)] 290)) (.cells #[.int .i64 tr] 3);rw[Pq]at m0;obtain⟨hBw,hWw,how⟩:B<w.heap.size∧W<w.heap.size∧Ow own w:=by
  exact OP
 have HC:=zH (Fz (h.below b0) hb hs tr id h1 h2);refine(PE (n:=9)).1 ?_;refine QR func184 rfl trivial ?_ rfl;simp only[ntmps184,UH,PC,Qe,Nat.reduceAdd,Nat.reduceSub,QH,QI,QJ,QK,PQ,PN];gi_wp2;generalize (w.alloc (.cells #[.pointer (some ⟨W,0,none⟩)] 290)).alloc (.cells #[.int .i64 tr] 3)=w2 at b0 n0 m0 HC⊢;have y0:=aa n0 0;have z0:=aa m0 0;have hw2:=b0.size;have hs0:w.heap.size<w2.heap.size∧w.heap.size+1<w2.heap.size:=⟨am n0,am m0⟩;have HN:=zH (Uq n0 m0);have HB0:=zH b0;gi_wp2_with (refine⟨trivial,?_⟩;gi_at_call 255;refine(PE.2 (HC.out)).mono ?_;rintro e w3 ⟨v,l,i,own3,cs3,rfl,hrow,hI,hE,ho3,q3,near3,kp3,ext3⟩;have D3:dX own b w2 w3 B q cs ty W s:=⟨own3,cs3,q3,near3,kp3,ext3⟩;obtain⟨A,c,rfl⟩:=an hrow;obtain⟨lo,hlo⟩:∃lo,lo=l.length:=⟨_,rfl⟩;rw[←hlo];have HLO:=zH hlo;clear hlo)
 ·have hz:((lo:Int)==0)=true:=by assumption
  have hl:l=[]:=QW (by rw[←HLO.out];simpa using hz);subst hl;refine⟨_,VQ rfl _ _ _,⟨_,rfl⟩,[],i,hI,hE,.inl ⟨rfl,D3.back HB0.out⟩⟩
 ·have hz:((lo:Int)==0)=false:=by assumption
  have hlo:0<lo:=Nat.pos_of_ne_zero (fun e=>by rw[e]at hz;simp at hz);have hl:0<l.length:=HLO.out▸hlo;obtain⟨bZ,hlast⟩:∃a,l.getLast?=some a:=⟨_,List.getLast?_eq_some_getLast (fun e=>by rw[e]at hl;simp at hl)⟩;have hlk:l[lo - 1]?=some bZ:=by rw[HLO.out,←Wi];exact hlast
  obtain⟨A2,c2,e2,_,_,hrd⟩:=nZ hrow;rw[←HLO.out]at e2;cases e2;obtain⟨g,rfl,hg1,hg2⟩:=hrd (lo - 1) bZ hlk;have hb3:=(show Kp (FP own b B W) w2 w3 by obtain⟨_,_,_,_,h9,_⟩:=D3;exact h9).size;have D0:=D3.back HB0.out;have hll:=hI.len h1 (by obtain⟨_,_,_,_,_,_,_,h9⟩:=(show be own b w B q cs ty W s from h);exact h9.tA.srt);have hsA:=hs.a;refine Q6.2 ?_;have n3:=D3.stand HN.out.1 (by omega) (by omega) (by rw[how _ (Po _)];omega);have m3:=D3.stand HN.out.2 (by omega) (by omega) (by rw[how _ (UE _)];omega);have HN3:=zH (Uq n3 m3);have HG2:=zH hg2;have HAB:=zH (fun w4 (b4:Below w3.heap.size w3 w4)=>(D3.below b4).call fun own4 cs4 h4=>FA h4 tr bZ i h1 hI.oi);have hi1:((lo:Int) - 1)=((lo - 1:Nat):Int):=by omega
  have hi2:((lo - 1:Nat):Int)< (lo:Int):=by omega
  have hlb:lo≤700000:=by rw[HLO.out];omega
  have hi3:(0:Int)≤((lo - 1:Nat):Int):=by omega
  have hiw:=Qp (((lo - 1:Nat)):Int) (by omega);refine zr (fun V=>Below w3.heap.size w3 V) (Pk _ w3).drew fun hS0=>?_;(refine zh hS0 3 9 0 ?_;simp only[zd];((iterate 9 (refine zt (fun W hW=>by have c0:=aa ((hW.block _ (am HN3.out.1)).trans HN3.out.1) 0;have c1:=aa ((hW.block _ (am HN3.out.2)).trans HN3.out.2) 0;have c2:=(hW.cell hg1).trans HG2.out;exact zq) ?_;simp only[zp]));refine ac ?_));generalize hup:mn (ag oS s.P (kk tr i)) (fX s.A tr i).isSome i bZ=up at HAB;have HUP:=zH hup;clear hup;apply rG (C:=fun g W=>Below w3.heap.size w3 W∧W.heap[g]?=some (.cells (PA up) 98 (0,0))∧w3.heap.size≤g)
  ·intro HG;refine aU 9 10 (by kernel_rfl) rfl rfl (fun K hK=>?_) (fun K hK=>?_)
   ·rw[Pj (by rfl)];go_simp;go_at_call 256;(with_reducible refine(HAB.out _ hS0).mono ?_);rintro e4 w4 ⟨rfl,g4⟩;have S4:=hS0.trans (g4.mono hS0.size);go_wp2_with fail;(refine zu hK S4 ?_;clear hK K;try simp only[zp]);(refine zo 10 rfl fun K hK=>?_);(go_simp;(refine zu hK (ae _ S4) ?_;clear hK K;try simp only[zp]));(refine zo 11 rfl fun K hK=>?_);(refine bu _ _ rfl (by rfl) (by rfl) (Up _ _) rfl ?_);intro w6 n6 k6 _;have S6:=(ae _ S4).trans (gA k6 S4.size (by rw[Pq];have:=S4.size;omega));(refine zu hK S6 ?_;clear hK K;try simp only[zp]);exact OO
   ·have n4:=Up w3.drew (.cells PZ 98);(rw[Pj (by rfl)];go_simp;(refine zu hK (ae _ hS0) ?_;clear hK K;try simp only[zp]));refine zo 9 rfl fun K hK=>?_;go_simp;go_at_call 256;(with_reducible refine(HAB.out _ ((ae _ (Pk _ w3)).drew)).mono ?_);rintro e5 w5 ⟨rfl,g5⟩;have S5:=ah g5 (ae (.cells PZ 98) hS0);have n5:=af n4 g5;go_wp2_with fail;(refine zu hK S5 ?_;clear hK K;try simp only[zp]);(refine zo 11 rfl fun K hK=>?_);(refine bu _ _ rfl (by rfl) (by rfl) (n5) rfl ?_);intro w6 n6 k6 _;have S6:=S5.trans (gA k6 (Po _) S5.size);(refine zu hK S6 ?_;clear hK K;try simp only[zp]);exact NX
  ·rintro g5 w5 ⟨S5,n5,hg⟩;gi_wp2_with (refine⟨trivial,?_⟩;gi_at_call 257;refine(PE.2 (tq _ _ _ _)).mono ?_;rintro e w6 ⟨rfl,rfl⟩);obtain rfl:lo=l.length:=HLO.out;have hsz3:=kp3.size;have hsz5:=S5.size;have bw5:=zB w5 (.cells #[.slice (some ⟨g,0,none⟩) l.length c] 176);have nB:=Up w5 (.cells #[.slice (some ⟨g,0,none⟩) l.length c] 176);have z5:=Pq w5 (.cells #[.slice (some ⟨g,0,none⟩) l.length c] 176);have hrow5:=bP (bP hrow fun k hk=>S5.block k (hrow.lt k hk).2) (w':=w5.alloc (.cells #[.slice (some ⟨g,0,none⟩) l.length c] 176)) fun k hk=>bw5.block k (by have:=(hrow.lt k hk).2;omega);have hg0:own3 g=0:=ho3 g (by simp[Value.ownBlock]);have q5:be own3 b (w5.alloc (.cells #[.slice (some ⟨g,0,none⟩) l.length c] 176)) B q cs3 ty W s:=(q3.below S5).below bw5;have how3:Ow own3 w3:=by
    obtain⟨_,_,_,_,_,_,_,h9⟩:=(show be own3 b w3 B q cs3 ty W s from q3);exact h9.ow
   have K0:Kp (FP own b B W) w (w5.alloc (.cells #[.slice (some ⟨g,0,none⟩) l.length c] 176)):=(((Kp.of_below (FP own b B W) HB0.out).trans' kp3 (fun _ _ h=>h)).trans (Kp.of_below _ S5)).trans (Kp.of_below _ bw5);have E0:aO own own3 w:=fun x hx=>ext3 x (by omega);have o1:own3 w.heap.size=0:=(ext3 _ hs0.1).trans (how _ (Po _));have o2:own3 (w.heap.size+1)=0:=(ext3 _ hs0.2).trans (how _ (UE _));have p1:=ar (af HN3.out.1 S5) (.cells #[.slice (some ⟨g,0,none⟩) l.length c] 176);have p2:=ar (af HN3.out.2 S5) (.cells #[.slice (some ⟨g,0,none⟩) l.length c] 176);have p5:=ar n5 (.cells #[.slice (some ⟨g,0,none⟩) l.length c] 176);have hg5:=am n5;have hgw:w2.heap.size≤g∧g<w3.heap.size:=hrow.lt g (by simp[Value.ownBlock]);generalize w5.alloc (.cells #[.slice (some ⟨g,0,none⟩) l.length c] 176)=V at bw5 nB z5 hrow5 q5 K0 p1 p2 p5⊢;refine Sa rfl (by omega) (gf:=306) (lb:=#[.pointer (some ⟨w5.heap.size,0,none⟩)]) rfl trivial (QS func306 (by kernel_rfl) rfl)
    (Iu 8 (by omega) w5.heap.size w2.heap.size (some ⟨g,0,none⟩) c l (by omega) V nB hrow5)
    (fun h1 h2=>⟨h2.1.trans h1.1,fun a ha=>(h2.2 a ha).trans (h1.2 a ha)⟩) (fun W' lo o o' hlo hwo _ _=>⟨QP (by omega),fun a ha=>QP (by have:g=a:=(by simpa[Value.ownBlock]using ha);omega)⟩) (Pk _ _) (fun _=>rfl)
    (fun pre X=>∃own' cs',be own' b X B q cs' ty W {s with P:=(pre.foldl (fQ tr l.reverse fun a=>(aH s.C tr a).length) (up,s.P)).2}∧aT q 6 cs cs'∧Kp (FP own b B W) w X∧aO own3 own' w3∧(own' g5=0∧own' w5.heap.size=0)∧(X.heap[w.heap.size]?=some (.cells #[.pointer (some ⟨W,0,none⟩)] 290 (0,0))∧X.heap[w.heap.size+1]?=some (.cells #[.int .i64 tr] 3 (0,0)))∧X.heap[g5]?=some (.cells #[.int .i64 (pre.foldl (fQ tr l.reverse fun a=>(aH s.C tr a).length) (up,s.P)).1.tr,.int .i64 (pre.foldl (fQ tr l.reverse fun a=>(aH s.C tr a).length) (up,s.P)).1.id,.int .i64 (pre.foldl (fQ tr l.reverse fun a=>(aH s.C tr a).length) (up,s.P)).1.cl,.int .i64 (pre.foldl (fQ tr l.reverse fun a=>(aH s.C tr a).length) (up,s.P)).1.de,.int .i64 (pre.foldl (fQ tr l.reverse fun a=>(aH s.C tr a).length) (up,s.P)).1.to,.int .i64 (pre.foldl (fQ tr l.reverse fun a=>(aH s.C tr a).length) (up,s.P)).1.fa] 98 (0,0))∧V.heap.size≤X.heap.size∧(pre.foldl (fQ tr l.reverse fun a=>(aH s.C tr a).length) (up,s.P)).2.length≤s.P.length+pre.length)
    (fun _ _ _=>False) ?hI (fun _ _ _ _ _ h _ _=>h) ⟨own3,cs3,q5,near3,K0,aO.refl _ _,⟨how3 g5 hg,how3 _ hsz5⟩,⟨p1,p2⟩,p5,Po _,Nat.le_add_right _ _⟩
    (fun x a' _=>a'={tmps:=#[.pointer (some ⟨W,0,none⟩),.int .i64 tr,.int .i64 id,.pointer (some ⟨w.heap.size,0,none⟩),.pointer (some ⟨w.heap.size+1,0,none⟩),undef,.slice (some ⟨g,0,none⟩) l.length c,.int .i64 i,.pointer (some ⟨g5,0,none⟩),undef,.int .i64 (l.reverse.getD x 0),undef,.tuple #[.slice (some ⟨g,0,none⟩) l.length c,.int .i64 i],.pointer (some ⟨W,0,none⟩),.int .i64 tr,.int .i64 id,.tuple #[.slice (some ⟨g,0,none⟩) l.length c,.int .i64 i],.slice (some ⟨g,0,none⟩) l.length c,.int .i64 i,.slice (some ⟨g,0,none⟩) l.length c,.int .i64 (l.length:Nat),.bool false,.pointer (some ⟨W,0,none⟩),.int .i64 tr,.slice (some ⟨g,0,none⟩) l.length c,.slice (some ⟨g,0,none⟩) l.length c,.int .i64 (l.length:Nat),.int .i64 (l.length - 1:Nat),.pointer (some ⟨g,l.length - 1,none⟩),.int .i64 bZ,.int .i64 i,.agg (PA up),.slice (some ⟨g,0,none⟩) l.length c,.func (.func 306) #[] #[.pointer (some ⟨w5.heap.size,0,none⟩)],.int .i64 (l.length - 1 - x:Nat),.int .i64 (l.reverse.getD x 0),undef,undef,undef,undef,undef,undef,undef,undef,undef,undef,undef,undef,undef,undef,undef,undef,undef,undef,undef,undef,undef,undef,undef,undef,undef,undef,undef,undef,undef,undef,undef,undef,undef,undef,undef],defers:=[]}) (fun x a' _ X Y row hs hg hr=>hs)
    ?assign ?body ?done (fun _ _ _ _ _ _ h _=>h.elim)
   case assign=>
    rintro l0 pre x X Kk hI hK;unfold ML;gi_wp2;exact hK _ _ (KeepsFrom.refl _ _) ⟨rfl,fun _ _=>rfl⟩ hI rfl
   case hI=>
    rintro pre X Y row ⟨own',cs',i1,i2,i3,i4,i5,⟨i6,i7⟩,i8,i9,i10⟩ hgr hr;exact⟨own',cs',i1.cst (wh hgr hr),i2,i3.row hgr (fun r e=>by have:=(hr r e).1;omega),i4,i5,⟨aW i6 hgr hr,aW i7 hgr hr⟩,aW i8 hgr hr,Pt i9 hgr.size,i10⟩
   case done=>
    rintro D ys X hD rfl ⟨own',cs',i1,i2,i3,i4,i5,⟨i6,i7⟩,i8,i9,i10⟩ hKd;gi_wp2;refine⟨by simp,.inl ⟨_,_,rfl,UW hKd,?_⟩⟩;refine⟨_,VQ rfl _ _ _,⟨_,rfl⟩,l,i,hI,hE,.inr ⟨bZ,hlast,?_⟩⟩;rw[HUP.out];exact⟨own',cs',i1.cst (CR hKd rfl),i2,i3.row (RE X D _) (fun r e=>by cases e;omega),fun x hx=>(i4 x (by omega)).trans (E0 x hx)⟩
   case body=>
    rintro l0 pre x a' X hl0 ⟨r,hr⟩ ⟨own',cs',i1,i2,i3,i4,i5,⟨i6,i7⟩,i8,i9,i10⟩ rfl hlt;have hla:∀y,aB (l.reverse.getD y 0):=fun y=>by
     rw[Vu];cases hq:l.reverse[y]? with
     |none=>show aB 0;unfold aB;omega
     |some z=>exact hI.ok z (List.mem_reverse.1 (Pv hq))
    have ha:=hla x;obtain⟨z,hz⟩:∃z,pre.foldl (fQ tr l.reverse fun a=>(aH s.C tr a).length) (up,s.P)=z:=⟨_,rfl⟩;rw[hz]at i1 i8 i10;obtain⟨u,P⟩:=z;have HF:=zH (show(pre++[x]).foldl (fQ tr l.reverse fun a=>(aH s.C tr a).length) (up,s.P)=(Fh tr (l.reverse.getD x 0) u (aH s.C tr (l.reverse.getD x 0)).length,ay oS P (kk tr (l.reverse.getD x 0)) (Fh tr (l.reverse.getD x 0) u (aH s.C tr (l.reverse.getD x 0)).length))by rw[RO,hz];rfl);have hsm:WS.Small {s with P:=P}:=⟨hs.a,hs.c,by show P.length≤700000;simp only at i10;omega,hs.u,hs.g,hs.i,hs.k⟩;simp only at i1 i8 i10;have HFA:=zH (fun w4 (b4:Below X.heap.size X w4)=>BQ (i1.below b4) hsm tr _ h1 ha);simp only at HFA;generalize l.reverse.getD x 0=a at ha HFA HF⊢;clear hz;generalize hff:((aH s.C tr a).length:Int)=ff at HFA HF;have HOF:=zH (cz tr a h1 ha);have how':Ow own' X:=by
     obtain⟨_,_,_,_,_,_,_,h9⟩:=(show be own' b X B q cs' ty W _ from i1);exact h9.ow
    have hg5X:g5<X.heap.size:=am i8;have c6:=aa i6 0;have c7:=aa i7 0;have c8:=i1.reads0;have d0:=aa i8 0;have d1:=aa i8 1;have d2:=aa i8 2;have d3:=aa i8 3;have d4:=aa i8 4;have d5:=aa i8 5;clear hff;gi_wp2_with fail;refine iG (S:=fun V=>Below X.heap.size X V) (by kernel_rfl) (by kernel_rfl) (fun _ _ h=>h) (Pk _ X).drew (fun hS0=>?_);(refine zh hS0 4 17 0 ?_;simp only[zd];((iterate 17 (refine zt (fun W hW=>by have c6:=aa (af i6 hW) 0;have c7:=aa (af i7 hW) 0;have c8:=(i1.below hW).reads0;have d2:=aa (af i8 hW) 2;have d3:=aa (af i8 hW) 3;have d4:=aa (af i8 hW) 4;exact zq) ?_;simp only[zp]));refine ac ?_));apply rG (C:=fun g W=>Below X.heap.size X W∧W.heap[g]?=some (.cells #[.int .i64 tr,.int .i64 a,.int .i64 u.cl,.int .i64 (IntKind.i64.wrap (u.de+1)),.int .i64 u.to,.int .i64 ff] 98 (0,0))∧X.heap.size≤g)
    ·intro HG;refine aU 17 19 (by kernel_rfl) rfl rfl (fun K hK=>?_) (fun K hK=>?_)
     ·rw[Pj (by rfl)];go_simp;go_at_call 258;(with_reducible refine(HFA.out _ hS0).mono ?_);rintro e4 w4 ⟨rfl,g4⟩;have S4:=hS0.trans (g4.mono hS0.size);go_wp2_with fail;(refine zu hK S4 ?_;clear hK K;try simp only[zp]);(refine zh S4 2 1 18 ?_;simp only[zd];((iterate 1 (refine zU ?_;simp only[zp]));refine ac ?_));(refine zo 19 rfl fun K hK=>?_);(go_simp;(refine zu hK (ae _ S4) ?_;clear hK K;try simp only[zp]));(refine zo 20 rfl fun K hK=>?_);(refine bu (y:=(⟨tr,a,u.cl,IntKind.i64.wrap (u.de+1),u.to,ff⟩:Pl)) _ _ rfl (by rfl) (by rfl) (Up _ _) rfl ?_);intro w6 n6 k6 _;have S6:=(ae _ S4).trans (gA k6 S4.size (by rw[Pq];have:=S4.size;omega));(refine zu hK S6 ?_;clear hK K;try simp only[zp]);exact OO
     ·have n4:=Up X.drew (.cells PZ 98);(rw[Pj (by rfl)];go_simp;(refine zu hK (ae _ hS0) ?_;clear hK K;try simp only[zp]));refine zo 17 rfl fun K hK=>?_;go_simp;go_at_call 258;(with_reducible refine(HFA.out _ ((ae _ (Pk _ X)).drew)).mono ?_);rintro e5 w5 ⟨rfl,g6⟩;have S5:=ah g6 (ae (.cells PZ 98) hS0);have n5:=af n4 g6;go_wp2_with fail;(refine zu hK S5 ?_;clear hK K;try simp only[zp]);(refine zh S5 1 1 18 ?_;simp only[zd];((iterate 1 (refine zU ?_;simp only[zp]));refine ac ?_));(refine zo 20 rfl fun K hK=>?_);(refine bu (y:=(⟨tr,a,u.cl,IntKind.i64.wrap (u.de+1),u.to,ff⟩:Pl)) _ _ rfl (by rfl) (by rfl) (n5) rfl ?_);intro w6 n6 k6 _;have S6:=S5.trans (gA k6 (Po _) S5.size);(refine zu hK S6 ?_;clear hK K;try simp only[zp]);exact NX
    ·rintro g6 w6 ⟨S6,n6,hg6⟩;have sX6:=S6.size;have HFF:=zH (fun w4 (b4:Below X.heap.size X w4) (p:Pl)=>wK (i1.below b4) hsm (kk tr a) p);have d6:=aa n6 2;by_cases hc:u.cl=3
     case' pos=>
      have hc1:(u.cl==3)=true:=by simpa using hc
      have e6:=aa n6 3;have f6:=ak n6 3;have n7:=aq n6 3 (.int .i64 0);have S7:=S6.trans (gA ((Kp.refl (fun c=>c=g6) w6).setCell (b:=g6) (j:=3) (fun _=>rfl) (.int .i64 0)) hg6 sX6);have hp:(Fh tr a u ff)=⟨tr,a,u.cl,0,u.to,ff⟩:=by unfold Fh;rw[Pj hc]
      simp only[UY,U9,U3]at n7;gi_wp2_with fail;obtain⟨w7,hw7⟩:∃w7,w7=w6.setCell ⟨g6,3,none⟩ (.int .i64 0):=⟨_,rfl⟩;obtain⟨p,hpp⟩:∃p:Pl,p=Fh tr a u ff:=⟨_,rfl⟩;have m7:w7.heap[g6]?=some (.cells (PA p) 98 (0,0)):=by rw[hpp,hp,hw7];exact n7
      rw[←hw7]at S7⊢;clear hw7 n7 hp hc hc1 e6 f6 d6 n6
     case' neg=>
      have hc1:(u.cl==3)=false:=by simpa using hc
      have hp:(Fh tr a u ff)=⟨tr,a,u.cl,IntKind.i64.wrap (u.de+1),u.to,ff⟩:=by unfold Fh;rw[Pm hc]
      gi_wp2_with fail;obtain⟨w7,rfl⟩:∃w7,w7=w6:=⟨_,rfl⟩;have S7:=S6;obtain⟨p,hpp⟩:∃p:Pl,p=Fh tr a u ff:=⟨_,rfl⟩;have m7:w7.heap[g6]?=some (.cells (PA p) 98 (0,0)):=by rw[hpp,hp];exact n6
      clear hp hc hc1 d6 n6
     all_goals
      have HPP:=zH hpp;have hXw:=i3.size;have hVX:=i9;have sX7:=S7.size;have v1:=i4 _ (Ut hs0.1 hsz3);have v2:=i4 _ (Ut hs0.2 hsz3);have v3:=i4 g hgw.2;rw[o1]at v1;rw[o2]at v2;rw[hg0]at v3;have v6:=how' g6 hg6;have hsrt:aX oS P:=by
       obtain⟨_,_,_,_,_,_,_,h9⟩:=(show be own' b X B q cs' ty W _ from i1);exact h9.tP.srt
      clear hpp c6 c7 c8 d0 d1 d2 d3 d4 d5;refine iG (S:=fun V=>V.heap[w.heap.size]?=some (.cells #[.pointer (some ⟨W,0,none⟩)] 290 (0,0))∧V.heap[w.heap.size+1]?=some (.cells #[.int .i64 tr] 3 (0,0))∧V.cell? ⟨W,0,none⟩=some (.pointer (some ⟨B,q,none⟩))∧V.heap[g6]?=some (.cells (PA p) 98 (0,0)))
       (by kernel_rfl) (by kernel_rfl) (fun _ _ h=>h) ⟨af i6 S7.drew,af i7 S7.drew,(i1.below S7.drew).reads0,m7⟩ (fun hS1=>?_)
      (refine zh hS1 3 8 0 ?_;simp only[zd];((iterate 8 (refine zt (fun W hW=>by have c6:=aa hW.1 0;have c7:=aa hW.2.1 0;have c8:=hW.2.2.1;exact zq) ?_;simp only[zp]));refine ac ?_));(refine zh hS1 2 1 9 ?_;simp only[zd];((iterate 1 (refine zt (fun W hW=>by have d0:=aa hW.2.2.2 0;have d1:=aa hW.2.2.2 1;have d2:=aa hW.2.2.2 2;have d3:=aa hW.2.2.2 3;have d4:=aa hW.2.2.2 4;have d5:=aa hW.2.2.2 5;exact zq) ?_;simp only[zp]));refine ac ?_));(refine zo 8 rfl fun K hK=>?_;go_simp);go_at_call 61;(with_reducible refine(HOF.out _).mono ?_);rintro e8 w8 ⟨rfl,g8⟩;have S8:Below X.heap.size X w8:=S7.trans (((Pk _ w7).drew.trans g8).mono sX7);have hz8:=S8.size;have m8:=af m7 ((Pk _ w7).drew.trans g8);go_wp2_with fail;(refine zu hK ⟨af i6 S8,af i7 S8,(i1.below S8).reads0,m8⟩ ?_;clear hK K;try simp only[zp]);(refine zo 10 rfl fun K hK=>?_;go_simp);go_at_call 259;(with_reducible refine(HFF.out _ S8 p).mono ?_);rintro e9 w9 ⟨⟨cc,rfl⟩,D9⟩;have b9:=D9.stand (af i6 S8) (by omega) (by omega) (by omega);have m9:=D9.stand m8 (by omega) (by omega) (by omega);have l9:=D9.stand (af i8 S8) (by omega) (by omega) (by have:=i5.1;omega);go_wp2_with fail;(refine zu hK ⟨b9,D9.stand (af i7 S8) (by omega) (by omega) (by omega),D9.reads.1,m9⟩ ?_;clear hK K;try simp only[zp]);(refine ze ?_);have d0:=aa m9 0;have d1:=aa m9 1;have d2:=aa m9 2;have d3:=aa m9 3;have d4:=aa m9 4;have d5:=aa m9 5;have y0:=aa l9;have f0:=ak l9;gi_wp2_with fail;have hfold:(pre++[x]).foldl (fQ tr l.reverse fun a=>(aH s.C tr a).length) (up,s.P)=(p,ay oS P (kk tr a) p):=by rw[HF.out,HPP.out]
      have kp10:=JQ (w:=w9) (B:=g5) p;have n10:=DG l9 rfl p;generalize ((((((w9.setCell ⟨g5,0,none⟩ (.int .i64 p.tr)).setCell ⟨g5,1,none⟩ (.int .i64 p.id)).setCell ⟨g5,2,none⟩ (.int .i64 p.cl)).setCell ⟨g5,3,none⟩ (.int .i64 p.de)).setCell ⟨g5,4,none⟩ (.int .i64 p.to)).setCell ⟨g5,5,none⟩ (.int .i64 p.fa))=W10 at kp10 n10⊢;obtain⟨own9,cs9,q9,near9,kp9,ext9⟩:=D9;have KX:Kp (fun c=>FP own' b B W c∨c=g5) X W10:=(((Kp.of_below (FP own' b B W) S8).trans' kp9 (fun _ _ h=>h)).mono (fun _ _ h=>.inl h)).trans' kp10 (fun _ _ h=>.inr h);have EO:aO own own' w:=fun y hy=>(i4 y (by omega)).trans (E0 y hy);have hfar:∀y,y≠B→y≠W→own' y=0→y≠g5→¬(FP own' b B W y∨y=g5):=fun y h1 h2 h3 h4 hf=>by unfold FP at hf;omega
      refine⟨KX.others.from _,⟨KX.block _ (by omega) (hfar _ (by omega) (by omega) i5.2 (by omega)),fun g' hg'=>?_⟩,own9,cs9,by rw[hfold];exact q9.away kp10 (by omega) (by omega) ((ext9 _ (by omega)).trans i5.1) hb,i2.trans near9,i3.trans' KX (fun c hc hf=>hf.elim (fun h=>h.ext EO hc) (fun e=>by omega)),i4.trans ext9 (by omega),
       ⟨(ext9 _ (by omega)).trans i5.1,(ext9 _ (by omega)).trans i5.2⟩,⟨KX.at i6 (hfar _ (by omega) (by omega) v1 (by omega)),KX.at i7 (hfar _ (by omega) (by omega) v2 (by omega))⟩,by rw[hfold];exact n10,Pt i9 KX.size,?_⟩
      ·have hgg:g=g':=by simpa[Value.ownBlock]using hg'
       subst hgg;exact KX.block _ (by omega) (hfar _ (by omega) (by omega) v3 (by omega))
      ·rw[hfold,Pu,cM oS hsrt];simp only[PC,Qe];split<;>omega
end
end
