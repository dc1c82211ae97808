/- For WholeGossip: contracts of functions and plain laws. -/
import Derived.Test.YtfgfbacnkpeneaaGreatDoorVBu
set_option maxRecDepth 100000
set_option maxHeartbeats 4000000
set_option linter.unusedVariables false
set_option linter.unusedSimpArgs false
namespace Go.Proofs.YtfgfbacnkpeneaaGreatDoor
open Go.Proofs.Tryz Go.ChangeShapes Go.WideShapes Go.ChangeAt Go.RowKit Go.Deep Go.Shelf AvlP BigP PlcP
theorem Wn{P:Prop}(h:P:=by
 unfold DF lT VF at hf hg;rcases hg with hg |hg |hg
 ·rcases hf with hf |hf |hf
  ·omega
  ·subst hf;omega
  ·omega
 ·subst hg;omega
 ·rcases hf with hf |hf |hf
  ·omega
  ·subst hf;omega
  ·omega):P:=h
theorem Wo{P:Prop}(h:P:=by
 exact⟨A,c,rfl,T.slice o (Po _),b⟩):P:=h
section
structure MS where
 S:Nat
 Q:Nat
 M:Nat
 B:Nat
 S':Nat
 Q':Nat
 M':Nat
 B':Nat
def TF(own:Nat→Nat)(p:MS)(c:Nat):Prop:=DF own 1 5 1000 p.B c∨DF own 25 29 1001 p.B' c
structure NF(own:Nat→Nat)(w w1:World)(p:MS)(l l':List Sp)(k k':Bool):Prop where
 a:wD own 1 5 1000 w1 p.S p.Q p.M p.B 100 l k
 a':wD own 25 29 1001 w1 p.S' p.Q' p.M' p.B' 100 l' k'
 b:Below w.heap.size w w1
 z:∀c,c<w.heap.size→own c=0
 b1:w.heap.size≤p.B
 b2:w.heap.size≤p.B'
 ne:p.B≠p.B'
structure NB(own:Nat→Nat)(p:MS)(w:World)(A:Option Addr)(l:List Sp):Prop where
 rd:cm w w.heap.size A l
 at':∀ad,A=some ad→own ad.block=0∧ad.block≠p.B∧ad.block≠p.B'∧ad.block<w.heap.size
section
variable{own own':Nat→Nat}{w w1 w2:World}{p:MS}{l l' r X:List Sp}{k k':Bool}{A:Option Addr}{V:List (ByteArray×Sp)}
theorem MI:DT 1 5 1000:=⟨by decide,by decide,by decide⟩
theorem NM:DT 25 29 1001:=⟨by decide,by decide,by decide⟩
theorem TF.none{c:Nat}(h0:own c=0)(h1:c≠p.B)(h2:c≠p.B'):¬TF own p c:=fun hf=>hf.elim (DF.none MI h0 h1) (DF.none NM h0 h2)
theorem NF.below(T:NF own w w1 p l l' k k')(hb:Below w1.heap.size w1 w2):NF own w w2 p l l' k k':=⟨T.a.below hb,T.a'.below hb,T.b.trans (hb.mono T.b.size),T.z,T.b1,T.b2,T.ne⟩
theorem NB.below(s:NB own p w1 A l)(hb:Below w1.heap.size w1 w2):NB own p w2 A l:=⟨(s.rd.below hb).more hb.size,fun ad e=>⟨(s.at' ad e).1,(s.at' ad e).2.1,(s.at' ad e).2.2.1,Ut (s.at' ad e).2.2.2 hb.size⟩⟩
theorem NB.step(s:NB own p w1 A l)(hk:Km (TF own p) w1 w2)(he:aO own own' w1):NB own' p w2 A l:=
 ⟨(s.rd.km hk (Po _) fun ad e=>TF.none (s.at' ad e).1 (s.at' ad e).2.1 (s.at' ad e).2.2.1).more hk.size,fun ad e=>⟨(he _ (s.at' ad e).2.2.2).trans (s.at' ad e).1,(s.at' ad e).2.1,(s.at' ad e).2.2.1,Ut (s.at' ad e).2.2.2 hk.size⟩⟩
theorem NF.slice(T:NF own w w1 p l l' k k'){B0 c:Nat}(o:w2.ownsRow B0 93 9 (.slice A X.length c) X.length (X.flatMap bg))(h0:w1.heap.size≤B0):NB own p w2 A X:=by
 obtain⟨A',c',e,h,_,_,hat⟩:=bE o;cases e;have h1:=T.a.v.oB.2;have h2:=T.a'.v.oB.2;exact⟨h,fun ad e=>by
  have:=hat ad e;exact⟨T.a.v.ow _ (by omega),by omega,by omega,this.2⟩⟩
theorem NF.arg(T:NF own w w1 p l l' k k')(hr:cm w w.heap.size A r)(h0:∀ad,A=some ad→ad.block<w.heap.size):NB own p w1 A r:=by
 have hs:=T.b.size;have h1:=T.b1;have h2:=T.b2;exact⟨(hr.below T.b).more hs,fun ad e=>by
  have:=h0 ad e;exact⟨T.z _ this,by omega,by omega,by omega⟩⟩
theorem GN(T:NF own w w1 p l l' k k')(hl:l.length≤300)(e:aA l=X):
  Calls prog 11 #[.pointer (some ⟨p.S,0,none⟩)] w1 fun e w'=>∃A c,e=.returned (.slice A X.length c)∧NB own p w' A X∧Below w1.heap.size w1 w':=by
 subst e;refine(CN T.a hl).mono ?_;rintro e w' ⟨A,c,rfl,o,b⟩;exact Wo
theorem Al(T:NF own w w1 p l l' k k')(hl:l'.length≤300)(e:aA l'=X):
  Calls prog 11 #[.pointer (some ⟨p.S',0,none⟩)] w1 fun e w'=>∃A c,e=.returned (.slice A X.length c)∧NB own p w' A X∧Below w1.heap.size w1 w':=by
 subst e;refine(CN T.a' hl).mono ?_;rintro e w' ⟨A,c,rfl,o,b⟩;exact Wo
theorem NC(T:NF own w w1 p l l' true k')(hl:l.length≤300)(e:cB (av l)=V):
 Calls prog 14 #[.pointer (some ⟨p.B,0,none⟩)] w1 fun e w'=>∃v,e=.returned v∧dY w' w1.heap.size V v∧Below w1.heap.size w1 w':=e▸Ht T.a hl
theorem NE(T:NF own w w1 p l l' k true)(hl:l'.length≤300)(e:cB (av l')=V):
 Calls prog 14 #[.pointer (some ⟨p.B',0,none⟩)] w1 fun e w'=>∃v,e=.returned v∧dY w' w1.heap.size V v∧Below w1.heap.size w1 w':=e▸Ht T.a' hl
theorem ND(T:NF own w w1 p l l' k k'){A1 A2:Option Addr}(c1 c2:Nat){l1 l2:List Sp}(h1:∀x∈l1,x.In)(h2:∀x∈l2,x.In)(n1:l1.length≤300)(n2:l2.length≤300)(s1:NB own p w1 A1 l1)(s2:NB own p w1 A2 l2)(e:iy l1 l2=X):
  Calls prog 10 #[.slice A1 l1.length c1,.slice A2 l2.length c2] w1 fun e w'=>∃A c,e=.returned (.slice A X.length c)∧NB own p w' A X∧Below w1.heap.size w1 w':=by
 subst e;refine(vM A1 A2 c1 c2 l1 l2 h1 h2 (by omega) (by omega) w1 s1.rd s2.rd).mono ?_;rintro e w' ⟨v,rfl,o,b⟩;obtain⟨A,c,rfl⟩:=an o;exact Wo
theorem IP(T:NF own w w1 p l l' k k')(c:Nat)(hr:∀x∈r,x.In)(hm:l.length+r.length≤100)(s:NB own p w1 A r)(e:l++r=X):
  Calls prog 9 #[.pointer (some ⟨p.S,0,none⟩),.pointer (some ⟨p.B,0,none⟩),.slice A r.length c] w1 fun e w'=>e=.returned (.bool true)∧∃own',NF own' w w' p X l' true k'∧Km (TF own p) w1 w'∧aO own own' w1:=by
 subst e;refine(AX T.a MI A c hr (by omega) (by decide) s.rd fun ad e=>(s.at' ad e).1).mono ?_;rintro e w' ⟨rfl,own1,D,x,k1⟩;have h1:=T.b1;have h2:=T.b2;have h3:=T.ne;have o1:=T.a.v.oB;have o2:=T.a'.v.oB;have hs:=T.b.size;refine⟨rfl,own1,⟨D,T.a'.far k1 (fun c hc hf hg=>?_) x D.v.ow,T.b.trans (k1.below (fun c hc hf=>DF.none MI (T.z c hc) (by omega) hf) hs),fun c hc=>(x c (by omega)).trans (T.z c hc),h1,h2,h3⟩,k1.mono fun c hc hf=>.inl hf,x⟩;exact Wn
theorem Ny(T:NF own w w1 p l l' k k')(c:Nat)(hr:∀x∈r,x.In)(hm:l'.length+r.length≤100)(s:NB own p w1 A r)(e:l'++r=X):
  Calls prog 9 #[.pointer (some ⟨p.S',0,none⟩),.pointer (some ⟨p.B',0,none⟩),.slice A r.length c] w1 fun e w'=>e=.returned (.bool true)∧∃own',NF own' w w' p l X k true∧Km (TF own p) w1 w'∧aO own own' w1:=by
 subst e;refine(AX T.a' NM A c hr (by omega) (by decide) s.rd fun ad e=>(s.at' ad e).1).mono ?_;rintro e w' ⟨rfl,own1,D,x,k1⟩;have h1:=T.b1;have h2:=T.b2;have h3:=T.ne;have o1:=T.a.v.oB;have o2:=T.a'.v.oB;have hs:=T.b.size;refine⟨rfl,own1,⟨T.a.far k1 (fun c hc hf hg=>?_) x D.v.ow,D,T.b.trans (k1.below (fun c hc hf=>DF.none NM (T.z c hc) (by omega) hf) hs),fun c hc=>(x c (by omega)).trans (T.z c hc),h1,h2,h3⟩,k1.mono fun c hc hf=>.inr hf,x⟩;exact Wn
theorem NG(T:NF own w w1 p l l' k k'){A1 A2:Option Addr}(c1 c2:Nat)(hm:X.length≤300)(s1:NB own p w1 A1 X)(s2:NB own p w1 A2 X):
 Calls prog 12 #[.slice A1 X.length c1,.slice A2 X.length c2] w1 fun e w'=>e=.returned (.bool true)∧Below w1.heap.size w1 w':=Mb A1 A2 c1 c2 X (by unfold maxLen;omega) w1 s1.rd s2.rd
theorem NK(T:NF own w w1 p l l' k k')(c:Nat)(hX:∀x∈X,x.In)(hm:X.length≤300)(s:NB own p w1 A X)(e:cB (av X)=V):
 Calls prog 15 #[.slice A X.length c] w1 fun e w'=>∃v,e=.returned v∧dY w' w1.heap.size V v∧Below w1.heap.size w1 w':=e▸Iw A c X hX (by omega) w1 s.rd
end
def BG.At(a:BG)(w:World):Prop:=a.Ok w∧∀ad,a.A=some ad→ad.block<w.heap.size
theorem rB{H:Type}{enc:TypeId×Value→H}{w:World}{base:Nat}{spare:Nat→Bool}{held:Bool}{b0:Nat}{v:Value}{d:DataW H}{p:List MemPlace}
  (hv:Value.okWide prog w .any b0 22 v)(h:DataW.Trod enc prog w base spare held 22 v d p)(hl:∀x∈p,x.block<w.heap.size):
  ∃a:BG,v=.slice a.A a.l.length a.c∧a.At w:=by
 obtain⟨⟨A,c,l⟩,rfl,ha⟩:=Au hv h hl;refine⟨⟨A,c,l⟩,rfl,ha,fun ad e=>?_⟩;obtain rfl:A=some ad:=e;unfold Value.okWide at hv;simp only[UF]at hv;unfold Cell.okWide at hv;simp only[UF]at hv;unfold Cell.ok at hv;simp only[UF]at hv;obtain⟨_,_,_,_,row,cells,hs,_⟩:=hv;unfold World.shape? at hs;rcases Rc ad.block w.heap.size with h1 |h1
 ·exact h1
 ·rw[SK h1]at hs;cases hs
theorem BV(A:Option Addr)(c:Nat)(l:List Sp)(hm:l.length≤maxLen)(hok:∀x∈l,x.Ok)(w:World)(hr:cm w w.heap.size A l):
  ∃f:Bool,(f=true→Hj 20 l)∧∀W,Below w.heap.size w W→Calls prog 5 #[.slice A l.length c,.int .i64 20] W fun e w'=>e=.returned (.bool f)∧Below W.heap.size W w':=by
 by_cases h:Hj 20 l
 ·exact⟨true,fun _=>h,fun W b=>vC A c l 20 (by omega) h W ((hr.below b).more b.size)⟩
 ·exact⟨false,nofun,fun W b=>xo A c l hm hok 20 (by omega) h W ((hr.below b).more b.size)⟩
theorem FL{l:List Sp}(hf:Hj 20 l)(hok:∀x∈l,x.Ok)(hm:(l.all fun x=>CodeP.jh (dG x))=true):∀x∈l,x.In:=fun x hx=>⟨hok x hx,hf.2 x hx,Vc.1 hm x hx⟩
section
variable{own1 own2:Nat→Nat}{w W1 w1 W2 w2:World}{S Q M S' Q' M':Nat}
theorem FN{own:Nat→Nat}{b:Nat}{lim:Int}{L:List (ByteArray×Sp)}{many:Int}{f:Int→Int}{n:Nat}(s:ew own b w S Q M lim L many f n):Ow own w:=by
 obtain⟨_,_,_,_,_,_,s,_⟩:=s;exact s.ow
def NL(w:World)(S S':Nat)(W:World):Prop:=∃own Q M Q' M',ew own 1 W S Q M 100 [] 0 (fun _=>0) 0∧ew own 25 W S' Q' M' 100 [] 0 (fun _=>0) 0∧Below w.heap.size w W∧∀c,c<w.heap.size→own c=0
theorem NI{bA bB:Nat}(b0:Below w.heap.size w W1)(s1:ew own1 bA w1 S Q M 100 [] 0 (fun _=>0) 0)(x1:aO (fun _=>0) own1 W1)(b1:Below W1.heap.size W1 w1)(b2:Below w1.heap.size w1 W2)
  (s2:ew own2 bB w2 S' Q' M' 100 [] 0 (fun _=>0) 0)(x2:aO own1 own2 W2)(b3:Below W2.heap.size W2 w2):
  ew own2 bA w2 S Q M 100 [] 0 (fun _=>0) 0∧Below w.heap.size w w2∧∀c,c<w.heap.size→own2 c=0:=by
 have h0:=b0.size;have h1:=b1.size;have h2:=b2.size;exact⟨s1.farE (Km.of_below (fun _=>False) (b2.trans (b3.mono h2))) (fun _ _ _=>id) (fun c hc=>x2 c (by omega)) (FN s2),b0.trans ((b1.trans ((b2.trans (b3.mono h2)).mono h1)).mono h0),fun c hc=>(x2 c (by omega)).trans (x1 c (by omega))⟩
theorem zM(lim:Int)(hl:0≤lim∧lim≤100000){own:Nat→Nat}{b:Nat}(hO:Ow own w)(hb:0<b):
  Calls prog 8 #[.agg #[.int .i64 lim,.int .i64 lim,.int .i64 0,.int .i64 0]] w fun e w'=>∃S Q M,e=.returned (.pointer (some ⟨S,0,none⟩))∧Below w.heap.size w w'∧∃own',ew own' b w' S Q M lim [] 0 (fun _=>0) 0∧aO own own' w:=
 (tB lim hl hO hb).mono fun _ _ h=>⟨_,_,_,h⟩
theorem NH(D:NL w S S' w2):
  ∃p own,p.S=S∧p.S'=S'∧p.B=w2.heap.size∧p.B'=w2.heap.size+1∧NF own w ((w2.alloc (.cells qK 74)).alloc (.cells qK 74)) p [] [] false false:=by
 obtain⟨own2,Q,M,Q',M',s1,s2,b0,z⟩:=D;refine⟨⟨S,Q,M,w2.heap.size,S',Q',M',w2.heap.size+1⟩,own2,rfl,rfl,rfl,rfl,?_⟩;have h0:=b0.size;have o2:=FN s2;obtain⟨wV,hV⟩:∃wV,wV=w2.alloc (.cells qK 74):=⟨_,rfl⟩;rw[←hV];have bV:Below w2.heap.size w2 wV:=by rw[hV];exact ae _ (Pk _ _)
 have zV:wV.heap.size=w2.heap.size+1:=by rw[hV,Pq]
 have nV:wV.heap[w2.heap.size]?=some (.cells qK 74 (0,0)):=by rw[hV];exact Up _ _
 clear hV;obtain⟨wX,hX⟩:∃wX,wX=wV.alloc (.cells qK 74):=⟨_,rfl⟩;rw[←hX];have bX:Below wV.heap.size wV wX:=by rw[hX];exact ae _ (Pk _ _)
 have nX:wX.heap[w2.heap.size+1]?=some (.cells qK 74 (0,0)):=by rw[hX,←zV];exact Up _ _
 have nV':wX.heap[w2.heap.size]?=some (.cells qK 74 (0,0)):=by rw[bX.block _ (by omega)];exact nV
 clear hX nV;have bb:Below w2.heap.size w2 wX:=bV.trans (bX.mono bV.size);have oX:=o2.mono bb.size;have q1:=s1.farE (Km.of_below (fun _=>False) bb) (fun _ _ _=>id) (aO.refl _ _) oX;have q2:=s2.farE (Km.of_below (fun _=>False) bb) (fun _ _ _=>id) (aO.refl _ _) oX;have d1:=yG q1 nV' oX (o2 _ (Po _)) MI;have d2:=yG q2 nX oX (o2 _ (UE _)) NM;exact⟨d1,d2,b0.trans (bb.mono h0),z,h0,Nat.le_succ_of_le h0,by simp⟩
end
theorem NB.cut{own:Nat→Nat}{p:MS}{w:World}{ad:Addr}{l:List Sp}(s:NB own p w (some ad) l)(i n:Nat):NB own p w (some (ad.add (i*9))) ((l.drop i).take n):=
 ⟨(fun k x hk=>by
  rw[Wg]at hk;split at hk
  ·rw[RS]at hk;obtain⟨a,e,hlt,h0⟩:=s.rd (i+k) x hk;obtain rfl:=UC e;refine⟨_,rfl,by rw[dW];exact hlt,?_⟩;rw[Deep.add_add,show i*9+k*9=(i+k)*9 by omega];exact h0
  ·cases hk),(fun a e=>by
  cases e;rw[dW];exact s.at' ad rfl)⟩
theorem NB.take{own:Nat→Nat}{p:MS}{w:World}{A:Option Addr}{l:List Sp}(s:NB own p w A l)(n:Nat):NB own p w A (l.take n):=
 ⟨(fun k x hk=>by
  rw[Wg]at hk;split at hk
  ·exact s.rd k x hk
  ·cases hk),s.at'⟩
structure GF(la lb more less G:List Sp)(V:List (ByteArray×Sp)):Prop where
 a:∀x∈la,x.In
 b:∀x∈lb,x.In
 m:iy (aA la) (aA lb)=more
 s:iy (aA lb) (aA la)=less
 ml:more.length≤lb.length
 sl:less.length≤la.length
 mi:∀x∈more,x.In
 si:∀x∈less,x.In
 ai:∀x∈aA la,x.In
 bi:∀x∈aA lb,x.In
 gi:∀x∈G,x.In
 al:(aA la).length≤la.length
 bl:(aA lb).length≤lb.length
 gl:G.length≤la.length+lb.length
 g:aA (la++lb)=G
 g1:aA (la++more)=G
 g2:aA (lb++less)=G
 g3:aA ((la++more)++less)=G
 v:cB (av (la++lb))=V
 v1:cB (av (la++more))=V
 v2:cB (av (lb++less))=V
 v3:cB (av ((la++more)++less))=V
 vg:cB (av G)=V
 no:iy G G=[]
theorem lw{l:List Sp}(hl:∀x∈l,x.In):(aA l).length≤l.length:=by
 exact Oi
theorem gf{la lb:List Sp}(ha:∀x∈la,x.In)(hb:∀x∈lb,x.In):∃more less G V,GF la lb more less G V:=by
 have g1:=rY ha hb;have g2:=AV ha hb;have g3:=vS ha hb;have hab:=fS ha hb;have e1:=jS ha hb;have e2:=jS hb ha;refine⟨_,_,aA (la++lb),cB (av (la++lb)),ha,hb,rfl,rfl,by rw[e1];exact(rA hb _).2,by rw[e2];exact(rA ha _).2,by rw[e1];exact rX hb,by rw[e2];exact rX ha,fun x hx=>(nO ha x hx).in,fun x hx=>(nO hb x hx).in,fun x hx=>(nO hab x hx).in,lw ha,lw hb,by have:=lw hab;rwa [Pu]at this,rfl,?_,?_,?_,rfl,by rw[g1],by rw[g2],by rw[g3],?_,DY hab⟩
 ·unfold aA;rw[←g1];rfl
 ·unfold aA;rw[←g2];rfl
 ·unfold aA;rw[←g3];rfl
 ·rw[show av (aA (la++lb))=av (la++lb)from iK (aG hab)]
theorem NJ{n:Int}(h:(Lit.int .u8 n).wf=true):0≤n∧n<256:=by
 have e1:IntKind.u8.min=0:=rfl;have e2:IntKind.u8.max=255:=rfl;simp[Lit.wf,e1,e2]at h;omega
theorem Nz(a b:BG)(z:Int)(hz:0≤z∧z<256)(w:World)(ha:a.At w)(hb:b.At w):
  Calls prog 3 #[.slice a.A a.l.length a.c,.slice b.A b.l.length b.c,.int .u8 z] w fun e w'=>e=.returned (.bool true)∧Below w.heap.size w w':=by
 obtain⟨⟨hm,hlc,hcm,hok,hr⟩,hA⟩:=ha;obtain⟨⟨hm',hlc',hcm',hok',hr'⟩,hA'⟩:=hb;obtain⟨fa,hfa,ca⟩:=BV a.A a.c a.l hm hok w hr;obtain⟨fb,hfb,cb⟩:=BV b.A b.c b.l hm' hok' w hr';obtain⟨ma,hma⟩:∃m,m=a.l.all fun x=>CodeP.jh (dG x):=⟨_,rfl⟩;obtain⟨mb,hmb⟩:∃m,m=b.l.all fun x=>CodeP.jh (dG x):=⟨_,rfl⟩;have da:∀W,Below w.heap.size w W→Calls prog 6 #[.slice a.A a.l.length a.c] W fun e w'=>e=.returned (.bool ma)∧Below W.heap.size W w':=fun W q=>by
  rw[hma];exact BT a.A a.c a.l hm hok W ((hr.below q).more q.size)
 have db:∀W,Below w.heap.size w W→Calls prog 6 #[.slice b.A b.l.length b.c] W fun e w'=>e=.returned (.bool mb)∧Below W.heap.size W w':=fun W q=>by
  rw[hmb];exact BT b.A b.c b.l hm' hok' W ((hr'.below q).more q.size)
 have CA:=zH ca;have CB:=zH cb;have DA:=zH da;have DB:=zH db;have B0:=zH (Pk w.heap.size w);clear ca cb da db;by_cases hall:(fa&&fb&&ma&&mb)=true
 case neg=>
  clear hm hlc hcm hok hr hA hm' hlc' hcm' hok' hr' hA' hfa hfb hma hmb;go_enter func3,ntmps3;cases fa<;>cases fb<;>cases ma<;>cases mb<;>(try exact absurd rfl hall)<;>clear hall<;>(
   go_wp2_with (first
    |(go_at_call 5;(with_reducible refine(CA.out _ B0.out).mono ?_);rintro e w1 ⟨rfl,b1⟩;have B1:=zH (B0.out.trans (b1.mono B0.out.size));clear B0 b1)
    |(go_at_call 5;(with_reducible refine(CB.out _ B1.out).mono ?_);rintro e w2 ⟨rfl,b2⟩;have B2:=zH (B1.out.trans (b2.mono B1.out.size));clear B1 b2)
    |(go_at_call 6;(with_reducible refine(DA.out _ B2.out).mono ?_);rintro e w3 ⟨rfl,b3⟩;have B3:=zH (B2.out.trans (b3.mono B2.out.size));clear B2 b3)
    |(go_at_call 6;(with_reducible refine(DB.out _ B3.out).mono ?_);rintro e w4 ⟨rfl,b4⟩;have B4:=zH (B3.out.trans (b4.mono B3.out.size));clear B3 b4)
    |(go_at_call 7;(with_reducible refine(lP _).mono ?_);rintro e w9 ⟨rfl,b9⟩))
   go_ret
   first |exact⟨rfl,B1.out.trans (b9.mono B1.out.size)⟩ |exact⟨rfl,B2.out.trans (b9.mono B2.out.size)⟩ |exact⟨rfl,B3.out.trans (b9.mono B3.out.size)⟩ |exact⟨rfl,B4.out.trans (b9.mono B4.out.size)⟩)
 case pos=>
  obtain⟨⟨⟨rfl,rfl⟩,rfl⟩,rfl⟩:((fa=true∧fb=true)∧ma=true)∧mb=true:=by simpa only[UU]using hall
  have ia:=FL (hfa rfl) hok hma.symm;have ib:=FL (hfb rfl) hok' hmb.symm;have na:a.l.length≤20:=(hfa rfl).1;have nb:b.l.length≤20:=(hfb rfl).1;obtain⟨more,less,X,V,hG⟩:=gf ia ib;have G:=zH hG;have RA:=zH (Uq hr hA);have RB:=zH (Uq hr' hA');have NA:=zH (Uq na nb);clear hall hm hm' hok hr hA hok' hr' hA' hfa hfb hma hmb ia ib hG nb;go_enter func3,ntmps3;go_wp2_with (first
   |(go_at_call 5;(with_reducible refine(CA.out _ B0.out).mono ?_);rintro e w1 ⟨rfl,b1⟩;have B1:=zH (B0.out.trans (b1.mono B0.out.size));clear B0 b1)
   |(go_at_call 5;(with_reducible refine(CB.out _ B1.out).mono ?_);rintro e w2 ⟨rfl,b2⟩;have B2:=zH (B1.out.trans (b2.mono B1.out.size));clear B1 b2)
   |(go_at_call 6;(with_reducible refine(DA.out _ B2.out).mono ?_);rintro e w3 ⟨rfl,b3⟩;have B3:=zH (B2.out.trans (b3.mono B2.out.size));clear B2 b3)
   |(go_at_call 6;(with_reducible refine(DB.out _ B3.out).mono ?_);rintro e w4 ⟨rfl,b4⟩;have B4:=zH (B3.out.trans (b4.mono B3.out.size));clear B3 b4))
  obtain⟨wc,hwc⟩:∃wc,wc=w4.alloc (.cells #[.int .i64 100,.int .i64 100,.int .i64 0,.int .i64 0] 27):=⟨_,rfl⟩;rw[←hwc];have bc:Below w.heap.size w wc:=by rw[hwc];exact B4.out.trans ((ae _ (Pk _ _)).mono B4.out.size)
  have nc:wc.heap[w4.heap.size]?=some (.cells #[.int .i64 100,.int .i64 100,.int .i64 0,.int .i64 0] 27 (0,0)):=by rw[hwc];exact Up _ _
  clear hwc CA CB DA DB B4;have HN:=zH (fun W=>zM (w:=W) 100 (by decide) (own:=fun _=>0) (b:=1) (fun _ _=>rfl) (by decide));refine zr (fun W=>W.heap[w4.heap.size]?=some (.cells #[.int .i64 100,.int .i64 100,.int .i64 0,.int .i64 0] 27 (0,0))) nc fun hS0=>?_;(refine zh hS0 5 1 0 ?_;simp only[zd];((iterate 1 (refine zt (fun W hW=>by have y0:=aa hW;exact zq) ?_;simp only[zp]));refine ac ?_));(refine zh hS0 4 1 2 ?_;simp only[zd];((iterate 1 (refine zt (fun W hW=>by have y0:=aa hW;exact zq) ?_;simp only[zp]));refine ac ?_));(refine zo 1 rfl fun K hK=>?_;go_simp);(with_reducible refine(HN.out _).mono ?_);rintro e w1 ⟨S,Q,M,rfl,b1,own1,s1,x1⟩;have m1:=(b1.block _ (am hS0)).trans hS0;go_wp2_with fail;(refine zu hK m1 ?_;clear hK K;try simp only[zp]);(refine zo 3 rfl fun K hK=>?_;go_simp);(with_reducible refine(zM 100 (by decide) (b:=25) (FN s1) (by decide)).mono ?_);rintro e w2 ⟨S',Q',M',rfl,b2,own2,s2,x2⟩;have m2:=(b2.block _ (am m1)).trans m1;have D0:NL w S S' w2:=by
   obtain⟨t1,t2,t3⟩:=NI bc.drew s1 x1 b1 (Pk _ _) s2 x2 b2;exact⟨own2,Q,M,Q',M',t1,s2,t2,t3⟩
  clear s1 s2 x1 x2 b1 b2 nc bc;go_wp2_with fail;(refine zu hK m2 ?_;clear hK K;try simp only[zp]);(refine zh m2 0 2 4 ?_;simp only[zd];((iterate 2 (refine zU ?_;simp only[zp]));refine ac ?_));(refine ze ?_);clear m1 m2 hS0 HN;obtain⟨p,own,e1,e2,e3,e4,T⟩:=NH D0;clear D0;subst e1 e2;go_wp2_with fail;obtain⟨wT,hwT⟩:∃wT,wT=(w2.alloc (.cells qK 74)).alloc (.cells qK 74):=⟨_,rfl⟩;rw[←hwT]at T;simp only[qK]at hwT;rw[←hwT,←e4,←e3];clear hwT e3 e4;have T0:=zH T;have S0:=zH (T.arg RA.out.1 RA.out.2);have b0:=T.b;clear T;rcases a with⟨A,ca,la⟩;rcases b with⟨A',cb,lb⟩;dsimp only at*;go_loopw [0,12] (fun v y wr=>∃(i:Nat) (A0:Option Addr) (c0:Nat) (own':Nat→Nat) (k:Bool),i≤la.length∧la.length - i≤c0∧c0≤maxLen∧v=.slice A0 (la.length - i) c0∧Hid (NF own' w wr p (la.take i) [] k false)∧Hid (NB own' p wr A0 (la.drop i))) (fun v _ _=>MA v)
  case atStart=>exact⟨0,A,ca,own,false,QZ _,hlc,hcm,rfl,T0,S0⟩
  case round=>
   obtain⟨i,A0,c0,own',k,hi,hc,hcx,rfl,T,SL⟩:=hrel;by_cases hlt:i<la.length
   ·have hz1:=hz.1;have hz2:=hz.2;have hg:(0:Int)< ((la.length - i:Nat):Int):=by omega
    obtain⟨t,ht⟩:∃t:Nat,t=(min ((la.length - i:Nat):Int) (1+z % 5)).toNat:=⟨_,rfl⟩;obtain⟨ad,rfl⟩:∃ad,A0=some ad:=by
     obtain⟨ad,e,_⟩:=SL.out.rd 0 la[i] (by rw[RS,Ru];exact PT hlt);exact⟨ad,e⟩
    have htm:min ((la.length - i:Nat):Int) (1+z % 5)=(t:Int):=by omega
    have ht1:1≤t:=by omega
    have ht2:t≤la.length - i:=by omega
    have hF:=IP T.out c0 (r:=(la.drop i).take t) (X:=la.take (i+t)) (fun x hx=>G.out.a x (List.mem_of_mem_drop (RG hx))) (by have:=NA.out.1;simp only[UD,Vn];omega) (SL.out.take t) (by rw[←List.take_add]);rw[show((la.drop i).take t).length=t by simp only[UD,Vn];omega]at hF;have HF:=zH hF;have HT:=zH ht;clear hF ht;have HS:=zH SL.out.at';by_cases hcc:c0=t
    ·subst hcc;go_wp2_with (first |(go_at_call 9;(with_reducible refine(HF.out).mono ?_);rintro e w5 ⟨rfl,own5,T5,k5,x5⟩));refine⟨⟨i+c0,some ad,0,own5,true,by omega,by omega,by omega,by rw[show la.length - (i+c0)=0 by omega],zH T5,zH ?_⟩,by simp only[MA];omega⟩;rw[List.drop_eq_nil_of_le (by omega)];have:=SL.out.step k5 x5;exact⟨(fun k x hk=>by simp at hk),this.at'⟩
    ·have hci:((t:Int)< (c0:Int)):=by omega
     go_wp2_with (first |(go_at_call 9;(with_reducible refine(HF.out).mono ?_);rintro e w5 ⟨rfl,own5,T5,k5,x5⟩));refine⟨⟨i+t,_,c0 - t,own5,true,by omega,by omega,by omega,by rw[Nat.sub_sub],zH T5,zH ?_⟩,by simp only[MA];omega⟩;have:=(SL.out.step k5 x5).cut t la.length;rw[List.drop_drop,VW (by rw[Vn];omega)]at this;exact this
   ·obtain rfl:i=la.length:=by omega
    rw[PM]at T;have HL:Hid (la.length≤20∧lb.length≤20∧(aA la).length≤la.length∧(aA lb).length≤lb.length∧more.length≤lb.length∧less.length≤la.length∧X.length≤la.length+lb.length):=zH ⟨NA.out.1,NA.out.2,G.out.al,G.out.bl,G.out.ml,G.out.sl,G.out.gl⟩;have T50:=zH T.out;clear T SL T0 S0;go_wp2_with (first
     |(go_at_call 9;(with_reducible refine(Ny T50.out cb (r:=lb) (X:=lb) G.out.b (by have:=HL.out;simp only[Qe];omega) (T50.out.arg RB.out.1 RB.out.2) rfl).mono ?_);rintro e w51 ⟨rfl,own51,U51,k51,x51⟩;have T51:=zH U51;clear T50 U51 k51 x51)
     |(go_at_call 11;(with_reducible refine(GN T51.out (by have:=HL.out;(try simp only[Pu]);omega) rfl).mono ?_);rintro e w52 ⟨A1,c1,rfl,s1,b52⟩;have T52:=zH (T51.out.below b52);replace s1:=zH s1;clear T51 b52)
     |(go_at_call 11;(with_reducible refine(Al T52.out (by have:=HL.out;(try simp only[Pu]);omega) rfl).mono ?_);rintro e w53 ⟨A2,c2,rfl,s2,b53⟩;have T53:=zH (T52.out.below b53);replace s1:=zH (s1.out.below b53);replace s2:=zH s2;clear T52 b53)
     |(go_at_call 10;(with_reducible refine(ND T53.out c1 c2 G.out.ai G.out.bi (by have:=HL.out;(try simp only[Pu]);omega) (by have:=HL.out;(try simp only[Pu]);omega) s1.out s2.out G.out.m).mono ?_);rintro e w54 ⟨A3,c3,rfl,s3,b54⟩;have T54:=zH (T53.out.below b54);replace s3:=zH s3;clear T53 b54 s1 s2)
     |(go_at_call 11;(with_reducible refine(Al T54.out (by have:=HL.out;(try simp only[Pu]);omega) rfl).mono ?_);rintro e w55 ⟨A4,c4,rfl,s4,b55⟩;have T55:=zH (T54.out.below b55);replace s3:=zH (s3.out.below b55);replace s4:=zH s4;clear T54 b55)
     |(go_at_call 11;(with_reducible refine(GN T55.out (by have:=HL.out;(try simp only[Pu]);omega) rfl).mono ?_);rintro e w56 ⟨A5,c5,rfl,s5,b56⟩;have T56:=zH (T55.out.below b56);replace s3:=zH (s3.out.below b56);replace s4:=zH (s4.out.below b56);replace s5:=zH s5;clear T55 b56)
     |(go_at_call 10;(with_reducible refine(ND T56.out c4 c5 G.out.bi G.out.ai (by have:=HL.out;(try simp only[Pu]);omega) (by have:=HL.out;(try simp only[Pu]);omega) s4.out s5.out G.out.s).mono ?_);rintro e w57 ⟨A6,c6,rfl,s6,b57⟩;have T57:=zH (T56.out.below b57);replace s3:=zH (s3.out.below b57);replace s6:=zH s6;clear T56 b57 s4 s5)
     |(go_at_call 9;(with_reducible refine(IP T57.out c3 G.out.mi (by have:=HL.out;(try simp only[Pu]);omega) s3.out rfl).mono ?_);rintro e w58 ⟨rfl,own58,U58,k58,x58⟩;have T58:=zH U58;replace s6:=zH (s6.out.step k58 x58);clear T57 U58 k58 x58 s3)
     |(go_at_call 9;(with_reducible refine(Ny T58.out c6 G.out.si (by have:=HL.out;(try simp only[Pu]);omega) s6.out rfl).mono ?_);rintro e w59 ⟨rfl,own59,U59,k59,x59⟩;have T59:=zH U59;replace s6:=zH (s6.out.step k59 x59);clear T58 U59 k59 x59)
     |(go_at_call 11;(with_reducible refine(GN T59.out (by have:=HL.out;(try simp only[Pu]);omega) G.out.g1).mono ?_);rintro e w60 ⟨A7,c7,rfl,s7,b60⟩;have T60:=zH (T59.out.below b60);replace s6:=zH (s6.out.below b60);replace s7:=zH s7;clear T59 b60)
     |(go_at_call 11;(with_reducible refine(Al T60.out (by have:=HL.out;(try simp only[Pu]);omega) G.out.g2).mono ?_);rintro e w61 ⟨A8,c8,rfl,s8,b61⟩;have T61:=zH (T60.out.below b61);replace s6:=zH (s6.out.below b61);replace s7:=zH (s7.out.below b61);replace s8:=zH s8;clear T60 b61)
     |(go_at_call 12;(with_reducible refine(NG T61.out c7 c8 (by have:=HL.out;(try simp only[Pu]);omega) s7.out s8.out).mono ?_);rintro e w62 ⟨rfl,b62⟩;have T62:=zH (T61.out.below b62);replace s6:=zH (s6.out.below b62);clear T61 b62 s7 s8)
     |(go_at_call 14;(with_reducible refine(NC T62.out (by have:=HL.out;(try simp only[Pu]);omega) G.out.v1).mono ?_);rintro e w63 ⟨v1,rfl,tv1,b63⟩;have T63:=zH (T62.out.below b63);replace s6:=zH (s6.out.below b63);replace tv1:=zH tv1;clear T62 b63)
     |(go_at_call 14;(with_reducible refine(NE T63.out (by have:=HL.out;(try simp only[Pu]);omega) G.out.v2).mono ?_);rintro e w64 ⟨v2,rfl,tv2,b64⟩;have T64:=zH (T63.out.below b64);replace s6:=zH (s6.out.below b64);replace tv1:=zH (tv1.out.below b64);replace tv2:=zH tv2;clear T63 b64)
     |(go_at_call 13;(with_reducible refine(sG tv1.out tv2.out).mono ?_);rintro e w65 ⟨rfl,b65⟩;have T65:=zH (T64.out.below b65);replace s6:=zH (s6.out.below b65);clear T64 b65 tv1 tv2)
     |(go_at_call 14;(with_reducible refine(NC T65.out (by have:=HL.out;(try simp only[Pu]);omega) G.out.v1).mono ?_);rintro e w66 ⟨v3,rfl,tv3,b66⟩;have T66:=zH (T65.out.below b66);replace s6:=zH (s6.out.below b66);replace tv3:=zH tv3;clear T65 b66)
     |(go_at_call 11;(with_reducible refine(GN T66.out (by have:=HL.out;(try simp only[Pu]);omega) G.out.g1).mono ?_);rintro e w67 ⟨A9,c9,rfl,s9,b67⟩;have T67:=zH (T66.out.below b67);replace s6:=zH (s6.out.below b67);replace tv3:=zH (tv3.out.below b67);replace s9:=zH s9;clear T66 b67)
     |(go_at_call 15;(with_reducible refine(NK T67.out c9 G.out.gi (by have:=HL.out;(try simp only[Pu]);omega) s9.out G.out.vg).mono ?_);rintro e w68 ⟨v4,rfl,tv4,b68⟩;have T68:=zH (T67.out.below b68);replace s6:=zH (s6.out.below b68);replace tv3:=zH (tv3.out.below b68);replace tv4:=zH tv4;clear T67 b68 s9)
     |(go_at_call 13;(with_reducible refine(sG tv3.out tv4.out).mono ?_);rintro e w69 ⟨rfl,b69⟩;have T69:=zH (T68.out.below b69);replace s6:=zH (s6.out.below b69);clear T68 b69 tv3 tv4)
     |(go_at_call 11;(with_reducible refine(GN T69.out (by have:=HL.out;(try simp only[Pu]);omega) G.out.g1).mono ?_);rintro e w70 ⟨A10,c10,rfl,s10,b70⟩;have T70:=zH (T69.out.below b70);replace s6:=zH (s6.out.below b70);replace s10:=zH s10;clear T69 b70)
     |(go_at_call 11;(with_reducible refine(Al T70.out (by have:=HL.out;(try simp only[Pu]);omega) G.out.g2).mono ?_);rintro e w71 ⟨A11,c11,rfl,s11,b71⟩;have T71:=zH (T70.out.below b71);replace s6:=zH (s6.out.below b71);replace s10:=zH (s10.out.below b71);replace s11:=zH s11;clear T70 b71)
     |(go_at_call 10;(with_reducible refine(ND T71.out c10 c11 G.out.gi G.out.gi (by have:=HL.out;(try simp only[Pu]);omega) (by have:=HL.out;(try simp only[Pu]);omega) s10.out s11.out G.out.no).mono ?_);rintro e w72 ⟨A12,c12,rfl,s12,b72⟩;have T72:=zH (T71.out.below b72);replace s6:=zH (s6.out.below b72);clear T71 b72 s10 s11)
     |(go_at_call 9;(with_reducible refine(IP T72.out c6 G.out.si (by have:=HL.out;(try simp only[Pu]);omega) s6.out rfl).mono ?_);rintro e w73 ⟨rfl,own73,U73,k73,x73⟩;have T73:=zH U73;clear T72 U73 k73 x73 s6)
     |(go_at_call 11;(with_reducible refine(GN T73.out (by have:=HL.out;(try simp only[Pu]);omega) G.out.g3).mono ?_);rintro e w74 ⟨A13,c13,rfl,s13,b74⟩;have T74:=zH (T73.out.below b74);replace s13:=zH s13;clear T73 b74)
     |(go_at_call 11;(with_reducible refine(Al T74.out (by have:=HL.out;(try simp only[Pu]);omega) G.out.g2).mono ?_);rintro e w75 ⟨A14,c14,rfl,s14,b75⟩;have T75:=zH (T74.out.below b75);replace s13:=zH (s13.out.below b75);replace s14:=zH s14;clear T74 b75)
     |(go_at_call 12;(with_reducible refine(NG T75.out c13 c14 (by have:=HL.out;(try simp only[Pu]);omega) s13.out s14.out).mono ?_);rintro e w76 ⟨rfl,b76⟩;have T76:=zH (T75.out.below b76);clear T75 b76 s13 s14)
     |(go_at_call 14;(with_reducible refine(NC T76.out (by have:=HL.out;(try simp only[Pu]);omega) G.out.v3).mono ?_);rintro e w77 ⟨v5,rfl,tv5,b77⟩;have T77:=zH (T76.out.below b77);replace tv5:=zH tv5;clear T76 b77)
     |(go_at_call 14;(with_reducible refine(NE T77.out (by have:=HL.out;(try simp only[Pu]);omega) G.out.v2).mono ?_);rintro e w78 ⟨v6,rfl,tv6,b78⟩;have T78:=zH (T77.out.below b78);replace tv5:=zH (tv5.out.below b78);replace tv6:=zH tv6;clear T77 b78)
     |(go_at_call 13;(with_reducible refine(sG tv5.out tv6.out).mono ?_);rintro e w79 ⟨rfl,b79⟩;have T79:=zH (T78.out.below b79);clear T78 b79 tv5 tv6)
     |(go_at_call 7;(with_reducible refine(lP _).mono ?_);rintro e w80 ⟨rfl,b80⟩;have T80:=zH (T79.out.below b80);clear T79 b80))
    go_ret;exact⟨rfl,T80.out.b⟩
end
