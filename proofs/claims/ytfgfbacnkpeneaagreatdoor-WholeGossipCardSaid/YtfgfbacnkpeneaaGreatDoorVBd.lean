/- For WholeGossip: contracts of functions and plain laws. -/
import Derived.Test.YtfgfbacnkpeneaaGreatDoorVBc
import Derived.Test.YtfgfbacnkpeneaaGreatDoorVAm
import Derived.WalkMore
import Derived.Deep.AppendSrc
set_option maxRecDepth 100000
set_option maxHeartbeats 4000000
set_option linter.unusedVariables false
set_option linter.unusedSimpArgs false
namespace Go.Proofs.YtfgfbacnkpeneaaGreatDoor
open Go.Proofs.Tryz Go.ChangeShapes Go.WideShapes Go.ChangeAt Go.RowKit Go.Deep
abbrev UG:=@Go.CallsIn.inRound
abbrev U5:=@List.length_singleton
abbrev Vn:=@List.length_drop
abbrev UX:=@List.flatMap_append
abbrev Vm:=@Go.KeepsOthers.setCell
abbrev Vx:=@Nat.mul_one
abbrev Wg:=@List.getElem?_take
abbrev VZ:=@Array.toList_setIfInBounds
theorem Pc{P:Prop}(h:P:=by
 exact⟨_,_,hr,hgr.1,hgr.2,fun k hk=>.inr (by simp[Value.ownBlock]at hk;omega)⟩):P:=h
section
open AvlP BigP
section
variable{own own':Nat→Nat}{b:Nat}{w w':World}
theorem tB(lim:Int)(hl:0≤lim∧lim≤100000)(hO:Ow own w)(hb:0<b):
  Calls prog 8 #[.agg #[.int .i64 lim,.int .i64 lim,.int .i64 0,.int .i64 0]] w fun e w'=>e=.returned (.pointer (some ⟨w.heap.size+3,0,none⟩))∧Below w.heap.size w w'∧
   ∃own',ew own' b w' (w.heap.size+3) (w.heap.size+2) (w.heap.size+1) lim [] 0 (fun _=>0) 0∧aO own own' w:=by
 have hbA:=zB w (.cells #[.int .i64 lim,.int .i64 lim,.int .i64 0,.int .i64 0] 27);have hT0:=Up w (.cells #[.int .i64 lim,.int .i64 lim,.int .i64 0,.int .i64 0] 27);have hsz:(w.alloc (.cells #[.int .i64 lim,.int .i64 lim,.int .i64 0,.int .i64 0] 27)).drew.heap.size=w.heap.size+1:=Pq _ _;have hQ:=DM lim lim hl hl (w.alloc (.cells #[.int .i64 lim,.int .i64 lim,.int .i64 0,.int .i64 0] 27)).drew;simp only[hsz]at hQ;have HQ:=zH hQ;have HBA:=zH hbA.drew;clear hbA hsz hQ;go_enter func8,ntmps8;go_wp2_with fail;refine zr (fun V=>V.heap[w.heap.size]?=some (.cells #[.int .i64 lim,.int .i64 lim,.int .i64 0,.int .i64 0] 27 (0,0))) hT0 fun hS0=>?_;(refine zh hS0 4 5 0 ?_;simp only[zd];((iterate 5 (refine zt (fun W hW=>by have y0:=aa hW;exact zq) ?_;simp only[zp]));refine ac ?_));(refine zo 5 rfl fun K hK=>?_;go_simp);go_at_call 25;(with_reducible refine(HQ.out).mono ?_);rintro e1 w1 ⟨rfl,q1,b1,z1⟩;have n1:=(b1.block w.heap.size (by omega)).trans hS0;go_wp2_with fail;(refine zu hK n1 ?_;clear hK K;try simp only[zp]);(refine zh n1 2 1 6 ?_;simp only[zd];((iterate 1 (refine zU ?_;simp only[zp]));refine ac ?_));(refine zo 7 rfl fun K hK=>?_;go_simp);have n2:=ar n1 (.cells #[.int .i64 lim,.int .i64 lim,.int .i64 0,.int .i64 0,.int .i64 (-9223372036854775808),.pointer none,.int .i64 0,.pointer none,.int .i64 0,.pointer none,.int .i64 0,.pointer (some ⟨w.heap.size+1+1,0,none⟩)] 117);have n3:=Up w1 (.cells #[.int .i64 lim,.int .i64 lim,.int .i64 0,.int .i64 0,.int .i64 (-9223372036854775808),.pointer none,.int .i64 0,.pointer none,.int .i64 0,.pointer none,.int .i64 0,.pointer (some ⟨w.heap.size+1+1,0,none⟩)] 117);have q2:=q1.below (ae (.cells #[.int .i64 lim,.int .i64 lim,.int .i64 0,.int .i64 0,.int .i64 (-9223372036854775808),.pointer none,.int .i64 0,.pointer none,.int .i64 0,.pointer none,.int .i64 0,.pointer (some ⟨w.heap.size+1+1,0,none⟩)] 117) (Pk _ w1));have b2:=ae (.cells #[.int .i64 lim,.int .i64 lim,.int .i64 0,.int .i64 0,.int .i64 (-9223372036854775808),.pointer none,.int .i64 0,.pointer none,.int .i64 0,.pointer none,.int .i64 0,.pointer (some ⟨w.heap.size+1+1,0,none⟩)] 117) (HBA.out.trans (b1.mono (UE _)));have z2:=Pq w1 (.cells #[.int .i64 lim,.int .i64 lim,.int .i64 0,.int .i64 0,.int .i64 (-9223372036854775808),.pointer none,.int .i64 0,.pointer none,.int .i64 0,.pointer none,.int .i64 0,.pointer (some ⟨w.heap.size+1+1,0,none⟩)] 117);go_wp2_with fail;(refine zu hK n2 ?_;clear hK K;try simp only[zp]);(refine zh n2 0 1 8 ?_;simp only[zd];((iterate 1 (refine zU ?_;simp only[zp]));refine ac ?_));(refine ze ?_);go_wp2_with fail;go_ret;have z3:w1.heap.size=w.heap.size+3:=by omega
 rw[z3]at n3 z2;refine⟨rfl,b2,fun x=>if w.heap.size≤x∧x<w.heap.size+4 then b else own x,⟨_,none,none,none,[],[],⟨n3,rfl,rfl,rfl,rfl,rfl,rfl,rfl,rfl,rfl,bM _ _ _ _ _,bM _ _ _ _ _,bM _ _ _ _ _,q2,?_,Pj (by omega),Pj (by omega),Pj (by omega),hb,by simp⟩,fI,by simp,by simp,by simp⟩,?_⟩
 ·intro x hx;show(if w.heap.size≤x∧x<w.heap.size+4 then b else own x)=0;rw[Pm (by omega)];exact hO x (by omega)
 ·intro x hx;show(if w.heap.size≤x∧x<w.heap.size+4 then b else own x)=own x;rw[Pm (by omega)]
end
end
section
open Go.Shelf AvlP
attribute [local go_sem] QA
section
variable{own own':Nat→Nat}{b:Nat}{w w':World}{S Q M:Nat}{lim:Int}{cs:Array Value}{p p' p1 p2 r1 r2:Option Addr}{L L':List (ByteArray×Sp)}{A A':List (ByteArray×Int)}{C C':List (ByteArray×Unit)}{many:Int}{f:Int→Int}
theorem Ds(h:aN own b w S Q M lim cs p p1 p2 L A C many f):Calls prog 63 #[.pointer (some ⟨S,0,none⟩)] w fun e w'=>e=.returned (.func (.func 90) #[] #[.pointer (some ⟨w.heap.size,0,none⟩)])∧w'=w.alloc (.cells #[.pointer (some ⟨S,5,none⟩)] 158):=by
 have HM:=zH (kx h);have HA:=zH (L0 ⟨S,5,none⟩ w);clear h;go_enter func63,ntmps63;go_wp2_with (first |(go_at_call 118;(with_reducible refine(HM.out).mono ?_);rintro e w1 ⟨rfl,rfl⟩) |(go_at_call 45;(with_reducible refine(HA.out).mono ?_);rintro e w2 ⟨rfl,rfl⟩));go_ret;exact⟨rfl,rfl⟩
theorem zN(x:Sp)(w:World):Calls prog 30 #[.agg (SA x)] w fun e w'=>e=.returned (.bool true)∧Below w.heap.size w w':=by
 go_enter func30,ntmps30;go_wp2;go_ret;exact⟨rfl,ae _ (Pk _ _)⟩
theorem zJ(h:aN own b w S Q M lim cs p p1 p2 L A C many f)(hl:L.length≤700000):
  Calls prog 29 #[.pointer (some ⟨S,0,none⟩),.func (.func 30) #[] #[]] w fun e w'=>∃v,e=.returned v∧w'.ownsRow w.heap.size 93 9 v L.length (L.flatMap fun z=>bg z.2)∧Below w.heap.size w w':=by
 refine(PE (n:=9)).1 ?_;refine QR func29 rfl trivial ?_ rfl;simp only[ntmps29,UH,PC,Qe,Nat.reduceAdd,Nat.reduceSub,QH,QI,QJ,QK,PQ,PN];have hAL:=Ds (h.below ((ae (.cells #[.slice none 0 0] 22) (zB w (.cells #[.func (.func 30) #[] #[]] 99)))));obtain⟨T,hp,hTl,hT,hTn,hTs⟩:=h.tr;have hc:=(aa h.box 5).trans h.c5;have hTlen:T.toL.length=L.length:=congrArg _ hTl;have hbw:S<w.heap.size:=am h.box;gi_wp2_with (refine⟨trivial,?_⟩;gi_at_call 63;refine(PE.2 hAL).mono ?_;rintro e w1 ⟨rfl,rfl⟩);have hb1:Below w.heap.size w (((w.alloc (.cells #[.func (.func 30) #[] #[]] 99)).alloc (.cells #[.slice none 0 0] 22)).alloc (.cells #[.pointer (some ⟨S,5,none⟩)] 158)):=zb;obtain⟨W0,hW0⟩:∃W0,W0=((w.alloc (.cells #[.func (.func 30) #[] #[]] 99)).alloc (.cells #[.slice none 0 0] 22)).alloc (.cells #[.pointer (some ⟨S,5,none⟩)] 158):=⟨_,rfl⟩;have hsz:W0.heap.size=w.heap.size+3:=by rw[hW0,Pq,Pq,Pq]
 have hx:W0.cell? ⟨w.heap.size+2,0,none⟩=some (.pointer (some ⟨S,5,none⟩)):=by
  have:=Up ((w.alloc (.cells #[.func (.func 30) #[] #[]] 99)).alloc (.cells #[.slice none 0 0] 22)) (.cells #[.pointer (some ⟨S,5,none⟩)] 158);rw[Pq,Pq]at this;rw[hW0];exact aa this 0
 have hbox:Boxed W0 (w.heap.size+1) 22 (.slice none 0 0):=by
  have:=(R0 (w.alloc (.cells #[.func (.func 30) #[] #[]] 99)) 22 (.slice none 0 0)).alloc (.cells #[.pointer (some ⟨S,5,none⟩)] 158);rw[Pq]at this;rw[hW0];exact this
 have hfb:W0.heap[w.heap.size]?=some (.cells #[.func (.func 30) #[] #[]] 99 (0,0)):=by
  rw[hW0];exact ar (ar (Up w _) _) _
 rw[←hW0]at hb1⊢;have hst:=nm (own:=own) (t:=b+1) 8 (w.heap.size+2) S 5 T W0 hx ((hb1.cell (p:=⟨S,5,none⟩) hbw).trans (hp▸hc)) (hT.below hb1) (hTl▸hTs);obtain⟨i0,hi,hz0,hz1,hz2⟩:=Qm cC;refine Sa rfl (by omega) (gf:=90) (lb:=#[.pointer (some ⟨w.heap.size+2,0,none⟩)]) rfl trivial (QS func90 (by kernel_rfl) rfl) hst
  (fun h k=>fh h k) (fun W l o o' hl' hW h1 h2=>gP (w:=W0) (fun b hb=>Ut (hT.at b hb).2 (by omega)) W l o o' hl' hW h1 h2) (Pk _ _) (fun _=>rfl)
  (fun pre W=>sM w.heap.size (w.heap.size+1) 22 93 9 w List.length (kV fun z=>bg z.2) pre W∧W.heap[w.heap.size]?=some (.cells #[.func (.func 30) #[] #[]] 99 (0,0)))
  (fun _ _ _=>False) ?hI ?hIx ?h0
  (fun z=>uQ 0 93 (bg z.1.2).toArray fun Bx=>{tmps:=#[.pointer (some ⟨S,0,none⟩),.func (.func 30) #[] #[],undef,.pointer (some ⟨w.heap.size,0,none⟩),.slice none 0 0,.pointer (some ⟨w.heap.size+1,0,none⟩),undef,.pointer (some ⟨Bx,0,none⟩),.pointer (some ⟨S,0,none⟩),.func (.func 90) #[] #[.pointer (some ⟨w.heap.size+2,0,none⟩)],.string z.1.1,.agg (SA z.1.2),undef,undef,undef,undef,undef,undef,undef,undef],defers:=[]}) ?hAx ?assign ?body ?done ?stop
 case assign=>
  intro l pre z W K hI hK;gi_wp2;have hs1:=hI.1.2.size;exact hK _ _ ((TD _ _).from _) (bG (n:=W.heap.size) (fun b hb=>by have:=(hT.at b hb).2;omega) (ae _ (Pk _ _))) ⟨(eu (B:=W0.heap.size) (by omega) (Po _)).alloc _ hI.1,ar hI.2 _⟩ ⟨W.heap.size,QZ _,Up _ _,rfl⟩
 case hAx=>exact fun _ _=>jK
 case hIx=>exact fun _=>fun _ _ _ _ hs _ _=>hs
 case stop=>
  exact NT
 case h0=>exact⟨⟨⟨_,hbox,PS _ _ _ _⟩,hb1⟩,hfb⟩
 case hI=>exact(eu (by omega) (Po _)).and fun _ W W' row h hg hr=>aW h hg hr
 case body=>
  rintro l pre z a' W hl' ⟨r,hr'⟩ ⟨⟨⟨v,hv,hr⟩,hb⟩,hfn⟩ ⟨Bx,hBx,bX,rfl⟩ hlen;have hpl:pre.length<700000:=by omega
  simp only[bg]at bX;have f0:=aa hfn 0;have x0:=aa bX;have h1:1≤9 - 1 - 1:=by omega
  gi_wp2_with (first |(refine⟨trivial,?_⟩;gi_at_call 30;refine(UG l (PE.2 (zN z.1.2 W))).mono ?_;rintro e W2 ⟨rfl,g2⟩;have bX2:=af bX g2;have y0:=aa bX2;have hv2:Boxed W2 (w.heap.size+1) 22 v:=af hv g2;have hr2:=au hr g2;have hb2:=hb.trans (g2.mono hb.size);have hf2:=af hfn g2;have hvc:=hv2.cell;have hvf:=hv2.frozen;have hbs:=hb2.size) |(gi_at_builtin;go_loud (refine TW _ rfl _ _ 22 rfl w.heap.size 93 i0 (.agg SZ) 9 88 UF hi hz0 hz1 hz2 rfl (by decide) v _ _ rfl (hr2.alloc _) ⟨W2.heap.size,0,none⟩ 1 1 (bg z.1.2) rfl rfl (cJ W2 _ _) (by simp[bg,Value.oneCell']) (by unfold maxLen;omega) (by omega) (by simp;omega) ?_;intro v' w1 hown' hgrow _;obtain⟨g',cap',rfl⟩:=Qv hown';obtain⟨hv1,hv3,hr3,hk3,hb3⟩:=hv2.appended (by decide) hr2 hb2.size (UE _) hown' hgrow;have hc1:=hv1.cell;have hf1:=hv1.frozen)));have hf3:w1.heap[w.heap.size]?=some (.cells #[.func (.func 30) #[] #[]] 99 (0,0)):=Boxed.kept (Boxed.alloc (show Boxed W2 w.heap.size 99 _ from hf2) _) hgrow (Boxed.not_row (show Boxed W2 w.heap.size 99 _ from hf2) (by decide) hr2);exact⟨(KeepsOthers.trans ⟨g2.size,fun k o h _=>af h g2⟩ hk3).from _,fh (bG (fun b hb'=>(hT.at b hb').2) (g2.mono hb.size)) (bG (fun b hb'=>(hT.at b hb').2) hb3),jm hb2 hb3 hv3 hr3,aw hf3 (by omega) _⟩
 case done=>
  rintro D zs W hD hS ⟨⟨⟨v,hv,hr⟩,hb⟩,_⟩ hK;exact Wu
theorem xq{L:List (ByteArray×Sp)}:(L.flatMap fun z=>bg z.2)=(L.map (·.2)).flatMap bg:=by rw[List.flatMap_map]
theorem Dw{n:Nat}(h:ew own b w S Q M lim L many f n)(hn:n≤700000):Calls prog 11 #[.pointer (some ⟨S,0,none⟩)] w fun e w'=>∃v,e=.returned v∧w'.ownsRow w.heap.size 93 9 v (L.map (·.2)).length ((L.map (·.2)).flatMap bg)∧Below w.heap.size w w':=by
 obtain⟨cs,p,p1,p2,A,C,h,hL,hn1,_,_⟩:=h;have HS:=zH (zJ h (by omega));rw[xq,show L.length=(L.map (·.2)).length by rw[Ur]]at HS;clear h;go_enter func11,ntmps11;go_wp2_with (go_at_call 29;(with_reducible refine(HS.out).mono ?_);rintro e w1 ⟨v,rfl,o1,b1⟩);refine Ux (v:=v) (by simp[results,results11,go_sem]) rfl ?_;exact⟨v,rfl,o1,b1⟩
end
end
section
theorem iT{P:Program}{o:Oper}{a:Act}{K:Act→World→Prop}{Q:Exit→Act→World→Prop}{w:World}(s x:Operand)(t:TypeId)
  (ho:o.op=.call {callee:=.builtin .append,args:=#[s,x],argTypes:=#[t,t]})
  (base:Nat)(e:TypeId)(i:TypeInfo)(z:Value)(size cr:Nat)(ht:P.underlying t=some (.slice e))(hi:P.info? e=some i)(hz:i.zero=some z)
  (hsize:i.size=size)(hby:i.bytes=cr)(hzs:z.cells.size=size)(hsz:0<size)
  (v:Value)(n:Nat)(xs:List Value)(hs:a.eval s=v)(hown:w.ownsRow base e size v n xs)
  (ad:Addr)(m c:Nat)(news:List Value)(hx:a.eval x=.slice (some ad) m c)(hl:news.length=m*size)(hnews:∀j u,news[j]?=some u→w.cell? (ad.add j)=some u)(h1:∀u∈news,u.oneCell'=true)
  (h63:n+m≤maxLen)(hbytes:(n+m)*cr≤140737488355328)(hbase:base≤w.heap.size)
  (h:∀v' w',w'.ownsRow base e size v' (n+m) (xs++news)→w.grownBy w' v.ownBlock→(∀k,v'.ownBlock=some k→v.ownBlock=some k∨w.heap.size≤k)→K (a.put o.dst v') w'):o.wp P a w K Q:=by
 obtain⟨v',w',hr,h2,h3,h4⟩:=gj (P:=P) base t o.type e i z size cr ht hi hz hsize hby hzs hsz v n xs hown ad m c news hl hnews h1 h63 hbytes hbase;unfold Oper.wp execOp;simp only[ho,resolve,invoke,builtin,Sem.run_bind,VP,VY,List.map_toArray,UA,UV,hs,hx,hr];exact h v' w' h2 h3 h4
section
variable{α:Type}{W W' w1:World}{n₀ Bx sz isz:Nat}{T E Ts:TypeId}{oc:α→Value→List Value}{ic:α→List Value}{il:α→Nat}{v v' u:Value}{l:List (α×Value)}{x:α}{tmp:Obj}
structure fV(W:World)(n₀:Nat)(T E:TypeId)(sz isz:Nat)(oc:α→Value→List Value)(ic:α→List Value)(il:α→Nat)(v:Value)(l:List (α×Value)):Prop where
 row:W.ownsRow n₀ T sz v l.length (l.flatMap fun x=>oc x.1 x.2)
 inn:∀x∈l,W.ownsRow n₀ E isz x.2 (il x.1) (ic x.1)∧gb x.2 v
 ap:l.Pairwise fun a b=>gb a.2 b.2
theorem ot(W:World)(n₀:Nat)(T E:TypeId)(sz isz:Nat)(oc:α→Value→List Value)(ic:α→List Value)(il:α→Nat):fV W n₀ T E sz isz oc ic il (.slice none 0 0) []:=
 ⟨PS _ _ _ _,by simp,List.Pairwise.nil⟩
theorem fV.kept{row:Option Nat}(h:fV W n₀ T E sz isz oc ic il v l)(hg:W.grownBy W' row)(h1:v.ownBlock=none∨v.ownBlock≠row)(h2:∀x∈l,x.2.ownBlock=none∨x.2.ownBlock≠row):fV W' n₀ T E sz isz oc ic il v l:=
 ⟨h.row.kept hg h1,fun x hx=>⟨(h.inn x hx).1.kept hg (h2 x hx),(h.inn x hx).2⟩,h.ap⟩
theorem dx{base n s:Nat}{e:TypeId}{xs:List Value}(h:W.ownsRow base e s v n xs){r:Nat}(hr:v.ownBlock=some r):∃cur,W.heap[r]?=some (.cells cur e (0,0)):=by
 rcases h.2 with⟨rfl,_⟩ |⟨g,cap,cur,rfl,_,hg,_⟩
 ·cases hr
 ·cases hr;exact⟨cur,hg⟩
theorem fV.nc{B:Nat}{row:Option Nat}(h:fV W n₀ T E sz isz oc ic il v l)(hg:W.grownBy W' row)(hr:∀r,row=some r→B≤r∧∃o:Obj,W.heap[r]?=some o∧o.isCells=false):fV W' n₀ T E sz isz oc ic il v l:=by
 have key:∀{e:TypeId} {s n:Nat} {xs:List Value} {u:Value},W.ownsRow n₀ e s u n xs→u.ownBlock=none∨u.ownBlock≠row:=fun {e s n xs u} ho=>by
  cases hu:u.ownBlock with
  |none=>exact .inl rfl
  |some r=>
   refine .inr fun er=>?_;obtain⟨cur,hc⟩:=dx ho hu;obtain⟨_,o,h1,h2⟩:=hr r er.symm;rw[hc]at h1;cases h1;cases h2
 exact h.kept hg (key h.row) fun x hx=>key (h.inn x hx).1
theorem vR{n:Nat}(hb:Below n W W')(hn:W.heap.size≤n):W.grownBy W' none:=⟨hb.os,hb.tape,hb.output,hb.size,fun k hk _=>hb.block k (Ut hk hn)⟩
theorem xH(u:Value):u.ownBlock=none∨u.ownBlock≠none:=by cases u.ownBlock<;>simp
theorem fV.below(h:fV W n₀ T E sz isz oc ic il v l)(hb:Below W.heap.size W W'):fV W' n₀ T E sz isz oc ic il v l:=
 h.kept (vR hb (Po _)) (xH v) fun y _=>xH y.2
theorem fV.snoc{H:Nat}(h:fV W n₀ T E sz isz oc ic il v l)(hu:W.ownsRow H E isz u (il x) (ic x))(hn:n₀≤H)(hH:∀k,v.ownBlock=some k→k<H)(hH2:∀y∈l,∀k,y.2.ownBlock=some k→k<H)
  (hown:w1.ownsRow n₀ T sz v' (l.length+1) ((l.flatMap fun x=>oc x.1 x.2)++oc x u))(hg:(W.alloc tmp).grownBy w1 v.ownBlock)(hl:∀k,v'.ownBlock=some k→v.ownBlock=some k∨(W.alloc tmp).heap.size≤k):fV w1 n₀ T E sz isz oc ic il v' (l++[(x,u)]):=by
 have hz:W.heap.size≤(W.alloc tmp).heap.size:=by rw[Pq];exact UE _
 have hub:W.ownsRow n₀ E isz u (il x) (ic x):=by
  refine⟨hu.1,?_⟩;rcases hu.2 with hn0 |⟨g,cap,cur,e,hb,rest⟩
  ·exact .inl hn0
  ·exact .inr ⟨g,cap,cur,e,Pt hn hb,rest⟩
 have hul:∀k,u.ownBlock=some k→H≤k∧k<W.heap.size:=fun k hk=>hu.lt k hk;have auv:gb u v:=fun k h1 h2=>by have:=hul k h1;have:=hH k h2;omega
 refine⟨?_,fun y hy=>?_,?_⟩
 ·have e:(l++[(x,u)]).length=l.length+1:=by simp
  rw[e,UX];simpa using hown
 ·rcases Px.1 hy with hy |hy
  ·obtain⟨i1,i2⟩:=h.inn y hy;exact⟨bO i2.symm i1 hg,(bK i2.symm i1 hz hl).symm⟩
  ·rw[Ql]at hy;subst hy;exact⟨bO auv.symm hub hg,(bK auv.symm hub hz hl).symm⟩
 ·rw[Sc];refine⟨h.ap,by simp,fun a ha b hb=>?_⟩;rw[Ql]at hb;subst hb;exact fun k h1 h2=>by have:=hH2 a ha k h1;have:=hul k h2;omega
theorem fV.lt(h:fV W n₀ T E sz isz oc ic il v l):(∀k,v.ownBlock=some k→k<W.heap.size)∧∀y∈l,∀k,y.2.ownBlock=some k→k<W.heap.size:=
 ⟨fun k hk=>(h.row.lt k hk).2,fun y hy k hk=>((h.inn y hy).1.lt k hk).2⟩
theorem fV.setCell{b:Nat}(h:fV W n₀ T E sz isz oc ic il v l)(hv:v.ownBlock≠some b)(hi:∀y∈l,y.2.ownBlock≠some b)(j:Nat)(z:Value):fV (W.setCell ⟨b,j,none⟩ z) n₀ T E sz isz oc ic il v l:=
 h.kept (row:=some b) ⟨rfl,rfl,rfl,by rw[PK];exact Po _,fun k _ hk=>QF W ⟨b,j,none⟩ k z (fun e=>hk (by rw[show k=b from e]))⟩ (.inr hv) fun y hy=>.inr (hi y hy)
theorem fV.box{Tb:TypeId}{z:Value}(h:fV W n₀ T E sz isz oc ic il v l)(hb:Boxed W Bx Tb z)(h1:Tb≠T)(h2:Tb≠E):v.ownBlock≠some Bx∧∀y∈l,y.2.ownBlock≠some Bx:=by
 have key:∀{e:TypeId} {s n m:Nat} {xs:List Value} {u:Value},W.ownsRow m e s u n xs→Tb≠e→u.ownBlock≠some Bx:=fun {e s n m xs u} ho hne hu=>by
  obtain⟨cur,hc⟩:=dx ho hu;have hb':W.heap[Bx]?=some (.cells #[z] Tb (0,0)):=hb;rw[hc]at hb';cases hb';exact hne rfl
 exact⟨key h.row h1,fun y hy=>key (h.inn y hy).1 h2⟩
theorem fV.low{n₁:Nat}(h:fV W n₀ T E sz isz oc ic il v l)(hn:n₁≤n₀):fV W n₁ T E sz isz oc ic il v l:=
 ⟨aI h.row hn,fun x hx=>⟨aI (h.inn x hx).1 hn,(h.inn x hx).2⟩,h.ap⟩
end
end
section
open Go.Shelf AvlP BigP
attribute [local go_sem] QA
def KT(t:TypeId):Prop:=t=306∨t=9
theorem jo{α:Type}{J:List α→World→Prop}{B:Nat}(hJ:OwnFrom B J){zs:List α}{W W':World}(hb:Below W.heap.size W W')(hj:J zs W):J zs W':=
 hJ zs W W' none hj ⟨hb.os,hb.tape,hb.output,hb.size,fun k hk _=>hb.block k hk⟩ (by simp)
section
variable{t:Nat}{own:Nat→Nat}
theorem pw(a:Addr)(tr id:Int)(w:World):
  Calls prog 231 #[.pointer (some a),.int .i64 tr,.int .i64 id] w fun e w'=>e=.returned (.func (.func 290) #[] #[.pointer (some ⟨w.heap.size,0,none⟩),.pointer (some ⟨w.heap.size+1,0,none⟩),.pointer (some ⟨w.heap.size+2,0,none⟩)])∧w'=((w.alloc (.cells #[.pointer (some a)] 353)).alloc (.cells #[.int .i64 tr] 3)).alloc (.cells #[.int .i64 id] 3):=by
 go_enter func231,ntmps231;go_wp2;go_ret;exact⟨rfl,rfl⟩
theorem mW(n:Nat)(hn:5≤n)(Bx By Bz B q:Nat)(T:AT ByteArray Unit)(tr id:Int)(h1:aB tr)(h2:aB id)(w:World)(hx:w.cell? ⟨Bx,0,none⟩=some (.pointer (some ⟨B,q,none⟩)))(hy:w.cell? ⟨By,0,none⟩=some (.int .i64 tr))(hz:w.cell? ⟨Bz,0,none⟩=some (.int .i64 id))
  (hc:w.cell? ⟨B,q+2,none⟩=some (.pointer T.ptr))(hT:aC AvK.nd own t w T)(hs:aX oS T.toL)(hsz:∀z∈T.toL,z.1.size=24):
  BH n prog 290 #[.pointer (some ⟨Bx,0,none⟩),.pointer (some ⟨By,0,none⟩),.pointer (some ⟨Bz,0,none⟩)] (fun k:{k // k∈aH T.toL tr id}=>#[.int .i64 k.1]) (fun b=>b=By∨b=Bz∨b∈T.blocks) KT (fun ys=>ys.map (·.1)=aH T.toL tr id) (fun _=>True) T.toL.length w:=fun l J Jx W hW hJ hJx hY h0=>by
 refine QR func290 rfl trivial ?_ rfl;simp only[ntmps290,UH,PC,Qe,Nat.reduceAdd,Nat.reduceSub,QH,QI,QJ,QK,PQ,PN];have bxW:=Uy w _ hx;have byW:=Uy w _ hy;have bzW:=Uy w _ hz;have bcW:=Uy w _ hc;have hsW:=hW.size;have b0:=zB W (.cells #[.func (.yield l) #[] #[]] 306);have n0:=Up W (.cells #[.func (.yield l) #[] #[]] 306);have hW0:=hW.trans (b0.mono hsW);have x0:=(hW0.cell bxW).trans hx;gi_wp2;generalize W.alloc (.cells #[.func (.yield l) #[] #[]] 306)=V at b0 n0 hW0 x0⊢;have hzV:W.heap.size<V.heap.size:=am n0;have C0:=fun u:df V.heap.size V=>((u.h.cell (Ut bxW hW0.size)).trans x0);have C1:=fun u:df V.heap.size V=>((u.h.cell (Ut byW hW0.size)).trans ((hW0.cell byW).trans hy));have C2:=fun u:df V.heap.size V=>((u.h.cell (Ut bzW hW0.size)).trans ((hW0.cell bzW).trans hz));have HL:=zH (pu tr id tc h1 h2 rE);unfold tc at HL;gi_wp2;refine Q6.2 ?_;go_step3;go_wp2_with fail;go_step3;go_wp2_with fail;refine dN V.heap.size 6 (by kernel_rfl) (by kernel_rfl) ?_;simp only[UJ,UN,QG,Qo]
 repeat(go_big_quiet_step ((go_at_call 234;exact jV _ (Po _) (HL.out _))))
 refine Vt ?_;intro _ hw';obtain⟨u,hw''⟩:=hw';subst hw'';go_wp2_with (go_at_call 291;(with_reducible refine(ME ⟨B,q+2,none⟩ _ _).mono ?_);rintro e w1 ⟨rfl,rfl⟩);have hu:=u.h;have hV2:Below W.heap.size W ((u.w.alloc (.cells #[.pointer (some ⟨B,q+2,none⟩)] 403)).alloc (.cells #[.string (ee tr (kk id (-9223372036854775808)))] 9)):=((b0.trans (hu.mono b0.size)).alloc (Pt b0.size hu.size) _).alloc (by rw[Pq];have:=hu.size;omega) _;have hws:w.heap.size≤u.w.heap.size:=Pt hW0.size hu.size;have hx2:=aa (ar (Up u.w (.cells #[.pointer (some ⟨B,q+2,none⟩)] 403)) (.cells #[.string (ee tr (kk id (-9223372036854775808)))] 9)) 0;have ny:=Up (u.w.alloc (.cells #[.pointer (some ⟨B,q+2,none⟩)] 403)) (.cells #[.string (ee tr (kk id (-9223372036854775808)))] 9);rw[Pq]at ny;have nb:=ar (ar (af n0 hu) (.cells #[.pointer (some ⟨B,q+2,none⟩)] 403)) (.cells #[.string (ee tr (kk id (-9223372036854775808)))] 9);have hsz2:((u.w.alloc (.cells #[.pointer (some ⟨B,q+2,none⟩)] 403)).alloc (.cells #[.string (ee tr (kk id (-9223372036854775808)))] 9)).heap.size=u.w.heap.size+2:=by rw[Pq,Pq]
 have hw2:=hW.trans (hV2.mono hsW);generalize (u.w.alloc (.cells #[.pointer (some ⟨B,q+2,none⟩)] 403)).alloc (.cells #[.string (ee tr (kk id (-9223372036854775808)))] 9)=W2 at hV2 hx2 ny nb hsz2 hw2⊢;have hst:=ym (own:=own) (t:=t) (n - 1) u.w.heap.size (u.w.heap.size+1) B (q+2) (ee tr (kk id (-9223372036854775808))) T W2 hx2 (aa ny 0) ((hw2.cell bcW).trans hc) (hT.below hw2) hs;have hN:∀(pre:List {z // z∈T.toL}) (m:Nat),m=(aH (pre.map (·.1)) tr id).length→m≤pre.length:=fun pre m e=>by
  rw[e];unfold aH;exact Pt (Vl _ _) (by simp)
 have hWu:W.heap.size≤W2.heap.size:=hV2.size;have hTw:∀b∈T.blocks,b<w.heap.size:=fun b hb=>(hT.at b hb).2;refine(Q6 (n:=n)).1 ?_;refine wpIn_rangeFunc_ownG rfl (by omega) (gf:=331) (lb:=#[.pointer (some ⟨u.w.heap.size,0,none⟩),.pointer (some ⟨u.w.heap.size+1,0,none⟩)]) rfl trivial (QS func331 (by kernel_rfl) rfl) hst
  (fun h k=>fh h k) (fun W l o o' hl' hW h1 h2=>gP (w:=W2) (fun b hb=>hb.elim (fun e=>by omega) (fun hb=>Ut (hTw b hb) (by omega))) W l o o' hl' hW h1 h2) (Pk _ _) (fun _=>rfl)
  (fun pre X=>((∀z∈pre,gY tr id z.1.1≠none)∧∃ys:List {k // k∈aH T.toL tr id},ys.map (·.1)=aH (pre.map (·.1)) tr id∧J ys X)∧X.heap[W.heap.size]?=some (.cells #[.func (.yield l) #[] #[]] 306 (0,0))∧X.heap[u.w.heap.size+1]?=some (.cells #[.string (ee tr (kk id (-9223372036854775808)))] 9 (0,0))∧X.cell? ⟨By,0,none⟩=some (.int .i64 tr)∧X.cell? ⟨Bz,0,none⟩=some (.int .i64 id)∧W2.heap.size≤X.heap.size)
  (fun c pre X=>c=.exit 0∧((∃p z,pre=p++[z]∧gY tr id z.1.1=none∧∃ys:List {k // k∈aH T.toL tr id},ys.map (·.1)=aH (p.map (·.1)) tr id∧J ys X)∨∃ys,Jx ys X)) ?hI ?hIx ?h0
  (fun z=>{tmps:=#[.func (.yield l) #[] #[],.pointer (some ⟨Bx,0,none⟩),.pointer (some ⟨By,0,none⟩),.pointer (some ⟨Bz,0,none⟩),.pointer (some ⟨W.heap.size,0,none⟩),.string z.1.1,undef,undef,undef,undef,undef,undef,.pointer (some ⟨B,q,none⟩),.bool false,.pointer (some ⟨B,q,none⟩),.pointer (some ⟨B,q,none⟩),.pointer (some ⟨B,q+2,none⟩),.int .i64 tr,.int .i64 id,.string (ee tr (kk id (-9223372036854775808))),.func (.func 331) #[] #[.pointer (some ⟨u.w.heap.size,0,none⟩),.pointer (some ⟨u.w.heap.size+1,0,none⟩)],.string z.1.1,.agg #[],undef,undef,undef,undef,undef,undef,undef,undef,undef,undef,undef,undef,undef,undef,undef,undef,undef,undef,undef,undef,undef,undef,undef,undef,undef,undef],defers:=[]}) ?assign ?body ?done ?stop
 case assign=>
  intro l z W K hK;gi_wp2;exact hK
 case h0=>exact⟨⟨by simp,[],rfl,jo hJ hV2 h0⟩,nb,ny,(hw2.cell byW).trans hy,(hw2.cell bzW).trans hz,Po _⟩
 case hI=>
  rintro pre X X' row ⟨⟨i1,ys,i2,i3⟩,i4,i5,i6,i7,i8⟩ hg hr;exact⟨⟨i1,ys,i2,hJ _ _ _ row i3 hg fun r e=>⟨Pt hWu (hr r e).1,(hr r e).2⟩⟩,aW i4 hg hr,aW i5 hg hr,cell_kept i6 hg (fun r e=>(hr r e).2),cell_kept i7 hg (fun r e=>(hr r e).2),Pt i8 hg.size⟩
 case hIx=>
  rintro c pre X X' row ⟨i1,i2⟩ hg hr;refine⟨i1,?_⟩;rcases i2 with⟨p,z,j1,j2,ys,j3,j4⟩ |⟨ys,j1⟩
  ·exact .inl ⟨p,z,j1,j2,ys,j3,hJ _ _ _ row j4 hg fun r e=>⟨Pt hWu (hr r e).1,(hr r e).2⟩⟩
  ·exact .inr ⟨ys,hJx _ _ _ row j1 hg fun r e=>⟨Pt hWu (hr r e).1,(hr r e).2⟩⟩
 case done=>
  rintro D zs X hD hS ⟨⟨i1,ys,i2,i3⟩,i4,i5,i6,i7,i8⟩ hK;have hk:=hJ.putObj (.deferred none) i3 (Pt hWu hD) hK rfl;gi_wp2;refine⟨by simp,.inl ⟨_,_,rfl,UW hK,?_⟩⟩;refine⟨_,(by simp[results,results290,go_sem];rfl),?_⟩;refine⟨⟨_,rfl⟩,.inl ⟨ys,?_,hk⟩⟩;rw[i2,hS,xW hsz h1 h2];rfl
 case stop=>
  rintro D c pre X hD hS ⟨rfl,hcc⟩ hK;gi_wp2;refine⟨by simp,.inl ⟨_,_,rfl,UW hK,?_⟩⟩;refine⟨_,(by simp[results,results290,go_sem];rfl),?_⟩;refine⟨⟨_,rfl⟩,?_⟩;rcases hcc with⟨p,z,rfl,j2,ys,j3,j4⟩ |⟨ys,j1⟩
  ·refine .inl ⟨ys,?_,hJ.putObj (.deferred none) j4 (Pt hWu hD) hK rfl⟩;rw[j3,Eg hs hsz h1 h2 (p:=p.map (·.1)) (z:=z.1) (by have h9:=hS;rw[PU]at h9;exact h9) j2]
  ·exact .inr ⟨ys,trivial,hJx.putObj (.deferred none) j1 (Pt hWu hD) hK rfl⟩
 case body=>
  rintro l' pre z X ⟨⟨i1,ys,i2,i3⟩,i4,i5,i6,i7,i8⟩ hlen;have hzs:=hsz z.1 z.2;have hq1:1≤n - 1 - 1:=by omega
  have HK1:=zH (fun W=>rP z.1.1 W);have HK2:=zH (fun W=>lD (mC z.1.1) W);have HTW:=zH (fun(W W':World) (h:cu (fun b=>b=By∨b=Bz∨b∈T.blocks) W W')=>(show cu (fun b=>b∈T.blocks) W W' from fun b hb=>h b (.inr (.inr hb))));have HBY:=Uy X _ i6;have HBZ:=Uy X _ i7;by_cases hk:sX z.1.1=tr∧tk (mC z.1.1)=id
  ·have hq:gY tr id z.1.1=some (wE (mC z.1.1)):=by unfold gY;rw[Pj hk]
   have hyk:wE (mC z.1.1)∈aH T.toL tr id:=SV.2 ⟨z.1,z.2,hq⟩;have c1:(sX z.1.1==tr)=true:=by simp[hk.1]
   have c2:(tk (mC z.1.1)==id)=true:=by simp[hk.2]
   have hyl:ys.length<T.toL.length:=by
    have e:=congrArg List.length i2;rw[Ur]at e;exact Nat.lt_of_le_of_lt (hN pre _ e) hlen
   have HY:=zH (fun(X2:World) (g:Below X.heap.size X X2)=>hY ys ⟨_,hyk⟩ X2 (jo hJ (g.mono (by omega)) i3) hyl);have HR:=zH (show ∀(p:List {z // z∈T.toL}),(pre++[z]).map (·.1)=pre.map (·.1)++[z.1]from fun _=>by simp);have HI:=zH (Uq i1 i2);clear i1 i2 i3 hyl;gi_wp2_with (first |(refine⟨trivial,?_⟩;gi_at_call 292;refine(UG l' (PE.2 (HK1.out _))).mono ?_;rintro e X1 ⟨rfl,g1⟩) |(refine⟨trivial,?_⟩;gi_at_call 140;refine(UG l' (PE.2 (HK2.out _))).mono ?_;rintro e X2 ⟨rfl,g2⟩;have G2:=g1.trans (g2.mono g1.size);have d1:=(G2.cell (p:=⟨By,0,none⟩) HBY).trans i6;have d2:=(G2.cell (p:=⟨Bz,0,none⟩) HBZ).trans i7;have d3:=af i4 G2;have d4:=aa d3 0;obtain⟨fn,tmps,assign,body,hy,hR⟩:=HY.out _ G2;(try dsimp only at hy)));refine RoundIn.mono (show RoundIn (Fence.wide.inRound l') (n - 1 - 1 - 1) prog l fn tmps assign body X2 _ from⟨trivial,fun c cs _=>hR.2 c cs (room_wide _)⟩) ?_;have hm5:W.heap.size≤u.w.heap.size+1:=by have:=hu.size;omega
   have s2:=G2.size;rintro e X3 (⟨rfl,hj,hkp⟩ |⟨rfl,hj,hkp⟩)
   ·gi_wp2;refine⟨⟨Pt s2 hkp.o.size,fun k o hm hk ho=>hkp.o.same k o (Pt hWu hm) (af hk G2) ho⟩,fun b hb=>?_,⟨?_,⟨_,?_,hj⟩⟩,hkp.t _ _ _ _ (.inl rfl) (Po _) d3,hkp.t _ _ _ _ (.inr rfl) hm5 (af i5 G2),?_,?_,by have:=hkp.o.size;omega⟩
    ·rcases hb with rfl |hb
     ·exact(hkp.t _ _ _ _ (.inr rfl) hm5 (af i5 G2)).trans i5.symm
     ·exact(hkp.f b (.inr (.inr hb))).trans (G2.block b (by have:=hTw b hb;omega))
    ·intro y hy9;rcases Px.1 hy9 with h9 |h9
     ·exact HI.out.1 y h9
     ·rw[Ql.1 h9,hq];exact fun e=>by cases e
    ·rw[PU,HI.out.2,HR.out []];unfold aH;rw[Vj];simp[hq]
    ·exact(VX (a:=⟨By,0,none⟩) (hkp.f By (.inl rfl))).trans d1
    ·exact(VX (a:=⟨Bz,0,none⟩) (hkp.f Bz (.inr (.inl rfl)))).trans d2
   ·gi_wp2;exact⟨⟨Pt s2 hkp.size,fun k o hm hk ho=>hkp.same k o (Pt hWu hm) (af hk G2) ho⟩,rfl,.inr ⟨_,hj⟩⟩
  ·have hq:gY tr id z.1.1=none:=by unfold gY;rw[Pm hk]
   have HE:=zH (show ∀X2,Below X.heap.size X X2→ownPostG W2.heap.size (cu fun b=>b=u.w.heap.size+1∨b∈T.blocks) (fun _ _=>True)
     (fun c pre X=>c=.exit 0∧((∃p z,pre=p++[z]∧gY tr id z.1.1=none∧∃ys:List {k // k∈aH T.toL tr id},ys.map (·.1)=aH (p.map (·.1)) tr id∧J ys X)∨∃ys,Jx ys X)) (pre++[z]) X (.exit 0) {tmps:=#[],defers:=[]} X2 from
    fun X2 g=>⟨⟨g.size,fun k o _ hk _=>af hk g⟩,rfl,.inl ⟨pre,z,rfl,hq,ys,i2,jo hJ (g.mono (by omega)) i3⟩⟩)
   clear i1 i2 i3;rcases Bool.eq_false_or_eq_true (sX z.1.1==tr)with c1 |c1
   ·have c2:(tk (mC z.1.1)==id)=false:=by
     have:sX z.1.1=tr:=by simpa using c1
     simpa[this]using hk
    gi_wp2_with (first |(refine⟨trivial,?_⟩;gi_at_call 292;refine(UG l' (PE.2 (HK1.out _))).mono ?_;rintro e X1 ⟨rfl,g1⟩) |(refine⟨trivial,?_⟩;gi_at_call 140;refine(UG l' (PE.2 (HK2.out _))).mono ?_;rintro e X2 ⟨rfl,g2⟩;have G2:=g1.trans (g2.mono g1.size);have d1:=(G2.cell (p:=⟨By,0,none⟩) HBY).trans i6;have d2:=(G2.cell (p:=⟨Bz,0,none⟩) HBZ).trans i7;have d3:=af i4 G2;have d4:=aa d3 0))
    all_goals (refine⟨fun _ h=>(by cases h),?_⟩;gi_wp2;exact HE.out _ G2)
   ·gi_wp2_with (first |(refine⟨trivial,?_⟩;gi_at_call 292;refine(UG l' (PE.2 (HK1.out _))).mono ?_;rintro e X1 ⟨rfl,g1⟩) |(refine⟨trivial,?_⟩;gi_at_call 140;refine(UG l' (PE.2 (HK2.out _))).mono ?_;rintro e X2 ⟨rfl,g2⟩;have G2:=g1.trans (g2.mono g1.size);have d1:=(G2.cell (p:=⟨By,0,none⟩) HBY).trans i6;have d2:=(G2.cell (p:=⟨Bz,0,none⟩) HBZ).trans i7;have d3:=af i4 G2;have d4:=aa d3 0))
    all_goals (refine⟨fun _ h=>(by cases h),?_⟩;gi_wp2;exact HE.out _ G2)
end
end
section
open Go.Shelf AvlP BigP
attribute [local go_sem] QA
section
variable{t:Nat}{own:Nat→Nat}
theorem Ei{T:TypeId→Prop}{m b j:Nat}{W:World}{cs:Array Value}{ty:TypeId}{fr:Nat×Nat}(hb:W.heap[b]?=some (.cells cs ty fr))(ht:¬T ty)(v:Value):Dc T m W (W.setCell ⟨b,j,none⟩ v):=fun c cs' ty' fr' h1 _ h2=>by
 by_cases e:c=b
 ·subst e;rw[hb]at h2;cases h2;exact absurd h1 ht
 ·exact aw h2 e v
theorem xX(C:List (ByteArray×Unit))(tr id:Int):(aH C tr id).length≤C.length:=by unfold aH;exact Vl _ _
theorem GC(B q:Nat)(p:Option Addr)(C:List (ByteArray×Unit))(tr id:Int)(h1:aB tr)(h2:aB id)(w:World)(hc:w.cell? ⟨B,q+2,none⟩=some (.pointer p))(hC:dm AvK.nd oS own t w p C)(hsz:∀z∈C,z.1.size=24)(hl:C.length≤700000):
  Calls prog 258 #[.pointer (some ⟨B,q,none⟩),.int .i64 tr,.int .i64 id] w fun e w'=>e=.returned (.int .i64 (aH C tr id).length)∧Below w.heap.size w w':=by
 refine(PE (n:=9)).1 ?_;refine QR func258 rfl trivial ?_ rfl;simp only[ntmps258,UH,PC,Qe,Nat.reduceAdd,Nat.reduceSub,QH,QI,QJ,QK,PQ,PN];obtain⟨T,hp,hTl,hT,hTn,hTs⟩:=hC;rw[←hTl]at hsz hl⊢;rw[←hp]at hc;have hkl:=xX T.toL tr id;have bcw:=Uy w _ hc;gi_wp2_with (refine⟨trivial,?_⟩;gi_at_call 231;refine(PE.2 (pw ⟨B,q,none⟩ tr id _)).mono ?_;rintro e w1 ⟨rfl,rfl⟩);have b0:=zB w (.cells #[.int .i64 0] 3);have n0:=Up w (.cells #[.int .i64 0] 3);have s0:=Pq w (.cells #[.int .i64 0] 3);generalize w.alloc (.cells #[.int .i64 0] 3)=V at b0 n0 s0⊢;have a1:=Up V (.cells #[.pointer (some ⟨B,q,none⟩)] 353);have a2:=Up (V.alloc (.cells #[.pointer (some ⟨B,q,none⟩)] 353)) (.cells #[.int .i64 tr] 3);have a3:=Up ((V.alloc (.cells #[.pointer (some ⟨B,q,none⟩)] 353)).alloc (.cells #[.int .i64 tr] 3)) (.cells #[.int .i64 id] 3);have bV:Below w.heap.size w (((V.alloc (.cells #[.pointer (some ⟨B,q,none⟩)] 353)).alloc (.cells #[.int .i64 tr] 3)).alloc (.cells #[.int .i64 id] 3)):=ae _ (ae _ (ae _ b0));have c1:=ar (ar a1 (.cells #[.int .i64 tr] 3)) (.cells #[.int .i64 id] 3);have c2:=ar a2 (.cells #[.int .i64 id] 3);have c0:=ar (ar (ar n0 (.cells #[.pointer (some ⟨B,q,none⟩)] 353)) (.cells #[.int .i64 tr] 3)) (.cells #[.int .i64 id] 3);have s3:(((V.alloc (.cells #[.pointer (some ⟨B,q,none⟩)] 353)).alloc (.cells #[.int .i64 tr] 3)).alloc (.cells #[.int .i64 id] 3)).heap.size=w.heap.size+4:=by rw[Pq,Pq,Pq,s0]
 rw[Pq]at a2;rw[Pq,Pq]at a3;rw[Pq]at c2;simp only[Pq,s0]at c1 c2 a3⊢;generalize ((V.alloc (.cells #[.pointer (some ⟨B,q,none⟩)] 353)).alloc (.cells #[.int .i64 tr] 3)).alloc (.cells #[.int .i64 id] 3)=W0 at c0 c1 c2 a3 bV s3⊢;have hst:=mW (own:=own) (t:=t) 8 (by omega) (w.heap.size+1) (w.heap.size+1+1) (w.heap.size+1+2) B q T tr id h1 h2 W0 (aa c1 0) (aa c2 0) (aa a3 0) ((bV.cell bcw).trans hc) (hT.below bV) (hTl▸hTs) hsz;have hTw:∀b∈T.blocks,b<w.heap.size:=fun b hb=>(hT.at b hb).2;have hne:∀b,(b=w.heap.size+1+1∨b=w.heap.size+1+2∨b∈T.blocks)→b≠w.heap.size:=fun b hb=>by rcases hb with rfl |rfl |hb<;>first |omega |(have:=hTw b hb;omega)
 refine pq (by omega) (gf:=290) (lb:=#[.pointer (some ⟨w.heap.size+1,0,none⟩),.pointer (some ⟨w.heap.size+1+1,0,none⟩),.pointer (some ⟨w.heap.size+1+2,0,none⟩)]) rfl (QS func290 (by kernel_rfl) rfl) hst
  (fun b hb=>by rcases hb with rfl |rfl |hb<;>first |omega |(have:=hTw b hb;omega)) (Pk _ _) (fun _=>rfl)
  (fun pre W=>W.heap[w.heap.size]?=some (.cells #[.int .i64 pre.length] 3 (0,0))∧Below w.heap.size w W) (fun _ _ _=>False) ?hI ?hIx ⟨c0,bV⟩
  (fun z=>{tmps:=#[.pointer (some ⟨B,q,none⟩),.int .i64 tr,.int .i64 id,undef,undef,undef,.int .i64 0,.pointer (some ⟨w.heap.size,0,none⟩),.pointer (some ⟨B,q,none⟩),.int .i64 tr,.int .i64 id,.func (.func 290) #[] #[.pointer (some ⟨w.heap.size+1,0,none⟩),.pointer (some ⟨w.heap.size+1+1,0,none⟩),.pointer (some ⟨w.heap.size+1+2,0,none⟩)],.int .i64 z.1,undef,undef,undef],defers:=[]}) ?assign ?body ?done ?stop
 case assign=>
  intro l z W K hK;gi_wp2;simpa using hK
 case hIx=>exact fun _=>fun _ _ _ _ hs _ _=>hs
 case stop=>
  exact NT
 case hI=>
  rintro pre X X' row ⟨i1,i2⟩ hg hr;exact⟨aW i1 hg hr,i2.grown hg i2.size fun k e=>by have:=(hr k e).1;omega⟩
 case body=>
  rintro l pre z X ⟨i1,i2⟩ hlen;have k0:=aa i1 0;have f0:=ak i1 0;have i3:=aq i1 0 (.int .i64 ((pre.length:Int)+1));gi_wp2;refine⟨(Vm _ _ _).from _,⟨fun b hb=>QF _ _ _ _ (hne b hb),Ei i1 (by unfold KT;decide) _⟩,?_,i2.setCell (p:=⟨w.heap.size,0,none⟩) (Po _) _⟩;simpa using i3
 case done=>
  rintro D zs X hD hS ⟨i1,i2⟩ hK;have k0:=aa i1 0;gi_wp2;refine⟨by simp,.inl ⟨_,_,rfl,UW hK,?_⟩⟩;refine⟨_,VJ rfl _ _ _,?_⟩;refine⟨(show Ending.returned (.int .i64 (zs.length:Int))=_ from nT (by have:=congrArg List.length hS;rw[Ur]at this;rw[this])),?_⟩;exact i2.trans (belowK_b (w:=w) (Po _) X D _ _ (by omega) hK rfl rfl)
end
end
section
open AvlP
def gJ(w:World)(base:Nat)(e:TypeId)(v:Value)(xs:List Value):Prop:=
 (v=.slice none 0 0∧xs=[])∨∃g o c cur,v=.slice (some ⟨g,o,none⟩) xs.length c∧base≤g∧w.heap[g]?=some (.cells cur e (0,0))∧xs.length≤c∧c≤maxLen∧o+c≤cur.size∧(cur.toList.drop o).take xs.length=xs
section
variable{P:Program}{w w':World}{base base':Nat}{e:TypeId}{v:Value}{xs:List Value}
theorem gJ.slice(h:gJ w base e v xs):∃A c,v=.slice A xs.length c∧xs.length≤c:=by
 rcases h with⟨rfl,rfl⟩ |⟨g,o,c,cur,rfl,_,_,h4,_⟩
 ·exact⟨none,0,rfl,Po _⟩
 ·exact⟨_,c,rfl,h4⟩
theorem gJ.lt(h:gJ w base e v xs){b:Nat}(hb:v.ownBlock=some b):base≤b∧b<w.heap.size∧∃cur,w.heap[b]?=some (.cells cur e (0,0)):=by
 rcases h with⟨rfl,rfl⟩ |⟨g,o,c,cur,rfl,h2,h3,_⟩
 ·simp[Value.ownBlock]at hb
 ·have:g=b:=by simpa[Value.ownBlock]using hb
  subst this;exact⟨h2,am h3,cur,h3⟩
theorem gJ.kept(h:gJ w base e v xs)(hk:∀b,v.ownBlock=some b→w'.heap[b]?=w.heap[b]?):gJ w' base e v xs:=by
 rcases h with h |⟨g,o,c,cur,rfl,h2,h3,h4⟩
 ·exact .inl h
 ·exact .inr ⟨g,o,c,cur,rfl,h2,(hk g (by simp[Value.ownBlock])).trans h3,h4⟩
theorem gJ.below(h:gJ w base e v xs)(hb:Below w.heap.size w w'):gJ w' base e v xs:=h.kept fun b hv=>hb.block b (h.lt hv).2.1
theorem Nv{α:Type}(l:List α)(n:Nat)(x:α)(h:n<l.length):(l.set n x).take (n+1)=l.take n++[x]:=by
 rw[List.set_eq_take_append_cons_drop,Pj h,List.take_append,UD];simp[show min n l.length=n by omega,show n+1 - n=1 by omega,List.take_take]
theorem rm(t ty:TypeId)(i:TypeInfo)(z:Value)(cr:Nat)(ht:P.underlying t=some (.slice e))(hi:P.info? e=some i)(hz:i.zero=some z)(hsz:i.size=1)(hby:i.bytes=cr)(hzs:z.cells.size=1)(h:gJ w base e v xs)
  (ad:Addr)(x:Value)(hx:w.cell? ad=some x)(h1x:x.oneCell'=true)(h63:xs.length+1≤maxLen)(hbytes:(xs.length+1)*cr≤140737488355328)(hbase:base≤w.heap.size):
  ∃v' w',(Builtin.append_ #[t,t] ty #[v,.slice (some ad) 1 1]).run P w=.ok v' w'∧gJ w' base e v' (xs++[x])∧w.grownBy w' v.ownBlock∧∀k,v'.ownBlock=some k→v.ownBlock=some k∨w.heap.size≤k:=by
 subst hby;have hsmall:xs.length+1≤9223372036854775807:=by simp only[maxLen]at h63;omega
 have hnew:∀j u,[x][j]?=some u→w.cell? (ad.add j)=some u:=fun j u hu=>by
  cases j with
  |zero=>
   rw[show ad.add 0=ad by unfold Addr.add;split<;>simp_all];simpa using hx.trans hu
  |succ j=>simp at hu
 have hs:Src P i.size t (.slice (some ad) 1 1) 1 [x] w:=Src.ofSlice w ht ad 1 1 [x] (by simp[hsz]) hnew (fun u hu=>by simp at hu;rw[hu];exact h1x);have grown:∀(old:Nat),old<xs.length+1→∀(row:Option Nat),
   gJ (w.drew.alloc (.cells ((xs++[x]).toArray++Builtin.zeroCells z.cells (grownCap w (xs.length+1) old e - (xs.length+1))) e)) base e (.slice (some ⟨w.heap.size,0,none⟩) (xs.length+1) (grownCap w (xs.length+1) old e)) (xs++[x])∧
   w.grownBy (w.drew.alloc (.cells ((xs++[x]).toArray++Builtin.zeroCells z.cells (grownCap w (xs.length+1) old e - (xs.length+1))) e)) row:=by
  intro old ho row;have hge:=grownCap_ge w (xs.length+1) old e;have hcm:grownCap w (xs.length+1) old e≤maxLen:=grownCap_le_maxLen w (xs.length+1) old e h63;refine⟨.inr ⟨w.heap.size,0,_,_,by simp,hbase,Up w.drew _,by simpa using hge,hcm,?_,?_⟩,⟨rfl,rfl,rfl,by simp,fun k hk _=>Sf w.drew _ k hk⟩⟩
  ·simp only[Array.size_append,UH,size_zeroCells,hzs,Pu,PC,Qe];omega
  ·rw[Qo,TU];exact List.take_left
 rcases h with⟨rfl,rfl⟩ |⟨g,o,c,cur,rfl,h2,h3,h4,h5,h6,h7⟩
 ·have hr:=run_append_grow_src (P:=P) w t t ty e i z ht hi hz none 0 0 [] (by simpa using run_firstCells_none (P:=P) w.drew i.size 0 0 0) (.slice (some ad) 1 1) 1 [x] hs (by omega) (by simp) (growslice_fits (by omega) hbytes);have hgr:=grown 0 (by omega) (Value.ownBlock (.slice none 0 0));simp only[Qe,Rf,PQ]at hgr hr⊢;exact Pc
 ·have hcl:∀j,w.cell? ⟨g,j,none⟩=cur[j]?:=fun j=>Se w g j cur e (0,0) h3;by_cases hroom:xs.length+1≤c
  ·have hlt:o+xs.length<cur.size:=by omega
   have hr:=run_append_room_src (P:=P) w t t ty e i ht hi g o xs.length c (.slice (some ad) 1 1) 1 [x] hs hroom
    (fun j hj=>by simp at hj;subst hj;rw[hsz,hcl];simp;omega) (fun j hj=>by simp at hj;subst hj;rw[hsz];exact ak h3 _)
   rw[hsz,Vx]at hr;have e1:w.setCells g (o+xs.length) [x]=w.setCell ⟨g,o+xs.length,none⟩ x:=by simp[World.setCells]
   rw[e1]at hr;refine⟨_,_,hr,.inr ⟨g,o,c,_,by simp,h2,aq h3 _ _,by simpa using hroom,h5,by simpa using h6,?_⟩,⟨rfl,rfl,rfl,by simp,fun k hk hn=>QF w _ k x (fun e=>hn (by simp[Value.ownBlock,e]))⟩,fun k hk=>.inl hk⟩;rw[VZ,List.drop_set,Pm (by omega),show o+xs.length - o=xs.length by omega,Pu,U5,Nv (cur.toList.drop o) xs.length x (by rw[Vn,show cur.toList.length=cur.size from We];omega),h7]
  ·have hold:∀j u,xs[j]?=some u→w.drew.cell? ((⟨g,o,none⟩:Addr).add j)=some u:=fun j u hj=>by
    have e2:(⟨g,o,none⟩:Addr).add j=⟨g,o+j,none⟩:=by unfold Addr.add;split<;>simp_all
    rw[e2];show w.cell? ⟨g,o+j,none⟩=_;have hj':((cur.toList.drop o).take xs.length)[j]?=some u:=by rw[h7];exact hj
    rw[Wg,Pj (Qh.1 hj).1,RS]at hj';rw[hcl];simpa using hj'
   have hr:=run_append_grow_src (P:=P) w t t ty e i z ht hi hz (some ⟨g,o,none⟩) xs.length c xs (run_firstCells_some (P:=P) w.drew i.size xs.length ⟨g,o,none⟩ xs.length c xs (by rw[hsz,Vx]) hold) (.slice (some ad) 1 1) 1 [x] hs (by omega) (by omega) (growslice_fits (by omega) hbytes);have hgr:=grown c (by omega) (Value.ownBlock (.slice (some ⟨g,o,none⟩) xs.length c));exact Pc
theorem mj{F:Fence}{n:Nat}{ops:Array Oper}{rest:List Oper}{o:Oper}{a:Act}{Q:Exit→Act→World→Prop}
  (hg:o.guard=none)(s x:Operand)(t:TypeId)(hop:o.op=Op.call {callee:=Callee.builtin Builtin.append,args:=#[s,x],argTypes:=#[t,t]})
  (base:Nat)(e:TypeId)(i:TypeInfo)(z:Value)(cr:Nat)(h1:P.underlying t=some (.slice e))(h2:P.info? e=some i)(h3:i.zero=some z)(h4:i.size=1)(h5:i.bytes=cr)(h6:z.cells.size=1)
  (v:Value)(xs:List Value)(hs:a.eval s=v)(hown:gJ w base e v xs)(ad:Addr)(u:Value)(hx:a.eval x=.slice (some ad) 1 1)(hc:w.cell? ad=some u)(h1c:u.oneCell'=true)(b1:xs.length+1≤maxLen)(b2:(xs.length+1)*cr≤140737488355328)(b3:base≤w.heap.size)
  (hK:∀v' w',gJ w' base e v' (xs++[u])→w.grownBy w' v.ownBlock→(∀k,v'.ownBlock=some k→v.ownBlock=some k∨w.heap.size≤k)→wpListIn F n P ops Q rest (a.put o.dst v') w'):
  wpListIn F n P ops Q (o::rest) a w:=by
 refine wpListIn_plain hg fun K hK'=>?_;obtain⟨v',w',hrun,r1,r2,r3⟩:=rm (P:=P) t o.type i z cr h1 h2 h3 h4 h5 h6 hown ad u hc h1c b1 b2 b3;unfold Oper.wpIn;refine⟨?_,?_⟩
 ·simp[Oper.about,hop,resolve,Target.leads,VP]
 ·rw[Oper.semAt_plain F _ _ (by rw[hop];intro c hc';cases hc')];simp[execOp,hop,resolve,invoke,builtin,hs,hx,hrun,Result.andThen];exact hK' _ _ (hK v' w' r1 r2 r3)
end
end
