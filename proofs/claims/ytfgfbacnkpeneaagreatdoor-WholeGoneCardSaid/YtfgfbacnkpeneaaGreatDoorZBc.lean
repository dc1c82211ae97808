/- For WholeGone: contracts of functions and plain laws. -/
import Derived.Test.YtfgfbacnkpeneaaGreatDoorZBb
import Derived.Test.YtfgfbacnkpeneaaGreatDoorZAy
import Derived.Test.YtfgfbacnkpeneaaGreatDoorZAz
import Derived.Laws.OwnMore
import Derived.OwnWalk
set_option maxRecDepth 100000
set_option maxHeartbeats 4000000
set_option linter.unusedVariables false
set_option linter.unusedSimpArgs false
namespace Go.Proofs.YtfgfbacnkpeneaaGreatDoor
open Go.Proofs.Tryz Go.ChangeShapes Go.WideShapes Go.ChangeAt Go.RowKit Go.Deep
abbrev Us:=@Go.ownsRow_setCell_other
abbrev UI:=@List.mem_cons_self
abbrev UO:=@List.count_le_length
abbrev US:=@List.filter_cons
abbrev RL:=@Nat.succ_mul
abbrev Vk:=@List.nodup_iff_pairwise_ne
abbrev Vl:=@List.length_filterMap_le
abbrev Vv:=@List.count_cons_self
abbrev VN:=@List.count_pos_iff
abbrev VO:=@Go.Proofs.Tryz.underlying47
abbrev VP:=@Go.Sem.run_pure
abbrev VX:=@Go.World.cell?_of_block
abbrev VY:=@Go.Result.andThen_ok
abbrev Wf:=@List.length_pos_of_mem
theorem OE{P:Prop}(h:P:=by
 go_wp2_with (go_at_call 112;(with_reducible refine(HM.out _).mono ?_);rintro e w1 ⟨rfl,b1⟩);go_ret;exact⟨rfl,ah b1 hb⟩):P:=h
theorem OI{P:Prop}(h:P:=by
 go_wp2_with (go_at_call 101;(with_reducible refine(H1.out).mono ?_);rintro e w2 ⟨rfl,b2⟩);go_ret;exact⟨rfl,b2⟩):P:=h
theorem OT{P:Prop}(h:P:=by
 by_cases e:y=x
 ·subst e;rw[hg.1];simp[nz,h0]
 ·rw[hg.2 y e,h.get];simp[Sh,Qj e]):P:=h
theorem Pe{P:Prop}(h:P:=by
 rw[HT1.out,HT2.out,HT3.out,HP.out.1,HP.out.2.1,HP.out.2.2];simpa using R8.out):P:=h
section
open AvlP
section
variable{β:Type}
def zn(f:β→List Value)(sz n0:Nat)(w:World)(A:Option Addr)(l:List β):Prop:=
 ∀k x,l[k]?=some x→∃g,A=some ⟨g,0,none⟩∧n0≤g∧g<w.heap.size∧∀j u,(f x)[j]?=some u→w.cell? ⟨g,k*sz+j,none⟩=some u
variable{f:β→List Value}{sz n0:Nat}{w w':World}{A:Option Addr}{l:List β}{v:Value}{e:TypeId}
theorem JY(hf:∀x,(f x).length=sz)(l:List β):∀{k:Nat} {x:β},l[k]?=some x→∀j u,(f x)[j]?=some u→(l.flatMap f)[k*sz+j]?=some u:=by
 induction l with
 |nil=>intro k x h;simp at h
 |cons y r ih=>
  intro k x h j u hj;rw[UR];have hjl:j<sz:=by
   have:=(Qh.1 hj).1
   rwa [hf]at this
  cases k with
  |zero=>
   simp only[VK,Option.some.injEq]at h;subst h;rw[Nat.zero_mul,Rf,VM (by rw[hf];exact hjl)];exact hj
  |succ k=>
   rw[Vg (by rw[hf,RL];omega),hf,show(k+1)*sz+j - sz=k*sz+j by rw[RL];omega];exact ih (by simpa using h) j u hj
theorem cK(hf:∀x,(f x).length=sz)(h:w.ownsRow n0 e sz v l.length (l.flatMap f)):∃A c,v=.slice A l.length c∧l.length≤c∧c≤maxLen∧zn f sz n0 w A l∧∀ad,A=some ad→n0≤ad.block∧ad.block<w.heap.size:=by
 rcases fq h with⟨rfl,h0⟩ |⟨g,cap,rfl,h1,h2,h3,h4⟩
 ·have:l=[]:=QW h0;subst this;exact⟨none,0,rfl,by simp,by simp,fun k x hk=>by simp at hk,fun ad e=>by cases e⟩
 ·refine⟨_,cap,rfl,h1,h2,fun k x hk=>⟨g,rfl,h4,h3,fun j u hj=>?_⟩,fun ad e=>by cases e;exact⟨h4,h3⟩⟩;have:=h.cells (g:=g) rfl (k*sz+j) u (JY hf l hk j u hj);have e1:(⟨g,0,none⟩:Addr).add (k*sz+j)=⟨g,k*sz+j,none⟩:=by unfold Addr.add;split<;>simp_all
  rwa [e1]at this
theorem zn.km{F:Nat→Prop}(h:zn f sz n0 w A l)(hk:Km F w w')(hf:∀b,n0≤b→b<w.heap.size→¬F b):zn f sz n0 w' A l:=fun k x hx=>by
 obtain⟨g,e1,h1,h2,h3⟩:=h k x hx;exact⟨g,e1,h1,Ut h2 hk.size,fun j u hj=>(VX (a:=⟨g,k*sz+j,none⟩) (hk.block g h2 (hf g h1 h2))).trans (h3 j u hj)⟩
theorem zn.below(h:zn f sz n0 w A l)(hb:Below w.heap.size w w'):zn f sz n0 w' A l:=fun k x hx=>by
 obtain⟨g,e1,h1,h2,h3⟩:=h k x hx;exact⟨g,e1,h1,Ut h2 hb.size,fun j u hj=>(VX (a:=⟨g,k*sz+j,none⟩) (hb.block g h2)).trans (h3 j u hj)⟩
end
section
variable{t t2:Nat}{own own2:Nat→Nat}{w w':World}{B B2:Nat}{cs cs2:Array Value}{p p2:Option Addr}{L:List (Int×Int)}{all2:Int}{x y:Sm}
def iX(L:List (Int×Int)):Int:=(L.map (·.2)).sum
theorem Do(L:List (Int×Int)){k:Nat}{z:Int×Int}(hk:L[k]?=some z):iX (L.take (k+1))=iX (L.take k)+z.2:=by
 unfold iX;rw[PO,hk];simp
theorem pP(L:List (Int×Int))(h:∀z∈L,0≤z.2):0≤iX L:=by
 unfold iX;induction L with
 |nil=>simp
 |cons a r ih=>
  have h1:=h a (by simp);have h2:=ih fun z hz=>h z (by simp[hz]);simp;omega
theorem Jh(L:List (Int×Int))(h:∀z∈L,0≤z.2)(k:Nat):iX (L.take k)≤iX L:=by
 have e:iX L=iX (L.take k)+iX (L.drop k):=by
  unfold iX;rw[←List.sum_append,←PU,VD]
 have:=pP (L.drop k) fun z hz=>h z (List.mem_of_mem_drop hz);omega
theorem dU(z:Int×Int):(aP z).length=2:=rfl
theorem Ig{L:List (Int×Int)}(hs:aX oN L)(a v:Int)(b:Int):bt (iF L a v) b=if b=a then v else bt L b:=by
 unfold bt iF;by_cases h0:v=0
 ·rw[Pj h0];split
  ·rename_i h;rw[h,(dC oN hs a).1,h0];rfl
  ·rename_i h;rw[(dC oN hs a).2 b h]
 ·rw[Pm h0];split
  ·rename_i h;rw[h,(bm oN hs a v).1];rfl
  ·rename_i h;rw[(bm oN hs a v).2 b h]
theorem FT{L:List (Int×Int)}(hs:aX oN L)(a v:Int):(iF L a v).length≤L.length+1:=by
 unfold iF;split
 ·rw[yK oN hs];omega
 ·rw[cM oN hs];split<;>omega
theorem AO(h:ck own t w B cs p [] 0 x)(hx:x.Ok)(ht:t≠0)(o:ck own2 t2 w B2 cs2 p2 L all2 y)(hy:y.Ok)(hB:B2≠B)(hB2:own B2≠t)(hl:L.length≤100000)(hc:∀z∈L,0≤z.2)(hsum:iX L≤4611686018427387904):
  Calls prog 308 #[.pointer (some ⟨B,0,none⟩),.pointer (some ⟨B2,0,none⟩)] w fun e w'=>(∃v,e=.returned v)∧Kp (fun b=>b=B∨own b=t) w w':=by
 have HB:=zH (oF o (by omega));have HO:=zH (show B2<w.heap.size∧own B2≠t∧w.heap[B2]?=some (.cells cs2 323 (0,0))∧cs2[3]?=some (.int .i64 y.hi)∧cs2[4]?=some (.int .i64 y.lo)from⟨am o.bag.box,hB2,o.bag.box,o.c3,o.c4⟩);have HH:=zH h;have HBO:=zH (fun w=>Er x y hx hy w);have HC:=zH (show(∀z∈L,0≤z.2)∧iX L≤4611686018427387904 from⟨hc,hsum⟩);clear o hB2 h hc hsum hx hy;go_enter func308,ntmps308;go_wp2_with (go_at_call 134;(with_reducible refine(HB.out).mono ?_);rintro e w1 ⟨v1,rfl,o1,b1⟩;obtain⟨A1,c1,rfl,hc1,hm1,R1,_⟩:=cK dU o1;clear o1);have HR1:=zH R1;have HB1:=zH b1;clear R1 b1;go_loopw [15] (fun i wr=>∃k:Nat,k≤L.length∧i=.int .i64 k∧∃own' cs' p' L' all',ck own' t wr B cs' p' L' all' x∧Kp (fun b=>b=B∨own b=t) w1 wr∧aO own own' w1∧all'=iX (L.take k)∧L'.length≤k∧∀b,0≤bt L' b∧bt L' b≤all') (fun i _=>L.length - (intOf i).toNat)
 case atStart=>exact⟨0,by omega,rfl,own,cs,p,[],0,⟨HH.out.bag.below HB1.out,HH.out.size,HH.out.c3,HH.out.c4⟩,Kp.of_below _ (Pk _ _),aO.refl _ _,by simp[iX],by simp,fun b=>by simp[bt,ag]⟩
 case round=>
  obtain⟨wo,rfl⟩:∃wo,wo=wr:=⟨_,rfl⟩;obtain⟨k,hk,rfl,own',cs',p',L',all',hh,hkp,hext,hall,hlen,hcnt⟩:=hrel;by_cases hlt:k<L.length
  ·obtain⟨z,hz⟩:=zg hlt;obtain⟨g,rfl,hg0,hg1,hgc⟩:=HR1.out.km hkp.toKm (fun b hb hb1 hf=>by
    rcases hf with rfl |hf
    ·have:=am HH.out.bag.box;omega
    ·rw[HH.out.bag.ow b hb]at hf;exact ht hf.symm) k z hz
   have d0:wo.cell? ⟨g,k*2,none⟩=some (.int .i64 z.1):=hgc 0 _ rfl;have d1:wo.cell? ⟨g,k*2+1,none⟩=some (.int .i64 z.2):=hgc 1 _ rfl;have hi1:(k:Int)< (L.length:Int):=by omega
   have hz0:=HC.out.1 z (Pv hz);have hst:=Do L hz;have hsl:=Jh L HC.out.1 (k+1);have hsn:=pP (L.take k) fun y hy=>HC.out.1 y (RG hy);have hs2:=HC.out.2;have n0:=Up wo (.cells #[.int .i64 z.1,.int .i64 z.2] 237);have bn:=(zB wo (.cells #[.int .i64 z.1,.int .i64 z.2] 237)).drew;have HAD:=zH (qH (hh.bag.below bn) z.1 z.2 (by omega) ⟨by omega,by omega⟩ ⟨hz0,by omega⟩ (hcnt z.1));have HF:=zH (show ∀own'' cs'' p'' w2,eH own' t (wo.alloc (.cells #[.int .i64 z.1,.int .i64 z.2] 237)).drew w2 B 0 cs' 323 (iF L' z.1 (bt L' z.1+z.2)) (all'+z.2) own'' cs'' p''→
     ∃own' cs' p' L' all',ck own' t w2 B cs' p' L' all' x∧Kp (fun b=>b=B∨own b=t) w1 w2∧aO own own' w1∧all'=iX (L.take (k+1))∧L'.length≤k+1∧(∀b,0≤bt L' b∧bt L' b≤all')∧w2.heap[wo.heap.size]?=some (.cells #[.int .i64 z.1,.int .i64 z.2] 237 (0,0))from fun own'' cs'' p'' w2 post=>by
    have hsr:=hh.bag.tr.srt;have hsz:w1.heap.size≤(wo.alloc (.cells #[.int .i64 z.1,.int .i64 z.2] 237)).drew.heap.size:=Pt hkp.size bn.size;refine⟨own'',cs'',p'',_,_,⟨post.st,post.near.size.trans hh.size,(post.near.far 3 (by omega)).trans hh.c3,(post.near.far 4 (by omega)).trans hh.c4⟩,?_,hext.trans (fun b hb=>post.ext b (Ut hb bn.size)) hkp.size,by rw[hst,hall],by have:=FT hsr z.1 (bt L' z.1+z.2);omega,fun b=>?_,post.kp.toKm.at (show(wo.alloc (.cells #[.int .i64 z.1,.int .i64 z.2] 237)).drew.heap[wo.heap.size]?=_ from n0) (fun hf=>hf.elim (fun e=>by have:=am hh.bag.box;omega) (fun e=>by rw[hh.bag.ow _ (Po _)]at e;exact ht e.symm))⟩
    ·exact(hkp.trans (Kp.of_below _ bn)).trans' post.kp fun b hb hf=>hf.imp id fun e=>by rw[←hext b hb];exact e
    ·rw[Ig hsr];have h1:=hcnt b;have h2:=hcnt z.1;split<;>omega)
   clear hgc hkp hext hh hlen hcnt hst hsl hsn hs2 hz bn hz0 hall;go_wp2_with fail;generalize wo.alloc (.cells #[.int .i64 z.1,.int .i64 z.2] 237)=wx at n0 HAD HF⊢;have c0:=aa n0 0;have c1:=aa n0 1;refine zr (fun V=>V.heap[wo.heap.size]?=some (.cells #[.int .i64 z.1,.int .i64 z.2] 237 (0,0))) n0 fun hS0=>?_;(refine zh hS0 1 7 0 ?_;simp only[zd];((iterate 7 (refine zt (fun W hW=>by have c0:=aa hW 0;have c1:=aa hW 1;exact zq) ?_;simp only[zp]));refine ac ?_));(refine zo 7 rfl fun K hK=>?_;go_simp);go_at_call 223;(with_reducible refine(HAD.out).mono ?_);rintro e2 w2 ⟨own2,cs2',p2',rfl,k2⟩;obtain⟨own3,cs3,p3,L3,all3,k3,k4,k5,k6,k7,k8,k9⟩:=HF.out _ _ _ _ k2;clear k2;go_wp2_with fail;(refine zu hK k9 ?_;clear hK K;try simp only[zp]);(refine ze ?_);go_wp2_with fail;exact⟨⟨k+1,by omega,by go_num,own3,cs3,p3,L3,all3,k3,k4,k5,k6,k7,k8⟩,by simp[intOf];omega⟩
  ·obtain rfl:k=L.length:=by omega
   have HZ:=zH (show wo.heap[B2]?=some (.cells cs2 323 (0,0))from hkp.toKm.at (af HO.out.2.2.1 HB1.out) (fun hf=>hf.elim hB HO.out.2.1));have HK:=zH ((Kp.of_below (fun b=>b=B∨own b=t) HB1.out).trans' hkp fun b _ hf=>hf);have HHB:=zH (show wo.heap[B]?=some (.cells cs' 323 (0,0))∧cs'.size=5∧cs'[3]?=some (.int .i64 x.hi)∧cs'[4]?=some (.int .i64 x.lo)from⟨hh.bag.box,hh.size,hh.c3,hh.c4⟩);clear hkp hext hh hlen hcnt hall;have G3:=fun u:df wo.heap.size wo=>(ox HHB.out.1 (am HHB.out.1) u 3).trans HHB.out.2.2.1;have G4:=fun u:df wo.heap.size wo=>(ox HHB.out.1 (am HHB.out.1) u 4).trans HHB.out.2.2.2;have E3:=fun u:df wo.heap.size wo=>(ox HZ.out (am HZ.out) u 3).trans HO.out.2.2.2.1;have E4:=fun u:df wo.heap.size wo=>(ox HZ.out (am HZ.out) u 4).trans HO.out.2.2.2.2;go_wp2_with fail;refine dN wo.heap.size 12 (by kernel_rfl) (by kernel_rfl) ?_;simp only[UJ,UN,QG,Qo]
   repeat(go_big_quiet_step ((go_at_call 353;exact jV _ (Po _) (HBO.out _))))
   refine Vt ?_;intro _ hw';obtain⟨u,hw''⟩:=hw';subst hw'';have y3:=af HHB.out.1 u.h;have m3:=(aa y3 3).trans HHB.out.2.2.1;have m4:=(aa y3 4).trans HHB.out.2.2.2;have f3:=ak y3;go_wp2_with fail;go_end0;exact⟨⟨_,rfl⟩,((HK.out.trans (Kp.of_below _ u.h)).setCell (b:=B) (fun _=>.inl rfl) _).setCell (b:=B) (fun _=>.inl rfl) _⟩
end
def fe(sv op:ByteArray):ByteArray:=sv++⟨#[0]⟩++op
theorem qC(sv op:ByteArray)(h1:sv.size≤100000)(h2:op.size≤100000)(w:World):
  Calls prog 147 #[.string sv,.string op] w fun e w'=>e=.returned (.string (fe sv op))∧w=w':=by
 have e1:(sv++⟨#[0]⟩:ByteArray).size=sv.size+1:=by rw[QC];rfl
 have g1:(sv++⟨#[0]⟩:ByteArray).size≤maxLen:=by rw[e1];unfold maxLen;omega
 have g2:(sv++⟨#[0]⟩++op:ByteArray).size≤maxLen:=by rw[QC,e1];unfold maxLen;omega
 go_enter func147,ntmps147;exact NR
theorem Aq{t2:Nat}{own2:Nat→Nat}{w:World}{B2:Nat}{cs2:Array Value}{p2:Option Addr}{L:List (Int×Int)}{all2:Int}{y:Sm}(o:ck own2 t2 w B2 cs2 p2 L all2 y)(hy:y.Ok)(hl:L.length≤100000)(hc:∀z∈L,0≤z.2)(hsum:iX L≤4611686018427387904):
  Calls prog 262 #[.pointer (some ⟨B2,0,none⟩)] w fun e w'=>∃b,e=.returned (.pointer (some ⟨b,0,none⟩))∧Below w.heap.size w w':=by
 have hO:Ow (fun _=>0) w:=fun _ _=>rfl;have hb:=zB w (.cells #[.pointer none,.int .i64 0,.int .i64 0,.int .i64 0,.int .i64 0] 323);have o':ck own2 t2 (w.alloc (.cells #[.pointer none,.int .i64 0,.int .i64 0,.int .i64 0,.int .i64 0] 323)) B2 cs2 p2 L all2 y:=⟨o.bag.below hb,o.size,o.c3,o.c4⟩;have hlt:=am o.bag.box;have HM:=zH (AO (yc hO 0 1 (by decide)) (show iR.Ok from by unfold Sm.Ok iR;simp) (by decide) o' hy (by omega) (by unfold dj;split<;>simp) hl hc hsum);have HF:=zH (show ∀w',Kp (fun b=>b=w.heap.size∨dj (fun _=>0) w.heap.size 0 b=1) (w.alloc (.cells #[.pointer none,.int .i64 0,.int .i64 0,.int .i64 0,.int .i64 0] 323)) w'→Below w.heap.size w w' from fun w' k=>hb.trans (k.below (fun b hb hf=>hf.elim (fun e=>by omega) (fun e=>by unfold dj at e;split at e<;>simp at e)) hb.size));clear o o' hy hc hsum hlt hO hb;go_enter func262,ntmps262;go_wp2_with (first |(go_at_call 149;(with_reducible refine(yd _).mono ?_);rintro e w1 ⟨rfl,rfl⟩) |(go_at_call 308;(with_reducible refine(HM.out).mono ?_);rintro e w2 ⟨⟨v,rfl⟩,k2⟩));go_ret;exact⟨_,rfl,HF.out _ k2⟩
theorem Gc(x:Sp)(hx:x.In)(w:World):Calls prog 260 #[.agg (SA x)] w fun e w'=>e=.returned (.bool false)∧Below w.heap.size w w':=by
 have hM:=fun w1=>lH x hx.ok w1;rw[show CodeP.may (dG x)=0 by unfold CodeP.may;rw[hx.may];rfl]at hM;have HM:=zH hM;have nn:=Up w (.cells (SA x) 93);have hb:=zB w (.cells (SA x) 93);have y0:=aa nn;clear hM;go_enter func260,ntmps260;exact OE
theorem Be(x:Sp)(hx:x.In)(w:World):Calls prog 238 #[.agg (SA x)] w fun e w'=>e=.returned (.bool false)∧Below w.heap.size w w':=by
 have hM:=fun w1=>lH x hx.ok w1;rw[show CodeP.may (dG x)=0 by unfold CodeP.may;rw[hx.may];rfl]at hM;have HM:=zH hM;have nn:=Up w (.cells (SA x) 93);have hb:=zB w (.cells (SA x) 93);have y0:=aa nn;clear hM;go_enter func238,ntmps238;exact OE
theorem Cn(A:Option Addr)(c:Nat)(l:List Sp)(hl:∀x∈l,x.In)(hm:l.length≤700000)(w:World)(hr:cm w w.heap.size A l):
  Calls prog 187 #[.slice A l.length c] w fun e w'=>e=.returned (.bool true)∧Below w.heap.size w w':=by
 have h1:=yP A c l (fun _=>false) (by unfold maxLen;omega) w hr (fun x hx W _=>Gc x (hl x hx) W);rw[show l.any (fun _=>false)=false by simp]at h1;have H1:=zH h1;clear h1 hr hl;go_enter func187,ntmps187;exact OI
theorem uB(A:Option Addr)(c:Nat)(l:List Sp)(hl:∀x∈l,x.In)(hm:l.length≤700000)(w:World)(hr:cm w w.heap.size A l):
  Calls prog 160 #[.slice A l.length c] w fun e w'=>e=.returned (.bool true)∧Below w.heap.size w w':=by
 have h1:=yQ A c l (fun _=>false) (by unfold maxLen;omega) w hr (fun x hx W _=>Be x (hl x hx) W);rw[show l.any (fun _=>false)=false by simp]at h1;have H1:=zH h1;clear h1 hr hl;go_enter func160,ntmps160;exact OI
def nz(n:Nat):Option Int:=if n=0 then none else some (n:Int)
theorem rD(n:Nat):(nz n).getD 0=n:=by
 unfold nz;split<;>simp_all
structure bL(L:List (Int×Int))(l:List Int):Prop where
 srt:aX oN L
 get:∀x,ag oN L x=nz (l.count x)
theorem dF:bL [] []:=⟨fH oN,fun x=>by simp[ag,nz]⟩
theorem bL.cnt{L:List (Int×Int)}{l:List Int}(h:bL L l)(x:Int):bt L x=l.count x:=by
 unfold bt;rw[h.get,rD]
theorem bL.perm{L:List (Int×Int)}{l l':List Int}(h:bL L l)(hp:l.Perm l'):bL L l':=⟨h.srt,fun x=>by rw[h.get,hp.count_eq]⟩
theorem bL.eq{L L':List (Int×Int)}{l l':List Int}(h:bL L l)(h':bL L' l')(hp:l.Perm l'):L=L':=
 ky oN h.srt h'.srt fun k=>by rw[h.get,h'.get,hp.count_eq]
theorem bL.add{L:List (Int×Int)}{l:List Int}(h:bL L l)(x:Int):bL (iF L x (bt L x+1)) (x::l):=by
 rw[h.cnt];unfold iF;rw[Pm (by omega)];have hg:=bm oN h.srt x (((l.count x:Nat):Int)+1);refine⟨dR oN h.srt x _,fun y=>?_⟩;by_cases e:y=x
 ·subst e;rw[hg.1];simp[nz]
 ·rw[hg.2 y e,h.get];simp[Sh,Qj e]
theorem bL.take{L:List (Int×Int)}{l:List Int}(x:Int)(h:bL L (x::l)):bL (iF L x (bt L x - 1)) l:=by
 rw[h.cnt];unfold iF;by_cases h0:l.count x=0
 ·rw[Pj (by simp[h0])];have hg:=dC oN h.srt x;refine⟨lG oN h.srt x,fun y=>?_⟩;exact OT
 ·rw[Pm (by simp;omega)];have hg:=bm oN h.srt x ((((x::l).count x:Nat):Int) - 1);refine⟨dR oN h.srt x _,fun y=>?_⟩;exact OT
theorem eT{α:Type}[DecidableEq α]:∀{a l:List α},a.Nodup→(∀x∈a,x∈l)→a.length≤l.length
 |[],_,_,_=>QZ _
 |x::a,l,hn,hs=>by
  have hx:=hs x (UI ..);have hn':=PV.1 hn;have ih:=eT (l:=l.erase x) hn'.2 (fun y hy=>(List.mem_erase_of_ne (fun e=>hn'.1 (by rw[←e];exact hy))).2 (hs y (Qf _ hy)));rw[List.length_erase_of_mem hx]at ih;have:=Wf hx;rw[PC];omega
theorem bL.len{L:List (Int×Int)}{l:List Int}(h:bL L l):L.length≤l.length:=by
 have hn:(L.map (·.1)).Nodup:=by
  rw[Vk,Q9];exact h.srt.imp fun {a b} hab e=>by
   simp only[oN,P7]at hab;omega
 have hs:∀x∈L.map (·.1),x∈l:=fun x hx=>by
  obtain⟨⟨k,v⟩,hm,rfl⟩:=Uu.1 hx;have:=(ax oN h.srt).2 hm;rw[h.get]at this;unfold nz at this;split at this
  ·cases this
  ·rename_i hc;exact VN.1 (by simp only at hc⊢;omega)
 have:=eT hn hs
 rwa [Ur]at this
def gC(x:Pl):Kd:=(x.cl,x.de,x.fa)
def bT(l:List Pl):List Int:=(l.filter fun x=>decide (0<x.de)).map (·.de)
def cZ(l:List Pl):List Int:=l.map (·.fa)
def eC(w:World)(M:Nat)(f:Kd→Int):Prop:=∃g:Kd→Option Int,cF prog 341 Ej AJ iV w M g∧∀t,(g t).getD 0=f t
section
variable{w w':World}{M:Nat}{f:Kd→Int}
theorem eC.lt(h:eC w M f):M<w.heap.size:=by
 obtain⟨g,hm,_⟩:=h;exact hm.lt
theorem eC.kp{F:Nat→Prop}(h:eC w M f)(hk:Km F w w')(hf:¬F M):eC w' M f:=by
 exact OU
theorem eC.below(h:eC w M f)(hb:Below w.heap.size w w'):eC w' M f:=by
 exact OV
theorem tY(w:World):eC (w.alloc (.map #[] 0)) w.heap.size (fun _=>0):=⟨_,gy w,fun _=>rfl⟩
theorem eC.look(h:eC w M f){a:Kd}(ha:AJ a):(Instr.lookup 47 (.map (some M)) (Ej a) false).run prog w=.ok (.int .i64 (f a)) w:=by
 obtain⟨g,hm,hg⟩:=h;have:=hm.look Gl VO ha (fG w) false;rw[gz,hg]at this;exact this
theorem eC.del(h:eC w M f){a:Kd}(ha:AJ a)(h0:f a=0)(ty:TypeId):∃w',(Builtin.delete_ #[47,341] ty #[.map (some M),Ej a]).run prog w=.ok (.tuple #[]) w'∧eC w' M f∧Km (fun b=>b=M) w w'∧w'.heap.size=w.heap.size:=by
 obtain⟨g,hm,hg⟩:=h;obtain⟨w',h1,h2,h3,h4⟩:=hm.del Gl VO ha ty;exact⟨w',h1,⟨_,h2,fun t=>by
  show(if t=a then _ else _:Option Int).getD 0=_;split
  ·rename_i e;rw[e,h0];rfl
  ·exact hg t⟩,h3,h4⟩
theorem eC.entry(h:eC w M f){a:Kd}(ha:AJ a):∃(v st:Value) (w1:World),(Instr.mapEntry 47 (.map (some M)) (Ej a)).run prog w=.ok (.tuple #[v,st]) w1∧eC w1 M f∧Km (fun b=>b=M) w w1∧w1.heap.size=w.heap.size∧
  ∀(w2:World) (b:Int),w2.heap[M]?=w1.heap[M]?→∃w',(Instr.entryStore 47 (.map (some M)) st (.int .i64 b)).run prog w2=.ok () w'∧eC w' M (fun x=>if x=a then b else f x)∧Km (fun b=>b=M) w2 w'∧w'.heap.size=w2.heap.size:=by
 obtain⟨g,hm,hg⟩:=h;obtain⟨st,w1,h1,h2,h3,h4,h5⟩:=hm.entry Gl VO ha (zbq:=0) fG;refine⟨_,_,w1,h1,⟨_,h2,fun t=>?_⟩,h3,h4,fun w2 b hw2=>?_⟩
 ·show(if t=a then _ else _:Option Int).getD 0=_;split
  ·rename_i e;rw[e,←hg];rfl
  ·exact hg t
 ·obtain⟨w',k1,k2,k3,k4⟩:=h5 w2 b hw2;exact⟨w',k1,⟨_,k2,fun t=>by
   show(if t=a then _ else _:Option Int).getD 0=if t=a then _ else _
   split
   ·rfl
   ·exact hg t⟩,k3,k4⟩
end
def iB(l:List Pl)(a:Kd):Int:=((l.map gC).count a:Nat)
def bH(l:List Pl)(a:Int):Int:=((l.map (·.cl)).count a:Nat)
theorem rS(x:Pl)(l:List Pl):iB (x::l)=fun a=>if a=gC x then iB l (gC x)+1 else iB l a:=funext fun a=>by
 unfold iB;rw[UA,Sh];by_cases e:a=gC x
 ·subst e;simp
 ·simp[e,Qj e]
theorem yX(x:Pl)(l:List Pl):bH (x::l)=fun a=>if a=x.cl then bH l x.cl+1 else bH l a:=funext fun a=>by
 unfold bH;rw[UA,Sh];by_cases e:a=x.cl
 ·subst e;simp
 ·simp[e,Qj e]
theorem rR{l l':List Pl}(h:l.Perm l'):iB l=iB l':=funext fun a=>by
 unfold iB;rw[(h.map gC).count_eq]
theorem Il{l l':List Pl}(h:l.Perm l'):bH l=bH l':=funext fun a=>by
 unfold bH;rw[(h.map (·.cl)).count_eq]
structure Pl.Vd(x:Pl):Prop where
 cl:aB x.cl
 de:aB x.de
 fa:aB x.fa
theorem Pl.Vd.kd{x:Pl}(h:x.Vd):AJ (gC x):=⟨gg h.cl,gg h.de,gg h.fa⟩
structure ga(own:Nat→Nat)(tD tF:Nat)(w:World)(B q:Nat)(cs:Array Value)(ty:TypeId)(K C:Nat)(pD pF:Option Addr)(LD LF:List (Int×Int))(l:List Pl):Prop where
 c0:cs[q]?=some (.map (some K))
 c1:cs[q+1]?=some (.map (some C))
 mkd:eC w K (iB l)
 mcl:iw w C (bH l)
 bd:bD own tD w B (q+2) cs ty pD LD ((bT l).length:Nat)
 bf:bD own tF w B (q+5) cs ty pF LF ((cZ l).length:Nat)
 td:bL LD (bT l)
 tf:bL LF (cZ l)
section
variable{own own':Nat→Nat}{t:Nat}{w w':World}{v:Nat}{l l':List Int}
def fY(own:Nat→Nat)(t:Nat)(w:World)(v:Nat)(l:List Int):Prop:=
 ∃cs p L,ck own t w v cs p L (l.length:Nat) (jN (kL l))∧bL L (l.map cd)
theorem fY.perm(h:fY own t w v l)(hp:l.Perm l'):fY own t w v l':=by
 obtain⟨cs,p,L,h1,h2⟩:=h;exact⟨cs,p,L,by rw[←hp.length_eq,←uE hp];exact h1,h2.perm (hp.map _)⟩
theorem ni(hl:l.length≤100000):0≤kL l∧kL l≤100000*4611686018427387904:=by
 have:=Kc l;omega
theorem G5(hl:l.length≤100000):(jN (kL l)).Ok:=by
 have:=ni hl;exact Jp this.1 (by omega)
theorem G6(h:fY own t w v l)(hl:l.length≤100000)(d:Int):
  Calls prog 151 #[.pointer (some ⟨v,0,none⟩),.int .i64 d] w fun e w'=>∃own',(∃u,e=.returned u)∧fY own' t w' v (d::l)∧Kp (fun b=>b=v∨own b=t) w w'∧aO own own' w:=by
 obtain⟨cs,p,L,h1,h2⟩:=h;have hs:=ni hl;have hd:=iO d;have hlen:=h2.len;rw[Ur]at hlen;have hc:=h2.cnt (cd d);have hcl:=UO (a:=cd d) (l:=l.map cd);rw[Ur]at hcl;refine(G1 h1 d (G5 hl) (by omega) (by omega) (by omega)).mono ?_;rintro e w' ⟨own1,cs1,p1,hu,h3,k,x⟩;rw[CZ hs.1 (by omega),←dJ]at h3;exact⟨own1,hu,⟨cs1,p1,_,by simpa using h3,by simpa using h2.add (cd d)⟩,k,x⟩
theorem JX(d:Int)(h:fY own t w v (d::l))(hl:l.length≤90000):
  Calls prog 309 #[.pointer (some ⟨v,0,none⟩),.int .i64 d] w fun e w'=>∃own',e=.returned (.bool true)∧fY own' t w' v l∧Kp (fun b=>b=v∨own b=t) w w'∧aO own own' w:=by
 obtain⟨cs,p,L,h1,h2⟩:=h;have hs:=ni (l:=l) (by omega);have hd:=iO d;have hlen:=h2.len;rw[Ur,PC]at hlen;have hc:=h2.cnt (cd d);have hcl:=UO (a:=cd d) (l:=(d::l).map cd);have hc1:1≤((d::l).map cd).count (cd d):=by rw[UA,Vv];omega
 rw[Ur]at hcl;refine(Es h1 d (G5 (l:=d::l) (by simp;omega)) (by omega) (by simp;omega) (by omega) (by rw[dJ];exact Gy hs.1 (by omega))).mono ?_;rintro e w' ⟨own1,cs1,p1,rfl,h3,k,x⟩;rw[dJ,Ji hs.1]at h3;exact⟨own1,rfl,⟨cs1,p1,_,by simpa using h3,h2.take (cd d)⟩,k,x⟩
end
end
section
theorem gj{P:Program}{w:World}(base:Nat)(t ty e:TypeId)(i:TypeInfo)(z:Value)(size cr:Nat)(ht:P.underlying t=some (.slice e))(hi:P.info? e=some i)(hz:i.zero=some z)
  (hsize:i.size=size)(hby:i.bytes=cr)(hzs:z.cells.size=size)(hsz:0<size)(v:Value)(n:Nat)(xs:List Value)(hown:w.ownsRow base e size v n xs)
  (a:Addr)(m c:Nat)(news:List Value)(hl:news.length=m*size)(hnews:∀j u,news[j]?=some u→w.cell? (a.add j)=some u)(h1:∀u∈news,u.oneCell'=true)
  (h63:n+m≤maxLen)(hbytes:(n+m)*cr≤140737488355328)(hbase:base≤w.heap.size):
  ∃v' w',(Builtin.append_ #[t,t] ty #[v,.slice (some a) m c]).run P w=.ok v' w'∧w'.ownsRow base e size v' (n+m) (xs++news)∧w.grownBy w' v.ownBlock∧(∀k,v'.ownBlock=some k→v.ownBlock=some k∨w.heap.size≤k):=by
 obtain⟨v',w',hr,h2,h3,_⟩:=run_append_own (P:=P) w base t ty e i z size cr ht hi hz hsize hby hzs hsz v n xs hown a m c news hl hnews h1 h63 hbytes hbase;refine⟨v',w',hr,h2,h3,fun k hk=>?_⟩;rcases hown.2 with⟨rfl,rfl⟩ |⟨g,cap,cur,rfl,hbg,hg,hnc,hcm,hcs,htake⟩
 ·have hx:xs=[]:=QW (by simpa using hown.1);subst hx;obtain⟨v2,w2,hr2,k2,_,_⟩:=run_append_own (P:=P) w w.heap.size t ty e i z size cr ht hi hz hsize hby hzs hsz (.slice none 0 0) 0 [] (PS _ _ _ _) a m c news hl hnews h1 h63 hbytes (Po _);rw[hr]at hr2;cases hr2;exact .inr (k2.lt k hk).1
 ·by_cases hroom:n+m≤cap
  ·obtain⟨w2,hr2,_,_⟩:=run_append_fits (P:=P) w base t ty e i size ht hi hsize g n cap xs hown a m c news hl hnews h1 hroom;rw[hr]at hr2;cases hr2;exact .inl hk
  ·subst hsize;have hr2:=run_append_grow (P:=P) w t ty e i z ht hi hz ⟨g,0,none⟩ n cap xs hown.1 (hown.cells (g:=g) rfl) a m c news hl hnews (by omega) (by simp only[maxLen]at h63;omega) (growslice_fits (by omega) (by rw[hby];exact hbytes));rw[hr]at hr2;cases hr2;simp[Value.ownBlock]at hk;exact .inr (by omega)
theorem aM{P:Program}{ops:Array Oper}{rest:List Oper}{o:Oper}{a:Act}{Q:Exit→Act→World→Prop}{w:World}(hgd:o.guard=none)(s x:Operand)(t:TypeId)
  (ho:o.op=.call {callee:=.builtin .append,args:=#[s,x],argTypes:=#[t,t]})
  (base:Nat)(e:TypeId)(i:TypeInfo)(z:Value)(size cr:Nat)(ht:P.underlying t=some (.slice e))(hi:P.info? e=some i)(hz:i.zero=some z)
  (hsize:i.size=size)(hby:i.bytes=cr)(hzs:z.cells.size=size)(hsz:0<size)
  (v:Value)(n:Nat)(xs:List Value)(hs:a.eval s=v)(hown:w.ownsRow base e size v n xs)
  (ad:Addr)(m c:Nat)(news:List Value)(hx:a.eval x=.slice (some ad) m c)(hl:news.length=m*size)(hnews:∀j u,news[j]?=some u→w.cell? (ad.add j)=some u)(h1:∀u∈news,u.oneCell'=true)
  (h63:n+m≤maxLen)(hbytes:(n+m)*cr≤140737488355328)(hbase:base≤w.heap.size)
  (h:∀v' w',w'.ownsRow base e size v' (n+m) (xs++news)→w.grownBy w' v.ownBlock→(∀k,v'.ownBlock=some k→v.ownBlock=some k∨w.heap.size≤k)→wpList P ops Q rest (a.put o.dst v') w'):wpList P ops Q (o::rest) a w:=by
 refine SU hgd fun K hK=>?_;obtain⟨v',w',hr,h2,h3,h4⟩:=gj (P:=P) base t o.type e i z size cr ht hi hz hsize hby hzs hsz v n xs hown ad m c news hl hnews h1 h63 hbytes hbase;unfold Oper.wp execOp;simp only[ho,resolve,invoke,builtin,Sem.run_bind,VP,VY,List.map_toArray,UA,UV,hs,hx,hr];exact hK _ _ (h v' w' h2 h3 h4)
theorem bj(W:World)(cs:List Value)(T:TypeId)(H:Nat)(hH:W.heap.size=H):∀j u,cs[j]?=some u→(W.alloc (.cells cs.toArray T)).cell? ((⟨H,0,none⟩:Addr).add j)=some u:=by
 subst hH;exact cJ W cs T
def gb(v u:Value):Prop:=∀k,v.ownBlock=some k→u.ownBlock≠some k
theorem gb.symm{v u:Value}(h:gb v u):gb u v:=fun k h1 h2=>h k h2 h1
theorem ki(v:Value):gb v (.slice none 0 0):=fun k _ h=>by simp[Value.ownBlock]at h
theorem bK{W:World}{v v' u:Value}{base n sz:Nat}{e:TypeId}{xs:List Value}{H:Nat}(h:gb v u)(hu:W.ownsRow base e sz u n xs)(hH:W.heap.size≤H)(hd:∀k,v'.ownBlock=some k→v.ownBlock=some k∨H≤k):gb v' u:=fun k h1 h2=>by
 rcases hd k h1 with h3 |h3
 ·exact h k h3 h2
 ·have:=(hu.lt k h2).2;omega
theorem bO{W w1:World}{v u:Value}{base n sz:Nat}{e:TypeId}{xs:List Value}{tmp:Obj}(h:gb v u)(hu:W.ownsRow base e sz u n xs)(hg:(W.alloc tmp).grownBy w1 v.ownBlock):w1.ownsRow base e sz u n xs:=by
 refine(hu.alloc tmp).kept hg ?_;rcases hu.2 with⟨rfl,_⟩ |⟨g,cap,cur,rfl,_⟩
 ·exact .inl rfl
 ·exact .inr fun e'=>h g (by rw[←e'];rfl) rfl
theorem aS{W w1:World}{v:Value}{b:Nat}{o:Obj}{tmp:Obj}(hb:W.heap[b]?=some o)(hv:v.ownBlock≠some b)(hg:(W.alloc tmp).grownBy w1 v.ownBlock):w1.heap[b]?=some o:=
 (hg.block b (by rw[Pq];exact Nat.lt_succ_of_lt (am hb)) (fun e=>hv e.symm)).trans (ar hb tmp)
end
section
open AvlP BigP
theorem Km.grown{F:Nat→Prop}{u v w':World}{row:Option Nat}{tmp:Obj}(h:Km F u v)(hg:(v.alloc tmp).grownBy w' row)(hr:∀k,row=some k→u.heap.size≤k):Km F u w':=
 ⟨hg.os.trans h.os,hg.tape.trans h.tape,hg.output.trans h.output,Pt h.size (Pt (by rw[Pq];exact UE _) hg.size),
  fun b hb hf=>((hg.block b (by rw[Pq];exact Nat.lt_succ_of_lt (Ut hb h.size)) (fun e=>by have:=hr b e.symm;omega)).trans (Sf v tmp b (Ut hb h.size))).trans (h.block b hb hf)⟩
def eK(L:List (ByteArray×Sp))(x:Sp):Bool:=match ag oS L (aj x)with |none=>true |some old=>mG x old
def qq(L:List (ByteArray×Sp))(x:Sp):Bool:=(ag oS L (aj x)).isNone
def jW(L:List (ByteArray×Sp))(x:Sp):Option Sp:=match ag oS L (aj x)with |none=>none |some old=>if mG x old=true then some old else none
theorem vQ(L:List (ByteArray×Sp))(l:List Sp):nu L l=(aA l).filter (eK L):=rfl
theorem JD(L:List (ByteArray×Sp))(l:List Sp):ly L l=(aA l).filterMap (jW L):=rfl
theorem EC(L:List (ByteArray×Sp))(l:List Sp):bc L l=(aA l).filter (qq L):=rfl
theorem jB{xs:List Sp}{k:Nat}{x:Sp}(hk:xs[k]?=some x)(p:Sp→Bool):(xs.take (k+1)).filter p=(xs.take k).filter p++(if p x then[x]else[]):=by
 rw[PO,hk,VG];simp[US]
theorem sd{xs:List Sp}{k:Nat}{x:Sp}(hk:xs[k]?=some x)(g:Sp→Option Sp):(xs.take (k+1)).filterMap g=(xs.take k).filterMap g++(g x).toList:=by
 rw[PO,hk,Vj];cases h:g x<;>simp[h]
structure jp(W:World)(B D:Nat)(T:TypeId)(E:TypeId)(vo vi vf:Value)(lo li lf:List Sp):Prop where
 box:W.heap[D]?=some (.cells #[vo,vi] T (0,0))
 o:W.ownsRow B E 9 vo lo.length (lo.flatMap bg)
 i:W.ownsRow B E 9 vi li.length (li.flatMap bg)
 f:W.ownsRow B E 9 vf lf.length (lf.flatMap bg)
 oi:gb vo vi
 of:gb vo vf
 fi:gb vf vi
theorem iY{W:World}{B:Nat}{E:TypeId}{v:Value}{l:List Sp}{x:Sp}(h:W.ownsRow B E 9 v (l.length+1) (l.flatMap bg++bg x)):W.ownsRow B E 9 v (l++[x]).length ((l++[x]).flatMap bg):=by
 rw[show(l++[x]).length=l.length+1 by simp,show(l++[x]).flatMap bg=l.flatMap bg++bg x by simp];exact h
section
variable{W w7:World}{B D:Nat}{T E:TypeId}{vo vi vf v7:Value}{lo li lf:List Sp}{tmp:Obj}{x:Sp}
theorem jp.kept(h:jp W B D T E vo vi vf lo li lf)(hb:Below W.heap.size W w7):jp w7 B D T E vo vi vf lo li lf:=
 ⟨af h.box hb,au h.o hb,au h.i hb,au h.f hb,h.oi,h.of,h.fi⟩
theorem jp.noD(h:jp W B D T E vo vi vf lo li lf)(hD:D<B):vo.ownBlock≠some D∧vi.ownBlock≠some D∧vf.ownBlock≠some D:=
 ⟨fun e=>by have:=(h.o.lt _ e).1;omega,fun e=>by have:=(h.i.lt _ e).1;omega,fun e=>by have:=(h.f.lt _ e).1;omega⟩
theorem jp.appF(h:jp W B D T E vo vi vf lo li lf)(of7:w7.ownsRow B E 9 v7 (lf.length+1) (lf.flatMap bg++bg x))(g7:(W.alloc tmp).grownBy w7 vf.ownBlock)(d7:∀k,v7.ownBlock=some k→vf.ownBlock=some k∨(W.alloc tmp).heap.size≤k)(hD:D<B):
  jp w7 B D T E vo vi v7 lo li (lf++[x]):=
 ⟨aS h.box (h.noD hD).2.2 g7,bO h.of.symm h.o g7,bO h.fi h.i g7,iY of7,h.oi,(bK h.of.symm h.o (by rw[Pq];exact UE _) d7).symm,bK h.fi h.i (by rw[Pq];exact UE _) d7⟩
theorem jp.appI(h:jp W B D T E vo vi vf lo li lf)(oi7:w7.ownsRow B E 9 v7 (li.length+1) (li.flatMap bg++bg x))(g7:(W.alloc tmp).grownBy w7 vi.ownBlock)(d7:∀k,v7.ownBlock=some k→vi.ownBlock=some k∨(W.alloc tmp).heap.size≤k)(hD:D<B):
  w7.heap[D]?=some (.cells #[vo,vi] T (0,0))∧jp (w7.setCell ⟨D,1,none⟩ v7) B D T E vo v7 vf lo (li++[x]) lf:=by
 have hb:=aS h.box (h.noD hD).2.1 g7;have h7:v7.ownBlock≠some D:=fun e=>by have:=(oi7.lt _ e).1;omega
 refine⟨hb,aq hb 1 v7,Us (bO h.oi.symm h.o g7) (a:=⟨D,1,none⟩) (h.noD hD).1 _,Us (iY oi7) (a:=⟨D,1,none⟩) h7 _,Us (bO h.fi.symm h.f g7) (a:=⟨D,1,none⟩) (h.noD hD).2.2 _,
  (bK h.oi.symm h.o (by rw[Pq];exact UE _) d7).symm,h.of,(bK h.fi.symm h.f (by rw[Pq];exact UE _) d7).symm⟩
theorem jp.appO(h:jp W B D T E vo vi vf lo li lf)(oo7:w7.ownsRow B E 9 v7 (lo.length+1) (lo.flatMap bg++bg x))(g7:(W.alloc tmp).grownBy w7 vo.ownBlock)(d7:∀k,v7.ownBlock=some k→vo.ownBlock=some k∨(W.alloc tmp).heap.size≤k)(hD:D<B):
  w7.heap[D]?=some (.cells #[vo,vi] T (0,0))∧jp (w7.setCell ⟨D,0,none⟩ v7) B D T E v7 vi vf (lo++[x]) li lf:=by
 have hb:=aS h.box (h.noD hD).1 g7;have h7:v7.ownBlock≠some D:=fun e=>by have:=(oo7.lt _ e).1;omega
 refine⟨hb,aq hb 0 v7,Us (iY oo7) (a:=⟨D,0,none⟩) h7 _,Us (bO h.oi h.i g7) (a:=⟨D,0,none⟩) (h.noD hD).2.1 _,Us (bO h.of h.f g7) (a:=⟨D,0,none⟩) (h.noD hD).2.2 _,
  bK h.oi h.i (by rw[Pq];exact UE _) d7,bK h.of h.f (by rw[Pq];exact UE _) d7,h.fi⟩
end
section
variable{own own':Nat→Nat}{b:Nat}{w w':World}{S Q M:Nat}{lim:Int}{cs:Array Value}{p p' p1 p2 r1 r2:Option Addr}{L L':List (ByteArray×Sp)}{A A':List (ByteArray×Int)}{C C':List (ByteArray×Unit)}{many:Int}{f:Int→Int}
theorem mA(h:aN own b w S Q M lim cs p p1 p2 L A C many f)(hL:aJ L)(A0:Option Addr)(c0:Nat)(l:List Sp)(hl:∀x∈l,x.In)(hm:l.length≤100000)(hr:cm w w.heap.size A0 l):
  Calls prog 49 #[.pointer (some ⟨S,0,none⟩),.slice A0 l.length c0] w fun e w'=>∃vo vi vf,e=.returned (.tuple #[.agg #[vo,vi],vf])∧
   w'.ownsRow w.heap.size 93 9 vo (ly L l).length ((ly L l).flatMap bg)∧w'.ownsRow w.heap.size 93 9 vi (nu L l).length ((nu L l).flatMap bg)∧w'.ownsRow w.heap.size 93 9 vf (bc L l).length ((bc L l).flatMap bg)∧Below w.heap.size w w':=by
 obtain⟨i0,hi⟩:=Qm cC;have HI:=zH hi;clear hi;have hbA:=ae (.cells #[.slice none 0 0,.slice none 0 0] 103) (zB w (.cells #[.slice none 0 0,.slice none 0 0] 103));have hD:=Up (w.alloc (.cells #[.slice none 0 0,.slice none 0 0] 103)) (.cells #[.slice none 0 0,.slice none 0 0] 103);have hszA:((w.alloc (.cells #[.slice none 0 0,.slice none 0 0] 103)).alloc (.cells #[.slice none 0 0,.slice none 0 0] 103)).heap.size=w.heap.size+2:=by rw[Pq,Pq]
 rw[Pq]at hD;have hT4:=ar (Up w (.cells #[.slice none 0 0,.slice none 0 0] 103)) (.cells #[.slice none 0 0,.slice none 0 0] 103);have HST:=zH (fy A0 c0 l hl (by omega) _ ((hr.below hbA).more hbA.size));have hset:=cV hl;have hlen:(aA l).length≤100000:=by
  have:=bh hl;unfold aA;rw[Ur];omega
 have HG:=zH (fun(x:Sp) (hx:x.Ok) (w1:World) (b1:Below w.heap.size w w1) (r:Option Sp) (hr:ag oS L (kk x.tr x.id)=r)=>Du (h.below b1) x.tr x.id hx.1 hx.2.1 r hr);have HVD:=zH hset.vd;have HIN:=zH (vQ L l);have HOUT:=zH (JD L l);have HFR:=zH (EC L l);have HLR:=zH hL;generalize ly L l=outs at HOUT⊢;generalize nu L l=ins at HIN⊢;generalize bc L l=frs at HFR⊢;generalize aA l=xs at HST hset hlen HVD HIN HOUT HFR;clear hset hl hr h;have HBA:=zH hbA;clear hbA;go_enter func49,ntmps49;go_wp2_with (go_at_call 26;(with_reducible refine(HST.out).mono ?_);rintro e w1 ⟨v1,rfl,o1,b1⟩;obtain⟨A1,c1,rfl,R1,hc1,hcm,hA1⟩:=bE o1);have B1:=ah b1 HBA.out;have D1:=af hD b1;have T1:=af hT4 b1;have hs1:=b1.size;rw[hszA]at hs1 hA1;clear o1;go_loopw [7,15] (fun vf i wr=>∃(k:Nat) (vo vi vg:Value),vg=vf∧k≤xs.length∧i=.int .i64 k∧jp wr w1.heap.size (w.heap.size+1) 103 93 vo vi vg ((xs.take k).filterMap (jW L)) ((xs.take k).filter (eK L)) ((xs.take k).filter (qq L))∧Km (fun b=>b=w.heap.size+1) w1 wr) (fun _ i _=>xs.length - (intOf i).toNat)
 case atStart=>exact⟨0,_,_,_,rfl,by omega,rfl,⟨D1,PS _ _ _ _,PS _ _ _ _,PS _ _ _ _,ki _,ki _,ki _⟩,Km.refl _ _⟩
 case round=>
  obtain⟨k,vo,vi,vf,rfl,hk,rfl,hrow,hkm⟩:=hrel;by_cases hlt:k<xs.length
  ·obtain⟨x,hk'⟩:=zg hlt;obtain⟨ad,rfl,hadl,c0,c1,c2,c3,c4,c5,c6,c7,c8⟩:=(R1.km hkm (Po _) (fun ad e=>by have:=(hA1 ad e).1;omega)) k x hk';have hx:=HVD.out x (Pv hk');have hi1:(k:Int)< (xs.length:Int):=by omega
   have HT1:=zH (sd hk' (jW L));have HT2:=zH (jB hk' (eK L));have HT3:=zH (jB hk' (qq L));have hl1:((xs.take k).filterMap (jW L)).length≤100000:=Pt (Vl _ _) (by rw[UD];omega);have hl2:((xs.take k).filter (eK L)).length≤100000:=Pt (Qc _ _) (by rw[UD];omega);have hl3:((xs.take k).filter (qq L)).length≤100000:=Pt (Qc _ _) (by rw[UD];omega);generalize hlo:(xs.take k).filterMap (jW L)=lo at hrow HT1 hl1;generalize hli:(xs.take k).filter (eK L)=li at hrow HT2 hl2;generalize hlf:(xs.take k).filter (qq L)=lf at hrow HT3 hl3;clear hlo hli hlf hk';have hks:=hkm.size;have HDB:=zH (show w.heap.size+1<w1.heap.size by omega);have hBr:Below w.heap.size w wr:=B1.trans (hkm.below (fun b hb e=>by omega) B1.size);have b0:=zB wr (.cells (SA x) 93);have n0:=Up wr (.cells (SA x) 93);have HNF:=zH (show vf.ownBlock≠some wr.heap.size from fun e=>by have:=(hrow.f.lt _ e).2;omega);have HNO:=zH (show vo.ownBlock≠some wr.heap.size from fun e=>by have:=(hrow.o.lt _ e).2;omega);have HR3:=zH hrow;have HKM:=zH hkm;have HGG:=zH (HG.out x hx.ok _ (hBr.trans (b0.mono hBr.size)));have HXV:=zH hx;have e00:=aa hrow.box 0;clear hrow hkm hBr hx e00;rcases hg:ag oS L (kk x.tr x.id)with _ |old
   ·have hG:=HGG.out none hg;simp only[AvS.vo,Sl]at hG;have HGX:=zH hG;have HP:=zH (show jW L x=none∧eK L x=true∧qq L x=true by unfold jW eK qq;rw[show ag oS L (aj x)=none from hg];exact⟨rfl,rfl,rfl⟩);clear hG;go_wp2_with (first |(go_at_call 96;(with_reducible refine(HGX.out).mono ?_);rintro e w5 ⟨rfl,b5⟩;have n5:=af n0 b5;have B5:=ae (.cells SZ 93) (ah b5 b0);have n6:=ar n5 (.cells SZ 93);have m6:=Up w5 (.cells SZ 93);have R6:=zH (HR3.out.kept B5);have k6:=zH ((HKM.out).trans (Km.of_below (fun b=>b=w.heap.size+1) B5));have z6:wr.heap.size≤w5.heap.size+1:=(by have:=B5.size;rwa [Pq]at this);have q0:=aa n6;have s0:=aa m6) |(at_builtin;refine aM rfl _ _ 22 rfl w1.heap.size 93 i0 (.agg SZ) 9 88 UF HI.out.1 HI.out.2.1 HI.out.2.2.1 HI.out.2.2.2 rfl (by decide) (vf) _ _ rfl (R6.out.f.alloc _) ⟨w5.heap.size+1,0,none⟩ 1 1 (bg x) rfl rfl (bj (w5.alloc (.cells SZ 93)) _ _ (w5.heap.size+1) (by simp)) (by simp[bg,Value.oneCell']) (by unfold maxLen;omega) (by omega) (by simp;omega) ?_;intro v7 w7 of7 g7 d7;obtain⟨gf,cf,rfl⟩:=Qv of7;have R7:=zH (R6.out.appF of7 g7 d7 HDB.out);have n7:=aS n6 HNF.out g7;have k7:=zH (k6.out.grown g7 (fun k e=>(HR3.out.f.lt k e).1));have z7:w5.heap.size+1≤w7.heap.size:=(by have:=g7.size;simp only[Pq]at this;omega);have u0:=aa n7;have e70:=aa R7.out.box) |(at_builtin;refine aM rfl _ _ 22 rfl w1.heap.size 93 i0 (.agg SZ) 9 88 UF HI.out.1 HI.out.2.1 HI.out.2.2.1 HI.out.2.2.2 rfl (by decide) (vi) _ _ rfl (R7.out.i.alloc _) ⟨w7.heap.size,0,none⟩ 1 1 (bg x) rfl rfl (bj w7 _ _ (w7.heap.size) (by simp)) (by simp[bg,Value.oneCell']) (by unfold maxLen;omega) (by omega) (by simp;omega) ?_;intro v8 w8 oi8 g8 d8;obtain⟨gi,ci,rfl⟩:=Qv oi8;obtain⟨D8,R8⟩:=R7.out.appI oi8 g8 d8 HDB.out;replace R8:=zH R8;have k8:=zH ((k7.out.grown g8 (fun k e=>(HR3.out.i.lt k e).1)).setCell (b:=w.heap.size+1) (j:=1) (fun _=>rfl) (.slice (some ⟨gi,0,none⟩) (li.length+1) ci));have e80:=aa D8;have y81:=ak D8 1));refine⟨⟨k+1,vo,.slice (some ⟨gi,0,none⟩) (li.length+1) ci,.slice (some ⟨gf,0,none⟩) (lf.length+1) cf,rfl,by omega,by go_num,?_,k8.out⟩,by simp[intOf];omega⟩;exact Pe
   ·have hG:=HGG.out (some old) hg;simp only[AvS.vo,RH]at hG;have HGX:=zH hG;clear hG;have hov:=(HLR.out.get hg).2;have HNW:=zH (mO x old HXV.out.ok hov.ok HXV.out.few hov.few);rcases hnw:RankP.eJ (dG x) (dG old)with _ |_
    ·have HP:=zH (show jW L x=none∧eK L x=false∧qq L x=false by unfold jW eK qq;rw[show ag oS L (aj x)=some old from hg];simp[show mG x old=false from hnw]);rw[hnw]at HNW;go_wp2_with (first |(go_at_call 96;(with_reducible refine(HGX.out).mono ?_);rintro e w5 ⟨rfl,b5⟩;have n5:=af n0 b5;have B5:=ae (.cells (SA old) 93) (ah b5 b0);have n6:=ar n5 (.cells (SA old) 93);have m6:=Up w5 (.cells (SA old) 93);have R6:=zH (HR3.out.kept B5);have k6:=zH ((HKM.out).trans (Km.of_below (fun b=>b=w.heap.size+1) B5));have z6:wr.heap.size≤w5.heap.size+1:=(by have:=B5.size;rwa [Pq]at this);have q0:=aa n6;have s0:=aa m6) |(go_at_call 28;(with_reducible refine(HNW.out _).mono ?_);rintro e w6 ⟨rfl,b6⟩));refine⟨⟨k+1,vo,vi,vf,rfl,by omega,by go_num,?_,k6.out.trans (Km.of_below _ b6)⟩,by simp[intOf];omega⟩;rw[HT1.out,HT2.out,HT3.out,HP.out.1,HP.out.2.1,HP.out.2.2];simpa using R6.out.kept b6
    ·have HP:=zH (show jW L x=some old∧eK L x=true∧qq L x=false by unfold jW eK qq;rw[show ag oS L (aj x)=some old from hg];simp[show mG x old=true from hnw]);rw[hnw]at HNW;go_wp2_with (first |(go_at_call 96;(with_reducible refine(HGX.out).mono ?_);rintro e w5 ⟨rfl,b5⟩;have n5:=af n0 b5;have B5:=ae (.cells (SA old) 93) (ah b5 b0);have n6:=ar n5 (.cells (SA old) 93);have m6:=Up w5 (.cells (SA old) 93);have R6:=zH (HR3.out.kept B5);have k6:=zH ((HKM.out).trans (Km.of_below (fun b=>b=w.heap.size+1) B5));have z6:wr.heap.size≤w5.heap.size+1:=(by have:=B5.size;rwa [Pq]at this);have q0:=aa n6;have s0:=aa m6) |(go_at_call 28;(with_reducible refine(HNW.out _).mono ?_);rintro e w6 ⟨rfl,b6⟩;have R9:=zH (R6.out.kept b6);have k9:=zH (k6.out.trans (Km.of_below _ b6));have n9:=af n6 b6;have m9:=af m6 b6;have z9:w5.heap.size+1≤w6.heap.size:=(by have:=b6.size;rwa [Pq]at this);have e90:=aa R9.out.box;have g0:=aa n9 0;have g1:=aa n9 1;have g2:=aa n9 2;have g3:=aa n9 3;have g4:=aa n9 4;have g5:=aa n9 5;have g6:=aa n9 6;have g7:=aa n9 7;have g8:=aa n9 8;have h0:=aa m9) |(at_builtin;refine aM rfl _ _ 22 rfl w1.heap.size 93 i0 (.agg SZ) 9 88 UF HI.out.1 HI.out.2.1 HI.out.2.2.1 HI.out.2.2.2 rfl (by decide) (vo) _ _ rfl (R9.out.o.alloc _) ⟨w6.heap.size,0,none⟩ 1 1 (bg old) rfl rfl (bj w6 _ _ (w6.heap.size) (by simp)) (by simp[bg,Value.oneCell']) (by unfold maxLen;omega) (by omega) (by simp;omega) ?_;intro v7 w7 oo7 g7 d7;obtain⟨go,co,rfl⟩:=Qv oo7;obtain⟨D7,R7⟩:=R9.out.appO oo7 g7 d7 HDB.out;replace R7:=zH R7;have k7:=zH ((k9.out.grown g7 (fun k e=>(HR3.out.o.lt k e).1)).setCell (b:=w.heap.size+1) (j:=0) (fun _=>rfl) (.slice (some ⟨go,0,none⟩) (lo.length+1) co));have z7:w6.heap.size≤w7.heap.size:=(by have:=g7.size;simp only[Pq]at this;omega);have n7:=aS n9 HNO.out g7;have e70:=aa D7;have y70:=ak D7 0;have nS:=aw n7 (B:=w.heap.size+1) (j:=0) (show wr.heap.size≠w.heap.size+1 by omega) (.slice (some ⟨go,0,none⟩) (lo.length+1) co);have u0:=aa nS;have f70:=aa R7.out.box) |(at_builtin;refine aM rfl _ _ 22 rfl w1.heap.size 93 i0 (.agg SZ) 9 88 UF HI.out.1 HI.out.2.1 HI.out.2.2.1 HI.out.2.2.2 rfl (by decide) (vi) _ _ rfl (R7.out.i.alloc _) ⟨w7.heap.size,0,none⟩ 1 1 (bg x) rfl rfl (bj (w7.setCell ⟨w.heap.size+1,0,none⟩ (.slice (some ⟨go,0,none⟩) (lo.length+1) co)) _ _ (w7.heap.size) (by simp)) (by simp[bg,Value.oneCell']) (by unfold maxLen;omega) (by omega) (by simp;omega) ?_;intro v8 w8 oi8 g8 d8;obtain⟨gi,ci,rfl⟩:=Qv oi8;obtain⟨D8,R8⟩:=R7.out.appI oi8 g8 d8 HDB.out;replace R8:=zH R8;have k8:=zH ((k7.out.grown g8 (fun k e=>(HR3.out.i.lt k e).1)).setCell (b:=w.heap.size+1) (j:=1) (fun _=>rfl) (.slice (some ⟨gi,0,none⟩) (li.length+1) ci));have e80:=aa D8;have y81:=ak D8 1));refine⟨⟨k+1,.slice (some ⟨go,0,none⟩) (lo.length+1) co,.slice (some ⟨gi,0,none⟩) (li.length+1) ci,vf,rfl,by omega,by go_num,?_,k8.out⟩,by simp[intOf];omega⟩;exact Pe
  ·obtain rfl:k=xs.length:=by omega
   rw[PM]at hrow;obtain⟨Ao,co,rfl⟩:=an hrow.o;obtain⟨Ai,ci,rfl⟩:=an hrow.i;obtain⟨Af,cf,rfl⟩:=an hrow.f;have e0:=aa hrow.box;have t4:=hkm.at T1 (show ¬w.heap.size=w.heap.size+1 by omega);have t40:=aa t4;have t42:=ak t4;go_wp2_with fail;have t5:=aq (aq t4 0 (.slice Ao (xs.filterMap (jW L)).length co)) 1 (.slice Ai (xs.filter (eK L)).length ci);have r0:=aa t5 0;have r1:=aa t5 1;refine Ux (v:=.tuple #[.agg #[.slice Ao (xs.filterMap (jW L)).length co,.slice Ai (xs.filter (eK L)).length ci],.slice Af (xs.filter (qq L)).length cf]) (by simp[results,results49,go_sem,r0,r1]) rfl ?_;have hne:∀{v:Value} {n:Nat} {ys:List Value},wr.ownsRow w1.heap.size 93 9 v n ys→v.ownBlock≠some w.heap.size:=fun h e=>by have:=(h.lt _ e).1;omega
   have hw1:w.heap.size≤w1.heap.size:=by omega
   rw[HOUT.out,HIN.out,HFR.out];refine⟨_,_,_,rfl,aI (Us (Us hrow.o (a:=⟨w.heap.size,0,none⟩) (hne hrow.o) _) (a:=⟨w.heap.size,1,none⟩) (hne hrow.o) _) hw1,aI (Us (Us hrow.i (a:=⟨w.heap.size,0,none⟩) (hne hrow.i) _) (a:=⟨w.heap.size,1,none⟩) (hne hrow.i) _) hw1,
    aI (Us (Us hrow.f (a:=⟨w.heap.size,0,none⟩) (hne hrow.f) _) (a:=⟨w.heap.size,1,none⟩) (hne hrow.f) _) hw1,?_⟩
   exact((B1.trans (hkm.below (fun b hb e=>by omega) B1.size)).setCell (p:=⟨w.heap.size,0,none⟩) (Po _) _).setCell (p:=⟨w.heap.size,1,none⟩) (Po _) _
end
theorem E8(s:Int×(Int→Int))(x y:Sp):cT (cT s x) y=cT (cT s y) x:=by
 unfold cT;refine Prod.ext rfl (funext fun t=>?_);simp only;by_cases h1:t=y.tr
 ·by_cases h2:t=x.tr
  ·have h3:y.tr=x.tr:=h1.symm.trans h2;simp[h3]
  ·have h3:¬y.tr=x.tr:=fun e=>h2 (h1.trans e);have h4:¬x.tr=y.tr:=fun e=>h3 e.symm;simp[h1,h3]
 ·by_cases h2:t=x.tr
  ·have h3:¬x.tr=y.tr:=fun e=>h1 (h2.trans e);simp[h2,h3]
  ·simp[h1,h2]
theorem IB(l:List Sp):∀(s:Int×(Int→Int)) (x:Sp),l.foldl cT (cT s x)=cT (l.foldl cT s) x:=by
 induction l with
 |nil=>intro s x;rfl
 |cons y r ih=>intro s x;rw[UK,UK,←ih,E8]
theorem Bl(s:Int×(Int→Int))(x:Sp)(h:0≤s.2 x.tr):iC (cT s x) x=s:=by
 unfold iC cT;simp only[RT];rw[Pm (by omega)];refine Prod.ext (by simp only;omega) (funext fun t=>?_);simp only;split
 ·rename_i e;rw[e];omega
 ·rfl
theorem Hw(l:List Sp):∀s:Int×(Int→Int),(∀t,0≤s.2 t)→l.foldl iC (l.foldl cT s)=s:=by
 induction l with
 |nil=>intro s _;rfl
 |cons x r ih=>
  intro s hs;rw[UK,UK,IB,Bl]
  ·exact ih s hs
  ·have:=qI r s x.tr;have:=hs x.tr;omega
theorem mB(w:World)(o:Obj):w.heap.size≤(w.alloc o).heap.size:=by rw[Pq];exact UE _
theorem cm.alloc{w:World}{A:Option Addr}{l:List Sp}(h:cm w w.heap.size A l)(o:Obj):cm (w.alloc o) (w.alloc o).heap.size A l:=(h.below (ae o (Pk _ w))).more (mB w o)
section
variable{own own':Nat→Nat}{b:Nat}{w w':World}{S Q M:Nat}{lim:Int}{cs:Array Value}{p p' p1 p2 r1 r2:Option Addr}{L L':List (ByteArray×Sp)}{A A':List (ByteArray×Int)}{C C':List (ByteArray×Unit)}{many:Int}{f:Int→Int}
theorem aN.ne(h:aN own b w S Q M lim cs p p1 p2 L A C many f):S≠Q∧S≠M:=by
 have h1:=h.box;constructor
 ·intro e;rw[e,h.quo.box]at h1;simp at h1
 ·intro e;obtain⟨g,hm,_⟩:=h.quo.map;obtain⟨es,cl,hb,_⟩:=hm.ex;rw[e,hb]at h1;cases h1
def MN(lim many:Int)(f:Int→Int)(n:Nat):Prop:=0≤many∧(∀t,0≤f t∧f t+n≤lim)∧many+n≤lim∧lim≤100000
theorem uw{l:List Sp}(hl:∀x∈l,x.In):∀x∈bc L l,x.Vd:=fun x hx=>nO hl x (Uz.1 hx).1
theorem nh{l:List Sp}(hl:∀x∈l,x.In):(bc L l).length≤l.length:=by
 have h1:=bh hl;have h2:=Qc (fun x=>(ag oS L (aj x)).isNone) (aA l);unfold bc;have h3:(aA l).length=(av l).length:=by unfold aA;rw[Ur]
 omega
theorem Dv(h:aN own b w S Q M lim cs p p1 p2 L A C many f)(hL:aJ L)(A0:Option Addr)(c0:Nat)(l:List Sp)(hl:∀x∈l,x.In)(hm:l.length≤10000)(hr:cm w w.heap.size A0 l)(hR:MN lim many f l.length):
  Calls prog 48 #[.pointer (some ⟨S,0,none⟩),.slice A0 l.length c0] w fun e w'=>e=.returned (.int .i64 0)∧aN own b w' S Q M lim cs p p1 p2 L A C many f∧Km (lT own b) w w':=by
 have HM:=zH (Dr h A0 c0 l hl (by omega) hr);have HB:=zH (fun w1 (b1:Below w.heap.size w w1)=>mA (h.below b1) hL A0 c0 l hl (by omega) ((hr.below b1).more b1.size));have hfl:=nh (L:=L) hl;have hfv:=uw (L:=L) hl;obtain⟨R1,R2,R3,R4⟩:=hR;have hQw:=am h.quo.box;have hMw:=h.quo.map.lt;have HA:=zH (fun w2 (b2:Below w.heap.size w w2) A1 c1 (hr1:cm w2 w2.heap.size A1 (bc L l)) (hA:∀ad,A1=some ad→w.heap.size≤ad.block∧ad.block<w2.heap.size)=>tK (h.below b2).quo A1 c1 (bc L l) (fun x hx=>(hfv x hx).ok) (by omega) hr1 (fun ad e=>by have:=(hA ad e).1;omega) ⟨R1,fun t=>(R2 t).1⟩ ⟨by omega,R4⟩ (fun t=>by have:=(R2 t).2;omega) (by omega));have HD:=zH (fun w3 (q3:cS w3 Q M lim lim ((bc L l).foldl cT (many,f)).1 ((bc L l).foldl cT (many,f)).2) A1 c1 (hr1:cm w3 w3.heap.size A1 (bc L l)) (hA:∀ad,A1=some ad→ad.block≠Q∧ad.block≠M)=>show Calls prog 95 #[.pointer (some ⟨Q,0,none⟩),.slice A1 (bc L l).length c1] w3 fun e w'=>(∃v,e=.returned v)∧cS w' Q M lim lim many f∧Km (fun b=>b=Q∨b=M) w3 w' by
  have hd:=Hw (bc L l) (many,f) (fun t=>(R2 t).1);have k1:((bc L l).foldl cT (many,f)).1=many+(bc L l).length:=pH (bc L l) (many,f);have k2:∀t,f t≤((bc L l).foldl cT (many,f)).2 t∧((bc L l).foldl cT (many,f)).2 t≤f t+(bc L l).length:=qI (bc L l) (many,f);have:=Ae q3 A1 c1 (bc L l) (fun x hx=>(hfv x hx).ok.1) (by omega) hr1 hA ⟨by show(-1000000:Int)≤((bc L l).foldl cT (many,f)).1;omega,by show((bc L l).foldl cT (many,f)).1≤1000000;omega,fun t=>by have:=k2 t;have:=R2 t;show 0≤((bc L l).foldl cT (many,f)).2 t∧((bc L l).foldl cT (many,f)).2 t≤1000000;omega⟩;rw[show(((bc L l).foldl cT (many,f)).1,((bc L l).foldl cT (many,f)).2)=(bc L l).foldl cT (many,f)from rfl,hd]at this;exact this)
 have HS:=zH h;have c11:=(aa h.box 11).trans h.c11;have HX:=zH h.box;have H11:=zH h.c11;have HNE:=zH h.ne;have HQM:=zH (Uq hQw hMw);generalize bc L l=fr at HB HA HD hfl hfv;generalize ly L l=ou at HB;generalize nu L l=inn at HB;clear hl hr h R1 R2 R3 R4 hfv;go_enter func48,ntmps48;go_wp2_with (first |(go_at_call 94;(with_reducible refine(HM.out).mono ?_);rintro e w1 ⟨rfl,b1⟩) |(go_at_call 49;go_loud ((with_reducible refine(HB.out _ b1).mono ?_);rintro e w2 ⟨vo,vi,vf,rfl,o1,o2,o3,b2⟩;obtain⟨Ao,co,rfl⟩:=an o1;obtain⟨Ai,ci,rfl⟩:=an o2;have B2:=ae (.cells #[.slice Ao ou.length co,.slice Ai inn.length ci] 103) (ah b2 b1);obtain⟨Af,cf,rfl,rf,_,_,hAf⟩:=bE o3;have rf2:=zH (rf.alloc (.cells #[.slice Ao ou.length co,.slice Ai inn.length ci] 103));have x2:=aa (af HX.out B2) 11;have y2:=x2.trans H11.out;clear x2)) |(go_at_call 50;go_loud ((with_reducible refine(HA.out _ B2 _ _ rf2.out (fun ad e=>⟨Pt b1.size (hAf ad e).1,Ut (hAf ad e).2 (mB w2 (.cells #[.slice Ao ou.length co,.slice Ai inn.length ci] 103))⟩)).mono ?_);rintro e w3 ⟨rfl,q3,k3⟩;have x3:=aa (k3.at (af HX.out B2) (fun e=>e.elim HNE.out.1 HNE.out.2)) 11;have y3:=x3.trans H11.out;clear x3;have hA3:∀ad,Af=some ad→ad.block≠Q∧ad.block≠M:=fun ad e=>(by have h1:=Pt b1.size (hAf ad e).1;have h2:=HQM.out;omega);have rf3:=(rf2.out.km k3 (Po _) (fun ad e hf=>hf.elim (hA3 ad e).1 (hA3 ad e).2)).more k3.size)) |(go_at_call 95;go_loud ((with_reducible refine(HD.out _ q3 _ _ rf3 hA3).mono ?_);rintro e w4 ⟨⟨v4,rfl⟩,q4,k4⟩)));go_ret;obtain⟨h1,h2⟩:=(HS.out.below B2).quota q4 (k3.trans k4);exact⟨rfl,h1,(Km.of_below _ B2).trans h2⟩
end
theorem xv{l:List Sp}{k:Nat}{x:Sp}(hk:l[k]?=some x)(L:List (ByteArray×Sp)):dn L (l.take (k+1))=ay oS (dn L (l.take k)) (aj x) x:=by
 unfold dn;exact O6
section
variable{own own':Nat→Nat}{b:Nat}{w w':World}{S Q M:Nat}{lim:Int}{cs:Array Value}{p p' p1 p2 r1 r2:Option Addr}{L L':List (ByteArray×Sp)}{A A':List (ByteArray×Int)}{C C':List (ByteArray×Unit)}{many:Int}{f:Int→Int}
theorem vu{o:Nat→Nat}{b x:Nat}(hb:0<b)(h:o x=0):¬lT o b x:=fun hf=>by unfold lT at hf;omega
theorem Jj{o o':Nat→Nat}{b x:Nat}{u:World}(he:aO o o' u)(hx:x<u.heap.size):lT o' b x→lT o b x:=fun hf=>by unfold lT at hf⊢;rw[he x hx]at hf;exact hf
theorem dm.km{K V:Type}{N:Nd K V}{o:eN K}{t:Nat}{q:Option Addr}{X:List (K×V)}{F:Nat→Prop}(h:dm N o own t w q X)(hk:Km F w w')(hf:∀x,x<w.heap.size→own x=t→¬F x):dm N o own t w' q X:=by
 obtain⟨T,h1,h2,h3,h4,h5⟩:=h;exact⟨T,h1,h2,h3.kept fun x hx=>⟨hk.block x (h3.at x hx).2 (hf x (h3.at x hx).2 (h3.at x hx).1),rfl⟩,h4,h5⟩
theorem aN.far{F:Nat→Prop}(h:aN own b w S Q M lim cs p p1 p2 L A C many f)(hk:Km F w w')(hf:∀x,x<w.heap.size→b≤own x→own x≤b+3→¬F x):aN own b w' S Q M lim cs p p1 p2 L A C many f:=
 {h with
  box:=hk.at h.box (hf S (am h.box) (by rw[h.wS];omega) (by rw[h.wS];omega))
  tr:=h.tr.km hk fun x hx e=>hf x hx (by omega) (by omega)
  a:=h.a.km hk fun x hx e=>hf x hx (by omega) (by omega)
  c:=h.c.km hk fun x hx e=>hf x hx (by omega) (by omega)
  quo:=h.quo.kp hk (hf Q (am h.quo.box) (by rw[h.wQ];omega) (by rw[h.wQ];omega)) (hf M h.quo.map.lt (by rw[h.wM];omega) (by rw[h.wM];omega))
  ow:=h.ow.mono hk.size}
def ew(own:Nat→Nat)(b:Nat)(w:World)(S Q M:Nat)(lim:Int)(L:List (ByteArray×Sp))(many:Int)(f:Int→Int)(n:Nat):Prop:=
 ∃cs p p1 p2 A C,aN own b w S Q M lim cs p p1 p2 L A C many f∧aJ L∧L.length≤n∧A.length≤n∧C.length≤n
theorem Dt{n:Nat}(h:ew own b w S Q M lim L many f n)(hn:n≤10000)(A0:Option Addr)(c0:Nat)(l:List Sp)(hl:∀x∈l,x.In)(hm:l.length≤10000)(hr:cm w w.heap.size A0 l)(hA0:∀ad,A0=some ad→own ad.block=0)(hR:MN lim many f l.length):
  Calls prog 22 #[.pointer (some ⟨S,0,none⟩),.slice A0 l.length c0] w fun e w'=>∃vo vi own',e=.returned (.tuple #[.agg #[vo,vi],.int .i64 0])∧
   w'.ownsRow w.heap.size 93 9 vo (ly L l).length ((ly L l).flatMap bg)∧w'.ownsRow w.heap.size 93 9 vi (nu L l).length ((nu L l).flatMap bg)∧
   ew own' b w' S Q M lim (dn L (nu L l)) ((bc L l).foldl cT (many,f)).1 ((bc L l).foldl cT (many,f)).2 (n+l.length)∧Km (lT own b) w w'∧aO own own' w∧
   (∀g,vo.ownBlock=some g→own' g=0)∧∀g,vi.ownBlock=some g→own' g=0:=by
 obtain⟨cs,p,p1,p2,A,C,h,hL,hn1,hn2,hn3⟩:=h;have hbA:=zB w (.cells #[.slice none 0 0,.slice none 0 0] 103);have hT0:=Up w (.cells #[.slice none 0 0,.slice none 0 0] 103);have hA:=h.below hbA;have how:=h.ow;have hb0:=h.b0;have hne:=h.ne;have hSw:=am h.box;have hQw:=am h.quo.box;have hMw:=h.quo.map.lt;obtain⟨wA,hwA⟩:∃wA,wA=w.alloc (.cells #[.slice none 0 0,.slice none 0 0] 103):=⟨_,rfl⟩;rw[←hwA]at hbA hT0 hA;have HC:=zH (Dv hA hL A0 c0 l hl hm ((hr.below hbA).more hbA.size) hR);have hrA:=(hr.below hbA).more hbA.size;have HKA:∀w1,Km (lT own b) wA w1→cm w1 w1.heap.size A0 l:=fun w1 k1=>(hrA.km k1 (Po _) (fun ad e=>vu hb0 (hA0 ad e))).more k1.size;have HBC:=zH (fun w1 (h1:aN own b w1 S Q M lim cs p p1 p2 L A C many f) (k1:Km (lT own b) wA w1)=>mA h1 hL A0 c0 l hl (by omega) (HKA w1 k1));have hfl:=nh (L:=L) hl;have hfv:=uw (L:=L) hl;have hil:(nu L l).length≤l.length:=by
  have h1:=bh hl;have h2:=Qc (eK L) (aA l);have h3:(aA l).length=(av l).length:=by unfold aA;rw[Ur]
  rw[vQ];omega
 have hiv:=(iL (L:=L) hl).vd;obtain⟨R1,R2,R3,R4⟩:=hR;have HAD:=zH (fun w2 (h2:aN own b w2 S Q M lim cs p p1 p2 L A C many f) A1 c1 (hr1:cm w2 w2.heap.size A1 (bc L l)) (hA1:∀ad,A1=some ad→ad.block≠Q∧ad.block≠M)=>tK h2.quo A1 c1 (bc L l) (fun x hx=>(hfv x hx).ok) (by omega) hr1 hA1 ⟨R1,fun t=>(R2 t).1⟩ ⟨by omega,R4⟩ (fun t=>by have:=(R2 t).2;omega) (by omega));generalize ((bc L l).foldl cT (many,f)).1=many' at HAD⊢;generalize ((bc L l).foldl cT (many,f)).2=f' at HAD⊢;generalize bc L l=fr at HBC HAD hfl hfv;generalize ly L l=ou at HBC⊢;generalize nu L l=ins at HBC hil hiv⊢;have HOW:=zH how;have HSA:=zH hA;have HNE:=zH hne;have HQM:=zH (show S<w.heap.size∧Q<w.heap.size∧M<w.heap.size from⟨hSw,hQw,hMw⟩);have HBA:=zH hbA;have HT0:=zH hT0;have HIV:=zH hiv;have HRL:=zH hL;have HB0:=zH hb0;clear hl hr h R1 R2 R3 R4 hfv hA hrA HKA how hne hbA hT0 hiv hL hA0 hb0;go_enter func22,ntmps22;go_wp2_with fail;rw[←hwA];go_wp2_with (first |(go_at_call 48;(with_reducible refine(HC.out).mono ?_);rintro e w1 ⟨rfl,s1,k1⟩;replace k1:=zH k1;replace s1:=zH s1) |(go_at_call 49;(with_reducible refine(HBC.out _ s1.out k1.out).mono ?_);rintro e w2 ⟨vo,vi,vf,rfl,o1,o2,o3,b2⟩;obtain⟨Ao,co,rfl⟩:=an o1;obtain⟨Ai,ci,rfl,ri,_,_,hAi⟩:=bE o2;obtain⟨Af,cf,rfl,rf,_,_,hAf⟩:=bE o3;have zw:=Pt HBA.out.size k1.out.size;have zz:=Ut (am HT0.out) k1.out.size;have B2:=ae (.cells #[.slice Ao ou.length co,.slice Ai ins.length ci] 103) b2;have s2:=zH (s1.out.below B2);have rf2:=zH (rf.alloc (.cells #[.slice Ao ou.length co,.slice Ai ins.length ci] 103));have ri2:=zH (ri.alloc (.cells #[.slice Ao ou.length co,.slice Ai ins.length ci] 103));have D2:=Up w2 (.cells #[.slice Ao ou.length co,.slice Ai ins.length ci] 103);have y2:=(aa s2.out.box 11).trans s2.out.c11;have k2:=zH (k1.out.trans (Km.of_below (lT own b) B2));have o12:=zH (au o1 (zB w2 (.cells #[.slice Ao ou.length co,.slice Ai ins.length ci] 103)));have o22:=zH (au o2 (zB w2 (.cells #[.slice Ao ou.length co,.slice Ai ins.length ci] 103)));clear o1 o2 o3 rf ri B2;have hAf3:∀ad,Af=some ad→ad.block≠Q∧ad.block≠M:=fun ad e=>(by have h1:=(hAf ad e).1;have h2:=HQM.out;omega)) |(go_at_call 50;(with_reducible refine(HAD.out _ s2.out _ _ rf2.out hAf3).mono ?_);rintro e w3 ⟨rfl,q3,k3⟩;obtain⟨s3,k3'⟩:=s2.out.quota q3 k3;have hA23:=HQM.out;have D3:=k3.at D2 (show ¬(w2.heap.size=Q∨w2.heap.size=M)from fun e=>by have:=b2.size;omega);have ri3:=zH ((ri2.out.km k3 (Po _) (fun ad e hf=>by have h1:=(hAi ad e).1;omega)).more k3.size);have o13:=zH (An o12.out k3 (fun g e hf=>by have h1:=(o12.out.lt g e).1;omega));have o23:=zH (An o22.out k3 (fun g e hf=>by have h1:=(o22.out.lt g e).1;omega));have e30:=aa D3;have K3:=zH (k2.out.trans k3');replace s3:=zH s3));have zbq:=b2.size;have z3:=k3.size;rw[Pq]at z3;have hz:∀g,w.heap.size≤g→own g=0:=fun g hg=>HOW.out g hg;have HZ:=zH hz;have HAI:=zH (fun ad e=>(hAi ad e).1);clear hz hAi hAf hAf3 k3 k3' q3 s1 s2 k1 k2 rf2 ri2 o12 o22 D2 hA23 y2;go_loopw [33] (fun i wr=>∃(k:Nat) (own':Nat→Nat) (cs':Array Value) (p' r1 r2:Option Addr) (A':List (ByteArray×Int)) (C':List (ByteArray×Unit)),k≤ins.length∧i=.int .i64 k∧aN own' b wr S Q M lim cs' p' r1 r2 (dn L (ins.take k)) A' C' many' f'∧Km (lT own b) w3 wr∧aO own own' w3∧A'.length≤n+k∧C'.length≤n+k) (fun i _=>ins.length - (intOf i).toNat)
 case atStart=>exact⟨0,own,cs,p,p1,p2,A,C,by omega,rfl,s3.out,Km.refl _ _,aO.refl _ _,by omega,by omega⟩
 case round=>
  obtain⟨k,own',cs',p',r1,r2,A',C',hk,rfl,hst,hkm,hex,la,lc⟩:=hrel;by_cases hlt:k<ins.length
  ·obtain⟨x,hk'⟩:=zg hlt;obtain⟨ad,rfl,hadl,d0,d1,d2,d3,d4,d5,d6,d7,d8⟩:=(ri3.out.km hkm (Po _) (fun ad e=>vu HB0.out (HZ.out _ (by have:=HAI.out ad e;omega)))) k x hk';have hx:=HIV.out x (Pv hk');have hi1:(k:Int)< (ins.length:Int):=by omega
   have HTK:=zH (xv hk' L);have hll:(dn L (ins.take k)).length≤n+k:=by
    have:=rq HRL.out (xs:=ins.take k) (fun y hy=>HIV.out y (RG hy));rw[UD]at this;omega
   have HP:=zH (Dq (hst.below (zB wr (.cells (SA x) 93))) x hx.ok (by omega) (by omega) (by omega));have HKM:=zH (hkm.alloc (.cells (SA x) 93));have HEX:=zH hex;have z4:=hkm.size;clear hst hkm hex hk' hx;go_wp2_with (go_at_call 51;(with_reducible refine(HP.out).mono ?_);rintro e w5 ⟨⟨v5,rfl⟩,own5,cs5,p5,r15,r25,A5,C5,s5,k5,e5,l5,l6⟩);refine⟨⟨k+1,own5,cs5,p5,r15,r25,A5,C5,by omega,by go_num,?_,HKM.out.trans' k5 (fun y hy hf=>Jj HEX.out hy hf),fun y hy=>(e5 y (Ut hy HKM.out.size)).trans (HEX.out y hy),by omega,by omega⟩,by simp[intOf];omega⟩;rw[HTK.out];exact s5
  ·obtain rfl:k=ins.length:=by omega
   rw[PM]at hst;have hg:∀g,w.heap.size≤g→¬lT own b g:=fun g hg=>vu HB0.out (HZ.out g hg);have t3:=K3.out.at HT0.out (hg _ (Po _));have t4:=hkm.at t3 (hg _ (Po _));have D4:=hkm.at D3 (hg _ (by omega));have e40:=aa D4;have t40:=aa t4;have t42:=ak t4;have HTT:=zH t4;have HD4:=zH hst;have HKK:=zH hkm;have HEE:=zH hex;clear hst hkm hex t3 t4 D4;go_wp2_with fail;have t5:=aq (aq HTT.out 0 (.slice Ao ou.length co)) 1 (.slice Ai ins.length ci);have u0:=aa t5 0;have u1:=aa t5 1;refine Ux (v:=.tuple #[.agg #[.slice Ao ou.length co,.slice Ai ins.length ci],.int .i64 0]) (by simp[results,results22,go_sem,u0,u1]) rfl ?_;have hsw:∀{v:Value} {nn:Nat} {ys:List Value},w3.ownsRow w1.heap.size 93 9 v nn ys→((wr.setCell ⟨w.heap.size,0,none⟩ (.slice Ao ou.length co)).setCell ⟨w.heap.size,1,none⟩ (.slice Ai ins.length ci)).ownsRow w.heap.size 93 9 v nn ys:=fun h=>by
    have hb:∀g,_→¬lT own b g:=fun g e=>hg g (by have:=(h.lt g e).1;omega);have h4:=An h HKK.out hb;have hn4:∀{v':Value} {m:Nat} {zs:List Value},wr.ownsRow w1.heap.size 93 9 v' m zs→v'.ownBlock≠some w.heap.size:=fun h' e=>by have:=(h'.lt _ e).1;omega
    exact aI (Us (Us h4 (a:=⟨w.heap.size,0,none⟩) (hn4 h4) _) (a:=⟨w.heap.size,1,none⟩) (hn4 h4) _) (by omega)
   have hzg:∀{v:Value} {nn:Nat} {ys:List Value},w3.ownsRow w1.heap.size 93 9 v nn ys→∀g,v.ownBlock=some g→own' g=0:=fun h g e=>(HEE.out g (h.lt g e).2).trans (HZ.out g (by have:=(h.lt g e).1;omega));have hkA:=((((Km.of_below (lT own b) HBA.out).trans K3.out).trans HKK.out).setCell (b:=w.heap.size) (j:=0) (fun h=>absurd h (VH _)) (.slice Ao ou.length co)).setCell (b:=w.heap.size) (j:=1) (fun h=>absurd h (VH _)) (.slice Ai ins.length ci);have hww:own' w.heap.size=0:=(HEE.out _ (by omega)).trans (HZ.out _ (Po _));have hks:Km (fun y=>y=w.heap.size) wr ((wr.setCell ⟨w.heap.size,0,none⟩ (.slice Ao ou.length co)).setCell ⟨w.heap.size,1,none⟩ (.slice Ai ins.length ci)):=((Km.refl (fun y=>y=w.heap.size) wr).setCell (b:=w.heap.size) (j:=0) (fun _=>rfl) _).setCell (b:=w.heap.size) (j:=1) (fun _=>rfl) _;have hlf:=rq HRL.out HIV.out;exact⟨_,_,own',rfl,hsw o13.out,hsw o23.out,⟨_,_,_,_,_,_,HD4.out.far hks (fun y hy h1 h2 e=>by
    rw[e,hww]at h1;have:=HB0.out;omega),mQ HRL.out HIV.out,by omega,by omega,by omega⟩,hkA,fun y hy=>HEE.out y (by omega),hzg o13.out,hzg o23.out⟩
end
end
