/- For WholeGossip: contracts of functions and plain laws. -/
import Derived.Test.YtfgfbacnkpeneaaGreatDoorVBa
import Derived.Test.YtfgfbacnkpeneaaGreatDoorVAp
import Derived.Test.YtfgfbacnkpeneaaGreatDoorVAv
set_option maxRecDepth 100000
set_option maxHeartbeats 4000000
set_option linter.unusedVariables false
set_option linter.unusedSimpArgs false
namespace Go.Proofs.YtfgfbacnkpeneaaGreatDoor
open Go.Proofs.Tryz Go.ChangeShapes Go.WideShapes Go.ChangeAt Go.RowKit Go.Deep
abbrev Qm:=@Go.info_parts
abbrev Qv:=@Go.ownsRow_succ
abbrev QA:=@Go.Oper.semAt_some
abbrev QH:=@Array.replicate_succ
abbrev QI:=@Array.replicate_zero
abbrev QJ:=@List.push_toArray
abbrev QK:=@List.append_toArray
abbrev QR:=@Go.callsIn_of_wp_marks
abbrev QS:=@Go.Proofs.enters_of
abbrev UR:=@List.flatMap_cons
abbrev RI:=@Go.Proofs.Tryz.func173
abbrev RJ:=@Go.Proofs.Tryz.ntmps173
abbrev R0:=@Go.Boxed.new
abbrev Sa:=@Go.wpIn_rangeFunc_ownH
abbrev Vg:=@List.getElem?_append_right
abbrev Sn:=@Go.Proofs.Tryz.underlying80
abbrev VK:=@List.getElem?_cons_zero
abbrev VM:=@List.getElem?_append_left
abbrev TD:=@Go.KeepsOthers.alloc
abbrev TW:=@Go.wpListIn_append_own
theorem No{P:Prop}(h:P:=by
 clear hr hm hp;generalize l.any p=m at HI⊢;go_enter func101,ntmps101;go_wp2_with (go_at_call 173;with_reducible refine(HI.out).mono ?_;rintro e w1 ⟨⟨i,rfl,hi⟩,b1⟩);go_ret;exact⟨rfl,b1⟩):P:=h
theorem Ws{P:Prop}(h:P:=by
 rintro l pre z a' W hl' ⟨r,hr'⟩ ⟨⟨v,hv,hr⟩,hb⟩ ⟨Bx,hBx,bX,rfl⟩ hlen;have hvc:=hv.cell;have hvf:=hv.frozen;have hbs:=hb.size;have hpl:pre.length<700000:=by omega
 simp only[bg]at bX;have x0:=aa bX;gi_wp2_with (gi_at_builtin;go_loud (refine TW _ rfl _ _ 22 rfl w.heap.size 93 i0 (.agg SZ) 9 88 UF hi hz0 hz1 hz2 rfl (by decide) _ _ _ rfl (hr.alloc _) ⟨W.heap.size,0,none⟩ 1 1 (bg z.1.2) rfl rfl (cJ W _ _) (by simp[bg,Value.oneCell']) (by unfold maxLen;omega) (by omega) (by simp;omega) ?_;intro v' w1 hown' hgrow _;obtain⟨g',cap',rfl⟩:=Qv hown';obtain⟨hv1,hv2,hr2,hk2,hb2⟩:=hv.appended (by decide) hr hb.size (Po _) hown' hgrow;have hc1:=hv1.cell;have hf1:=hv1.frozen));exact⟨hk2.from _,bG (fun b hb=>(hT.at b hb).2) hb2,jm hb hb2 hv2 hr2⟩):P:=h
theorem Wu{P:Prop}(h:P:=by
 have hvc:=hv.cell;gi_wp2;refine⟨by simp,.inl ⟨_,_,rfl,run_takeDeferred hK,?_⟩⟩;refine⟨_,results_tmp rfl _ _ _,?_⟩;exact⟨_,rfl,ka (hS.trans hTl) hb hr (by omega) (Po _) hK⟩):P:=h
theorem Wv{P:Prop}(h:P:=by
 exact⟨⟨k+1,by omega,by go_num,HGO.out,hb.trans (b1.mono hb.size)⟩,by simp[intOf];omega⟩):P:=h
theorem Wx{P:Prop}(h:P:=by
 go_wp2_with fail;go_ret;have:=HMY.out;rw[PM]at this;exact⟨⟨_,rfl,by rw[this];rfl⟩,hb⟩):P:=h
theorem Wz{P:Prop}(h:P:=by
 intro l pre z W K hI hK;gi_wp2;have hs1:=hI.2.size;exact hK _ _ ((TD _ _).from _) (bG (n:=W.heap.size) (fun b hb=>by have:=(hT.at b hb).2;omega) (ae _ (Pk _ _))) ((eu (B:=W0.heap.size) (by omega) (Po _)).alloc _ hI) ⟨W.heap.size,QZ _,Up _ _,rfl⟩):P:=h
theorem NN{P:Prop}(h:P:=by
 go_ret;exact⟨⟨_,rfl,by rw[HBAD.out];simp⟩,hb.trans (b1.mono hb.size)⟩):P:=h
theorem NT{P:Prop}(h:P:=by
 rintro D c pre W _ _ h _;exact h.elim):P:=h
theorem N9{P:Prop}(h:P:=by
 rw[Pq]at this;rw[hW0];exact aa this 0):P:=h
theorem Oc{P:Prop}(h:P:=by
 constructor
 ·intro e;have h1:=h.box;rw[←e,h.quo.box]at h1;simp at h1
 ·intro e;obtain⟨g,hm,_⟩:=h.quo.map;obtain⟨es,cl,hb,_⟩:=hm.ex;have h1:=h.box;rw[←e,hb]at h1;cases h1):P:=h
section
open Go.Shelf AvlP
attribute [local go_sem] QA
theorem aI{w:World}{b0 b1 n sz:Nat}{e:TypeId}{v:Value}{xs:List Value}(h:w.ownsRow b1 e sz v n xs)(hb:b0≤b1):w.ownsRow b0 e sz v n xs:=by
 refine⟨h.1,?_⟩;rcases h.2 with hn |⟨g,cap,cur,rfl,hg,rest⟩
 ·exact .inl hn
 ·exact .inr ⟨g,cap,cur,rfl,Pt hb hg,rest⟩
def bg(x:Sp):List Value:=[.int .i64 x.tr,.int .i64 x.id,.int .i64 x.pa,.int .i64 x.rv,.string x.sv,.string x.op,.int .i64 x.st,.int .i64 x.du,.bool x.gn]
theorem cC:(prog.info? 93).map (fun i=>(i.zero,i.size,i.bytes))=some (some (.agg SZ),9,88):=by kernel_rfl
section
variable{t:Nat}{own:Nat→Nat}{w:World}{p:Option Addr}{L:List (ByteArray×Sp)}
theorem we(B q:Nat)(hc:w.cell? ⟨B,q,none⟩=some (.pointer p))(hT:dm AvS.nd oS own t w p L)(hl:L.length≤700000):
  Calls prog 59 #[.pointer (some ⟨B,q,none⟩)] w fun e w'=>∃v,e=.returned v∧w'.ownsRow w.heap.size 93 9 v L.length (L.flatMap fun z=>bg z.2)∧Below w.heap.size w w':=by
 refine(PE (n:=9)).1 ?_;refine QR func59 rfl trivial ?_ rfl;simp only[ntmps59,UH,PC,Qe,Nat.reduceAdd,Nat.reduceSub,QH,QI,QJ,QK,PQ,PN];obtain⟨T,hp,hTl,hT,hTn,hTs⟩:=hT;have hTlen:T.toL.length=L.length:=congrArg _ hTl;have hbw:B<w.heap.size:=Uy w _ hc;gi_wp2_with (refine⟨trivial,?_⟩;gi_at_call 45;refine(PE.2 (L0 ⟨B,q,none⟩ _)).mono ?_;rintro e w1 ⟨rfl,rfl⟩);have hb1:Below w.heap.size w ((w.alloc (.cells #[.slice none 0 0] 22)).alloc (.cells #[.pointer (some ⟨B,q,none⟩)] 158)):=zb;obtain⟨W0,hW0⟩:∃W0,W0=(w.alloc (.cells #[.slice none 0 0] 22)).alloc (.cells #[.pointer (some ⟨B,q,none⟩)] 158):=⟨_,rfl⟩;have hsz:W0.heap.size=w.heap.size+2:=by rw[hW0,Pq,Pq]
 have hx:W0.cell? ⟨w.heap.size+1,0,none⟩=some (.pointer (some ⟨B,q,none⟩)):=by
  have:=Up (w.alloc (.cells #[.slice none 0 0] 22)) (.cells #[.pointer (some ⟨B,q,none⟩)] 158);exact N9
 have hbox:Boxed W0 w.heap.size 22 (.slice none 0 0):=hW0▸(R0 w _ _).alloc _;rw[←hW0]at hb1⊢;have hst:=nm (own:=own) (t:=t) 8 (w.heap.size+1) B q T W0 hx ((hb1.cell (p:=⟨B,q,none⟩) hbw).trans (hp▸hc)) (hT.below hb1) (hTl▸hTs);obtain⟨i0,hi,hz0,hz1,hz2⟩:=Qm cC;refine Sa rfl (by omega) (gf:=90) (lb:=#[.pointer (some ⟨w.heap.size+1,0,none⟩)]) rfl trivial (QS func90 (by kernel_rfl) rfl) hst
  (fun h k=>fh h k) (fun W l o o' hl' hW h1 h2=>gP (w:=W0) (fun b hb=>Ut (hT.at b hb).2 (by omega)) W l o o' hl' hW h1 h2) (Pk _ _) (fun _=>rfl)
  (sM w.heap.size w.heap.size 22 93 9 w List.length (kV fun z=>bg z.2))
  (fun _ _ _=>False) ?hI ?hIx ?h0
  (fun z=>uQ 0 93 (bg z.1.2).toArray fun Bx=>{tmps:=#[.pointer (some ⟨B,q,none⟩),undef,.slice none 0 0,.pointer (some ⟨w.heap.size,0,none⟩),undef,.pointer (some ⟨Bx,0,none⟩),.pointer (some ⟨B,q,none⟩),.func (.func 90) #[] #[.pointer (some ⟨w.heap.size+1,0,none⟩)],.string z.1.1,.agg (SA z.1.2),undef,undef,undef,undef,undef],defers:=[]}) ?hAx ?assign ?body ?done ?stop
 case assign=>
  exact Wz
 case hAx=>exact fun _ _=>jK
 case hIx=>exact fun _=>fun _ _ _ _ hs _ _=>hs
 case stop=>
  exact NT
 case h0=>exact⟨⟨_,hbox,PS _ _ _ _⟩,hb1⟩
 case hI=>exact eu (by omega) (Po _)
 case body=>
  exact Ws
 case done=>
  rintro D zs W hD hS ⟨⟨v,hv,hr⟩,hb⟩ hK;exact Wu
theorem xI(l:List Sp):((av l).flatMap fun z=>bg z.2)=(aA l).flatMap bg:=by unfold aA;rw[List.flatMap_map]
theorem fy(A:Option Addr)(c:Nat)(l:List Sp)(hl:∀x∈l,x.In)(hm:l.length≤700000)(w:World)(hr:cm w w.heap.size A l):
  Calls prog 26 #[.slice A l.length c] w fun e w'=>∃v,e=.returned v∧w'.ownsRow w.heap.size 93 9 v (aA l).length ((aA l).flatMap bg)∧Below w.heap.size w w':=by
 have HN:=zH (wg A c l hl hm w hr);have hlen:(av l).length≤700000:=by have:=bh hl;omega
 have HV:=zH (fun w1 (h:uS w 33 w.heap.size (fun _=>False) w1 (av l))=>by
  obtain⟨own,p,h⟩:=h;exact we (own:=own) (t:=1) w.heap.size 0 (aa h.box 0) h.tr hlen)
 have HF:=zH (xI l);have HS:=zH (show(av l).length=(aA l).length by unfold aA;simp);clear hr hl;go_enter func26,ntmps26;go_wp2_with (first |(go_at_call 60;(with_reducible refine(HN.out).mono ?_);rintro e w1 ⟨rfl,T1⟩) |(go_at_call 59;(with_reducible refine(HV.out _ T1).mono ?_);rintro e w2 ⟨v,rfl,o2,b2⟩));refine Ux (v:=v) (by simp[results,results26,go_sem]) rfl ?_;have b1:=T1.below;refine⟨v,rfl,?_,b1.trans (b2.mono b1.size)⟩;rw[←HF.out,←HS.out];exact aI o2 b1.size
end
end
section
open Go.Shelf AvlP
attribute [local go_sem] QA
section
variable{t:Nat}{own:Nat→Nat}{w:World}{p:Option Addr}{L:List (ByteArray×Sp)}
theorem wO(B:Nat)(hc:w.cell? ⟨B,0,none⟩=some (.pointer p))(hT:dm AvS.nd oS own t w p L)(hl:L.length≤700000):
  Calls prog 17 #[.pointer (some ⟨B,0,none⟩)] w fun e w'=>∃v,e=.returned v∧w'.ownsRow w.heap.size 93 9 v L.length (L.flatMap fun z=>bg z.2)∧Below w.heap.size w w':=by
 refine(PE (n:=9)).1 ?_;refine QR func17 rfl trivial ?_ rfl;simp only[ntmps17,UH,PC,Qe,Nat.reduceAdd,Nat.reduceSub,QH,QI,QJ,QK,PQ,PN];obtain⟨T,hp,hTl,hT,hTn,hTs⟩:=hT;have hTlen:T.toL.length=L.length:=congrArg _ hTl;have hbw:B<w.heap.size:=Uy w _ hc;gi_wp2_with (refine⟨trivial,?_⟩;gi_at_call 45;refine(PE.2 (L0 ⟨B,0,none⟩ _)).mono ?_;rintro e w1 ⟨rfl,rfl⟩);have hb1:Below w.heap.size w ((w.alloc (.cells #[.slice none 0 0] 22)).alloc (.cells #[.pointer (some ⟨B,0,none⟩)] 158)):=zb;obtain⟨W0,hW0⟩:∃W0,W0=(w.alloc (.cells #[.slice none 0 0] 22)).alloc (.cells #[.pointer (some ⟨B,0,none⟩)] 158):=⟨_,rfl⟩;have hsz:W0.heap.size=w.heap.size+2:=by rw[hW0,Pq,Pq]
 have hx:W0.cell? ⟨w.heap.size+1,0,none⟩=some (.pointer (some ⟨B,0,none⟩)):=by
  have:=Up (w.alloc (.cells #[.slice none 0 0] 22)) (.cells #[.pointer (some ⟨B,0,none⟩)] 158);exact N9
 have hbox:Boxed W0 w.heap.size 22 (.slice none 0 0):=hW0▸(R0 w _ _).alloc _;rw[←hW0]at hb1⊢;have hst:=nm (own:=own) (t:=t) 8 (w.heap.size+1) B 0 T W0 hx ((hb1.cell (p:=⟨B,0,none⟩) hbw).trans (hp▸hc)) (hT.below hb1) (hTl▸hTs);obtain⟨i0,hi,hz0,hz1,hz2⟩:=Qm cC;refine Sa rfl (by omega) (gf:=90) (lb:=#[.pointer (some ⟨w.heap.size+1,0,none⟩)]) rfl trivial (QS func90 (by kernel_rfl) rfl) hst
  (fun h k=>fh h k) (fun W l o o' hl' hW h1 h2=>gP (w:=W0) (fun b hb=>Ut (hT.at b hb).2 (by omega)) W l o o' hl' hW h1 h2) (Pk _ _) (fun _=>rfl)
  (sM w.heap.size w.heap.size 22 93 9 w List.length (kV fun z=>bg z.2))
  (fun _ _ _=>False) ?hI ?hIx ?h0
  (fun z=>uQ 0 93 (bg z.1.2).toArray fun Bx=>{tmps:=#[.pointer (some ⟨B,0,none⟩),undef,.slice none 0 0,.pointer (some ⟨w.heap.size,0,none⟩),undef,.pointer (some ⟨Bx,0,none⟩),.pointer (some ⟨B,0,none⟩),.bool false,undef,.pointer (some ⟨B,0,none⟩),.pointer (some ⟨B,0,none⟩),.pointer (some ⟨B,0,none⟩),.func (.func 90) #[] #[.pointer (some ⟨w.heap.size+1,0,none⟩)],.string z.1.1,.agg (SA z.1.2),undef,undef,undef,undef,undef],defers:=[]}) ?hAx ?assign ?body ?done ?stop
 case assign=>
  exact Wz
 case hAx=>exact fun _ _=>jK
 case hIx=>exact fun _=>fun _ _ _ _ hs _ _=>hs
 case stop=>
  exact NT
 case h0=>exact⟨⟨_,hbox,PS _ _ _ _⟩,hb1⟩
 case hI=>exact eu (by omega) (Po _)
 case body=>
  exact Ws
 case done=>
  rintro D zs W hD hS ⟨⟨v,hv,hr⟩,hb⟩ hK;exact Wu
end
def iq(x:Pl):List Value:=[.int .i64 x.tr,.int .i64 x.id,.int .i64 x.cl,.int .i64 x.de,.int .i64 x.to,.int .i64 x.fa]
theorem mZ:(prog.info? 98).map (fun i=>(i.zero,i.size,i.bytes))=some (some (.agg PZ),6,48):=by kernel_rfl
theorem Hy(B q:Nat)(w:World):Calls prog 73 #[.pointer (some ⟨B,q,none⟩)] w fun e w'=>e=.returned (.func (.func 198) #[] #[.pointer (some ⟨w.heap.size,0,none⟩)])∧w'=w.alloc (.cells #[.pointer (some ⟨B,q+4,none⟩)] 241):=by
 have HA:=zH (MM ⟨B,q+4,none⟩ w);go_enter func73,ntmps73;go_wp2_with (go_at_call 127;(with_reducible refine(HA.out).mono ?_);rintro e w2 ⟨rfl,rfl⟩);go_ret;exact⟨rfl,rfl⟩
section
variable{t:Nat}{own:Nat→Nat}{w:World}{p:Option Addr}
theorem yJ(B q:Nat){L:List (ByteArray×Pl)}(hc:w.cell? ⟨B,q+4,none⟩=some (.pointer p))(hT:dm AvP.nd oS own t w p L)(hl:L.length≤700000):
  Calls prog 33 #[.pointer (some ⟨B,q,none⟩)] w fun e w'=>∃v,e=.returned v∧w'.ownsRow w.heap.size 98 6 v L.length (L.flatMap fun z=>iq z.2)∧Below w.heap.size w w':=by
 refine(PE (n:=9)).1 ?_;refine QR func33 rfl trivial ?_ rfl;simp only[ntmps33,UH,PC,Qe,Nat.reduceAdd,Nat.reduceSub,QH,QI,QJ,QK,PQ,PN];obtain⟨T,hp,hTl,hT,hTn,hTs⟩:=hT;have hTlen:T.toL.length=L.length:=congrArg _ hTl;have hbw:B<w.heap.size:=Uy w _ hc;gi_wp2_with (refine⟨trivial,?_⟩;gi_at_call 73;refine(PE.2 (Hy B q _)).mono ?_;rintro e w1 ⟨rfl,rfl⟩);have hb1:Below w.heap.size w ((w.alloc (.cells #[.slice none 0 0] 80)).alloc (.cells #[.pointer (some ⟨B,q+4,none⟩)] 241)):=zb;obtain⟨W0,hW0⟩:∃W0,W0=(w.alloc (.cells #[.slice none 0 0] 80)).alloc (.cells #[.pointer (some ⟨B,q+4,none⟩)] 241):=⟨_,rfl⟩;have hsz:W0.heap.size=w.heap.size+2:=by rw[hW0,Pq,Pq]
 have hx:W0.cell? ⟨w.heap.size+1,0,none⟩=some (.pointer (some ⟨B,q+4,none⟩)):=by
  have:=Up (w.alloc (.cells #[.slice none 0 0] 80)) (.cells #[.pointer (some ⟨B,q+4,none⟩)] 241);exact N9
 have hbox:Boxed W0 w.heap.size 80 (.slice none 0 0):=hW0▸(R0 w _ _).alloc _;rw[←hW0]at hb1⊢;have hst:=sI (own:=own) (t:=t) 8 (w.heap.size+1) B (q+4) T W0 hx ((hb1.cell (p:=⟨B,q+4,none⟩) hbw).trans (hp▸hc)) (hT.below hb1) (hTl▸hTs);obtain⟨i0,hi,hz0,hz1,hz2⟩:=Qm mZ;refine Sa rfl (by omega) (gf:=198) (lb:=#[.pointer (some ⟨w.heap.size+1,0,none⟩)]) rfl trivial (QS func198 (by kernel_rfl) rfl) hst
  (fun h k=>fh h k) (fun W l o o' hl' hW h1 h2=>gP (w:=W0) (fun b hb=>Ut (hT.at b hb).2 (by omega)) W l o o' hl' hW h1 h2) (Pk _ _) (fun _=>rfl)
  (sM w.heap.size w.heap.size 80 98 6 w List.length (kV fun z=>iq z.2))
  (fun _ _ _=>False) ?hI ?hIx ?h0
  (fun z=>uQ 0 98 (iq z.1.2).toArray fun Bx=>{tmps:=#[.pointer (some ⟨B,q,none⟩),undef,.slice none 0 0,.pointer (some ⟨w.heap.size,0,none⟩),undef,.pointer (some ⟨Bx,0,none⟩),.pointer (some ⟨B,q,none⟩),.func (.func 198) #[] #[.pointer (some ⟨w.heap.size+1,0,none⟩)],.string z.1.1,.agg (PA z.1.2),undef,undef,undef,undef,undef],defers:=[]}) ?hAx ?assign ?body ?done ?stop
 case assign=>
  exact Wz
 case hAx=>exact fun _ _=>jK
 case hIx=>exact fun _=>fun _ _ _ _ hs _ _=>hs
 case stop=>
  exact NT
 case h0=>exact⟨⟨_,hbox,PS _ _ _ _⟩,hb1⟩
 case hI=>exact eu (by omega) (Po _)
 case body=>
  rintro l pre z a' W hl' ⟨r,hr'⟩ ⟨⟨v,hv,hr⟩,hb⟩ ⟨Bx,hBx,bX,rfl⟩ hlen;have hvc:=hv.cell;have hvf:=hv.frozen;have hbs:=hb.size;have hpl:pre.length<700000:=by omega
  simp only[iq]at bX;have x0:=aa bX;gi_wp2_with (gi_at_builtin;go_loud (refine TW _ rfl _ _ 80 rfl w.heap.size 98 i0 (.agg PZ) 6 48 Sn hi hz0 hz1 hz2 rfl (by decide) _ _ _ rfl (hr.alloc _) ⟨W.heap.size,0,none⟩ 1 1 (iq z.1.2) rfl rfl (cJ W _ _) (by simp[iq,Value.oneCell']) (by unfold maxLen;omega) (by omega) (by simp;omega) ?_;intro v' w1 hown' hgrow _;obtain⟨g',cap',rfl⟩:=Qv hown';obtain⟨hv1,hv2,hr2,hk2,hb2⟩:=hv.appended (by decide) hr hb.size (Po _) hown' hgrow;have hc1:=hv1.cell;have hf1:=hv1.frozen));exact⟨hk2.from _,bG (fun b hb=>(hT.at b hb).2) hb2,jm hb hb2 hv2 hr2⟩
 case done=>
  rintro D zs W hD hS ⟨⟨v,hv,hr⟩,hb⟩ hK;exact Wu
end
end
section
theorem jn{α:Type}{l:List α}{p:α→Bool}{k:Nat}{x:α}(hk:l[k]?=some x)(h:(l.take k).any p=false)(hx:p x=false):(l.take (k+1)).any p=false:=by
 rw[PO,hk,List.any_append,h];simp[hx]
theorem gH{α:Type}{l:List α}{p:α→Bool}{k:Nat}{x:α}(hk:l[k]?=some x)(hx:p x=true):l.any p=true:=List.any_eq_true.2 ⟨x,Pv hk,hx⟩
theorem GR(u:Addr)(A:Option Addr)(c:Nat)(l:List Sp)(p:Sp→Bool)(hm:l.length≤maxLen)(w:World)(hr:cm w w.heap.size A l)
  (hp:∀x∈l,∀W,Below w.heap.size w W→Calls prog 102 #[.agg (SA x),.pointer (some u)] W fun e w'=>e=.returned (.bool (p x))∧Below W.heap.size W w'):
  Calls prog 173 #[.slice A l.length c,.func (.func 102) #[] #[.pointer (some u)]] w fun e w'=>(∃i:Int,e=.returned (.int .i64 i)∧decide (0≤i)=l.any p)∧Below w.heap.size w w':=by
 unfold maxLen at hm;have HR:=zH hr;have HP:=zH hp;clear hr hp;go_enter RI,RJ;go_wp2_with fail;go_loopw [8] (fun i wr=>∃k:Nat,k≤l.length∧i=.int .i64 k∧(l.take k).any p=false∧Below w.heap.size w wr) (fun i _=>l.length - (intOf i).toNat)
 case atStart=>exact⟨0,by omega,rfl,rfl,Pk _ _⟩
 case round=>
  obtain⟨k,hk,rfl,hany,hb⟩:=hrel;have HMY:=zH hany;clear hany;by_cases hlt:k<l.length
  ·obtain⟨f,hk'⟩:=zg hlt;obtain⟨ad,rfl,hadl,c0,c1,c2,c3,c4,c5,c6,c7,c8⟩:=HR.out.below hb k f hk';have HKK:=zH hk';have ho:=HP.out f (Pv hk') wr hb;have hi1:(k:Int)< (l.length:Int):=by omega
   clear hk';rcases hq:p f with _ |_
   ·have HGO:=zH (jn HKK.out HMY.out hq);rw[hq]at ho;have HO:=zH ho;clear ho hq;go_wp2_with (go_at_call 102;(with_reducible refine(HO.out).mono ?_);rintro e w1 ⟨rfl,b1⟩);exact Wv
   ·have HBAD:=zH (gH HKK.out hq);rw[hq]at ho;have HO:=zH ho;clear ho hq;go_wp2_with (go_at_call 102;(with_reducible refine(HO.out).mono ?_);rintro e w1 ⟨rfl,b1⟩);exact NN
  ·obtain rfl:k=l.length:=by omega
   exact Wx
theorem yO(u:Addr)(A:Option Addr)(c:Nat)(l:List Sp)(p:Sp→Bool)(hm:l.length≤maxLen)(w:World)(hr:cm w w.heap.size A l)
  (hp:∀x∈l,∀W,Below w.heap.size w W→Calls prog 102 #[.agg (SA x),.pointer (some u)] W fun e w'=>e=.returned (.bool (p x))∧Below W.heap.size W w'):
  Calls prog 101 #[.slice A l.length c,.func (.func 102) #[] #[.pointer (some u)]] w fun e w'=>e=.returned (.bool (l.any p))∧Below w.heap.size w w':=by
 have HI:=zH (GR u A c l p hm w hr hp);exact No
theorem GQ(A:Option Addr)(c:Nat)(l:List Sp)(p:Sp→Bool)(hm:l.length≤maxLen)(w:World)(hr:cm w w.heap.size A l)
  (hp:∀x∈l,∀W,Below w.heap.size w W→Calls prog 163 #[.agg (SA x)] W fun e w'=>e=.returned (.bool (p x))∧Below W.heap.size W w'):
  Calls prog 173 #[.slice A l.length c,.func (.func 163) #[] #[]] w fun e w'=>(∃i:Int,e=.returned (.int .i64 i)∧decide (0≤i)=l.any p)∧Below w.heap.size w w':=by
 unfold maxLen at hm;have HR:=zH hr;have HP:=zH hp;clear hr hp;go_enter RI,RJ;go_wp2_with fail;go_loopw [8] (fun i wr=>∃k:Nat,k≤l.length∧i=.int .i64 k∧(l.take k).any p=false∧Below w.heap.size w wr) (fun i _=>l.length - (intOf i).toNat)
 case atStart=>exact⟨0,by omega,rfl,rfl,Pk _ _⟩
 case round=>
  obtain⟨k,hk,rfl,hany,hb⟩:=hrel;have HMY:=zH hany;clear hany;by_cases hlt:k<l.length
  ·obtain⟨f,hk'⟩:=zg hlt;obtain⟨ad,rfl,hadl,c0,c1,c2,c3,c4,c5,c6,c7,c8⟩:=HR.out.below hb k f hk';have HKK:=zH hk';have ho:=HP.out f (Pv hk') wr hb;have hi1:(k:Int)< (l.length:Int):=by omega
   clear hk';rcases hq:p f with _ |_
   ·have HGO:=zH (jn HKK.out HMY.out hq);rw[hq]at ho;have HO:=zH ho;clear ho hq;go_wp2_with (go_at_call 163;(with_reducible refine(HO.out).mono ?_);rintro e w1 ⟨rfl,b1⟩);exact Wv
   ·have HBAD:=zH (gH HKK.out hq);rw[hq]at ho;have HO:=zH ho;clear ho hq;go_wp2_with (go_at_call 163;(with_reducible refine(HO.out).mono ?_);rintro e w1 ⟨rfl,b1⟩);exact NN
  ·obtain rfl:k=l.length:=by omega
   exact Wx
theorem yN(A:Option Addr)(c:Nat)(l:List Sp)(p:Sp→Bool)(hm:l.length≤maxLen)(w:World)(hr:cm w w.heap.size A l)
  (hp:∀x∈l,∀W,Below w.heap.size w W→Calls prog 163 #[.agg (SA x)] W fun e w'=>e=.returned (.bool (p x))∧Below W.heap.size W w'):
  Calls prog 101 #[.slice A l.length c,.func (.func 163) #[] #[]] w fun e w'=>e=.returned (.bool (l.any p))∧Below w.heap.size w w':=by
 have HI:=zH (GQ A c l p hm w hr hp);exact No
theorem GP(u:Addr)(A:Option Addr)(c:Nat)(l:List Sp)(p:Sp→Bool)(hm:l.length≤maxLen)(w:World)(hr:cm w w.heap.size A l)
  (hp:∀x∈l,∀W,Below w.heap.size w W→Calls prog 164 #[.agg (SA x),.pointer (some u)] W fun e w'=>e=.returned (.bool (p x))∧Below W.heap.size W w'):
  Calls prog 173 #[.slice A l.length c,.func (.func 164) #[] #[.pointer (some u)]] w fun e w'=>(∃i:Int,e=.returned (.int .i64 i)∧decide (0≤i)=l.any p)∧Below w.heap.size w w':=by
 unfold maxLen at hm;have HR:=zH hr;have HP:=zH hp;clear hr hp;go_enter RI,RJ;go_wp2_with fail;go_loopw [8] (fun i wr=>∃k:Nat,k≤l.length∧i=.int .i64 k∧(l.take k).any p=false∧Below w.heap.size w wr) (fun i _=>l.length - (intOf i).toNat)
 case atStart=>exact⟨0,by omega,rfl,rfl,Pk _ _⟩
 case round=>
  obtain⟨k,hk,rfl,hany,hb⟩:=hrel;have HMY:=zH hany;clear hany;by_cases hlt:k<l.length
  ·obtain⟨f,hk'⟩:=zg hlt;obtain⟨ad,rfl,hadl,c0,c1,c2,c3,c4,c5,c6,c7,c8⟩:=HR.out.below hb k f hk';have HKK:=zH hk';have ho:=HP.out f (Pv hk') wr hb;have hi1:(k:Int)< (l.length:Int):=by omega
   clear hk';rcases hq:p f with _ |_
   ·have HGO:=zH (jn HKK.out HMY.out hq);rw[hq]at ho;have HO:=zH ho;clear ho hq;go_wp2_with (go_at_call 164;(with_reducible refine(HO.out).mono ?_);rintro e w1 ⟨rfl,b1⟩);exact Wv
   ·have HBAD:=zH (gH HKK.out hq);rw[hq]at ho;have HO:=zH ho;clear ho hq;go_wp2_with (go_at_call 164;(with_reducible refine(HO.out).mono ?_);rintro e w1 ⟨rfl,b1⟩);exact NN
  ·obtain rfl:k=l.length:=by omega
   exact Wx
theorem yM(u:Addr)(A:Option Addr)(c:Nat)(l:List Sp)(p:Sp→Bool)(hm:l.length≤maxLen)(w:World)(hr:cm w w.heap.size A l)
  (hp:∀x∈l,∀W,Below w.heap.size w W→Calls prog 164 #[.agg (SA x),.pointer (some u)] W fun e w'=>e=.returned (.bool (p x))∧Below W.heap.size W w'):
  Calls prog 101 #[.slice A l.length c,.func (.func 164) #[] #[.pointer (some u)]] w fun e w'=>e=.returned (.bool (l.any p))∧Below w.heap.size w w':=by
 have HI:=zH (GP u A c l p hm w hr hp);exact No
theorem GS(A:Option Addr)(c:Nat)(l:List Sp)(p:Sp→Bool)(hm:l.length≤maxLen)(w:World)(hr:cm w w.heap.size A l)
  (hp:∀x∈l,∀W,Below w.heap.size w W→Calls prog 260 #[.agg (SA x)] W fun e w'=>e=.returned (.bool (p x))∧Below W.heap.size W w'):
  Calls prog 173 #[.slice A l.length c,.func (.func 260) #[] #[]] w fun e w'=>(∃i:Int,e=.returned (.int .i64 i)∧decide (0≤i)=l.any p)∧Below w.heap.size w w':=by
 unfold maxLen at hm;have HR:=zH hr;have HP:=zH hp;clear hr hp;go_enter RI,RJ;go_wp2_with fail;go_loopw [8] (fun i wr=>∃k:Nat,k≤l.length∧i=.int .i64 k∧(l.take k).any p=false∧Below w.heap.size w wr) (fun i _=>l.length - (intOf i).toNat)
 case atStart=>exact⟨0,by omega,rfl,rfl,Pk _ _⟩
 case round=>
  obtain⟨k,hk,rfl,hany,hb⟩:=hrel;have HMY:=zH hany;clear hany;by_cases hlt:k<l.length
  ·obtain⟨f,hk'⟩:=zg hlt;obtain⟨ad,rfl,hadl,c0,c1,c2,c3,c4,c5,c6,c7,c8⟩:=HR.out.below hb k f hk';have HKK:=zH hk';have ho:=HP.out f (Pv hk') wr hb;have hi1:(k:Int)< (l.length:Int):=by omega
   clear hk';rcases hq:p f with _ |_
   ·have HGO:=zH (jn HKK.out HMY.out hq);rw[hq]at ho;have HO:=zH ho;clear ho hq;go_wp2_with (go_at_call 260;(with_reducible refine(HO.out).mono ?_);rintro e w1 ⟨rfl,b1⟩);exact Wv
   ·have HBAD:=zH (gH HKK.out hq);rw[hq]at ho;have HO:=zH ho;clear ho hq;go_wp2_with (go_at_call 260;(with_reducible refine(HO.out).mono ?_);rintro e w1 ⟨rfl,b1⟩);exact NN
  ·obtain rfl:k=l.length:=by omega
   exact Wx
theorem yP(A:Option Addr)(c:Nat)(l:List Sp)(p:Sp→Bool)(hm:l.length≤maxLen)(w:World)(hr:cm w w.heap.size A l)
  (hp:∀x∈l,∀W,Below w.heap.size w W→Calls prog 260 #[.agg (SA x)] W fun e w'=>e=.returned (.bool (p x))∧Below W.heap.size W w'):
  Calls prog 101 #[.slice A l.length c,.func (.func 260) #[] #[]] w fun e w'=>e=.returned (.bool (l.any p))∧Below w.heap.size w w':=by
 have HI:=zH (GS A c l p hm w hr hp);exact No
theorem GT(A:Option Addr)(c:Nat)(l:List Sp)(p:Sp→Bool)(hm:l.length≤maxLen)(w:World)(hr:cm w w.heap.size A l)
  (hp:∀x∈l,∀W,Below w.heap.size w W→Calls prog 238 #[.agg (SA x)] W fun e w'=>e=.returned (.bool (p x))∧Below W.heap.size W w'):
  Calls prog 173 #[.slice A l.length c,.func (.func 238) #[] #[]] w fun e w'=>(∃i:Int,e=.returned (.int .i64 i)∧decide (0≤i)=l.any p)∧Below w.heap.size w w':=by
 unfold maxLen at hm;have HR:=zH hr;have HP:=zH hp;clear hr hp;go_enter RI,RJ;go_wp2_with fail;go_loopw [8] (fun i wr=>∃k:Nat,k≤l.length∧i=.int .i64 k∧(l.take k).any p=false∧Below w.heap.size w wr) (fun i _=>l.length - (intOf i).toNat)
 case atStart=>exact⟨0,by omega,rfl,rfl,Pk _ _⟩
 case round=>
  obtain⟨k,hk,rfl,hany,hb⟩:=hrel;have HMY:=zH hany;clear hany;by_cases hlt:k<l.length
  ·obtain⟨f,hk'⟩:=zg hlt;obtain⟨ad,rfl,hadl,c0,c1,c2,c3,c4,c5,c6,c7,c8⟩:=HR.out.below hb k f hk';have HKK:=zH hk';have ho:=HP.out f (Pv hk') wr hb;have hi1:(k:Int)< (l.length:Int):=by omega
   clear hk';rcases hq:p f with _ |_
   ·have HGO:=zH (jn HKK.out HMY.out hq);rw[hq]at ho;have HO:=zH ho;clear ho hq;go_wp2_with (go_at_call 238;(with_reducible refine(HO.out).mono ?_);rintro e w1 ⟨rfl,b1⟩);exact Wv
   ·have HBAD:=zH (gH HKK.out hq);rw[hq]at ho;have HO:=zH ho;clear ho hq;go_wp2_with (go_at_call 238;(with_reducible refine(HO.out).mono ?_);rintro e w1 ⟨rfl,b1⟩);exact NN
  ·obtain rfl:k=l.length:=by omega
   exact Wx
theorem yQ(A:Option Addr)(c:Nat)(l:List Sp)(p:Sp→Bool)(hm:l.length≤maxLen)(w:World)(hr:cm w w.heap.size A l)
  (hp:∀x∈l,∀W,Below w.heap.size w W→Calls prog 238 #[.agg (SA x)] W fun e w'=>e=.returned (.bool (p x))∧Below W.heap.size W w'):
  Calls prog 101 #[.slice A l.length c,.func (.func 238) #[] #[]] w fun e w'=>e=.returned (.bool (l.any p))∧Below w.heap.size w w':=by
 have HI:=zH (GT A c l p hm w hr hp);exact No
theorem GU(A:Option Addr)(c:Nat)(l:List Sp)(p:Sp→Bool)(hm:l.length≤maxLen)(w:World)(hr:cm w w.heap.size A l)
  (hp:∀x∈l,∀W,Below w.heap.size w W→Calls prog 227 #[.agg (SA x)] W fun e w'=>e=.returned (.bool (p x))∧Below W.heap.size W w'):
  Calls prog 173 #[.slice A l.length c,.func (.func 227) #[] #[]] w fun e w'=>(∃i:Int,e=.returned (.int .i64 i)∧decide (0≤i)=l.any p)∧Below w.heap.size w w':=by
 unfold maxLen at hm;have HR:=zH hr;have HP:=zH hp;clear hr hp;go_enter RI,RJ;go_wp2_with fail;go_loopw [8] (fun i wr=>∃k:Nat,k≤l.length∧i=.int .i64 k∧(l.take k).any p=false∧Below w.heap.size w wr) (fun i _=>l.length - (intOf i).toNat)
 case atStart=>exact⟨0,by omega,rfl,rfl,Pk _ _⟩
 case round=>
  obtain⟨k,hk,rfl,hany,hb⟩:=hrel;have HMY:=zH hany;clear hany;by_cases hlt:k<l.length
  ·obtain⟨f,hk'⟩:=zg hlt;obtain⟨ad,rfl,hadl,c0,c1,c2,c3,c4,c5,c6,c7,c8⟩:=HR.out.below hb k f hk';have HKK:=zH hk';have ho:=HP.out f (Pv hk') wr hb;have hi1:(k:Int)< (l.length:Int):=by omega
   clear hk';rcases hq:p f with _ |_
   ·have HGO:=zH (jn HKK.out HMY.out hq);rw[hq]at ho;have HO:=zH ho;clear ho hq;go_wp2_with (go_at_call 227;(with_reducible refine(HO.out).mono ?_);rintro e w1 ⟨rfl,b1⟩);exact Wv
   ·have HBAD:=zH (gH HKK.out hq);rw[hq]at ho;have HO:=zH ho;clear ho hq;go_wp2_with (go_at_call 227;(with_reducible refine(HO.out).mono ?_);rintro e w1 ⟨rfl,b1⟩);exact NN
  ·obtain rfl:k=l.length:=by omega
   exact Wx
theorem qi(A:Option Addr)(c:Nat)(l:List Sp)(p:Sp→Bool)(hm:l.length≤maxLen)(w:World)(hr:cm w w.heap.size A l)
  (hp:∀x∈l,∀W,Below w.heap.size w W→Calls prog 227 #[.agg (SA x)] W fun e w'=>e=.returned (.bool (p x))∧Below W.heap.size W w'):
  Calls prog 101 #[.slice A l.length c,.func (.func 227) #[] #[]] w fun e w'=>e=.returned (.bool (l.any p))∧Below w.heap.size w w':=by
 have HI:=zH (GU A c l p hm w hr hp);exact No
theorem GV(A:Option Addr)(c:Nat)(l:List Sp)(p:Sp→Bool)(hm:l.length≤maxLen)(w:World)(hr:cm w w.heap.size A l)
  (hp:∀x∈l,∀W,Below w.heap.size w W→Calls prog 250 #[.agg (SA x)] W fun e w'=>e=.returned (.bool (p x))∧Below W.heap.size W w'):
  Calls prog 173 #[.slice A l.length c,.func (.func 250) #[] #[]] w fun e w'=>(∃i:Int,e=.returned (.int .i64 i)∧decide (0≤i)=l.any p)∧Below w.heap.size w w':=by
 unfold maxLen at hm;have HR:=zH hr;have HP:=zH hp;clear hr hp;go_enter RI,RJ;go_wp2_with fail;go_loopw [8] (fun i wr=>∃k:Nat,k≤l.length∧i=.int .i64 k∧(l.take k).any p=false∧Below w.heap.size w wr) (fun i _=>l.length - (intOf i).toNat)
 case atStart=>exact⟨0,by omega,rfl,rfl,Pk _ _⟩
 case round=>
  obtain⟨k,hk,rfl,hany,hb⟩:=hrel;have HMY:=zH hany;clear hany;by_cases hlt:k<l.length
  ·obtain⟨f,hk'⟩:=zg hlt;obtain⟨ad,rfl,hadl,c0,c1,c2,c3,c4,c5,c6,c7,c8⟩:=HR.out.below hb k f hk';have HKK:=zH hk';have ho:=HP.out f (Pv hk') wr hb;have hi1:(k:Int)< (l.length:Int):=by omega
   clear hk';rcases hq:p f with _ |_
   ·have HGO:=zH (jn HKK.out HMY.out hq);rw[hq]at ho;have HO:=zH ho;clear ho hq;go_wp2_with (go_at_call 250;(with_reducible refine(HO.out).mono ?_);rintro e w1 ⟨rfl,b1⟩);exact Wv
   ·have HBAD:=zH (gH HKK.out hq);rw[hq]at ho;have HO:=zH ho;clear ho hq;go_wp2_with (go_at_call 250;(with_reducible refine(HO.out).mono ?_);rintro e w1 ⟨rfl,b1⟩);exact NN
  ·obtain rfl:k=l.length:=by omega
   exact Wx
theorem qj(A:Option Addr)(c:Nat)(l:List Sp)(p:Sp→Bool)(hm:l.length≤maxLen)(w:World)(hr:cm w w.heap.size A l)
  (hp:∀x∈l,∀W,Below w.heap.size w W→Calls prog 250 #[.agg (SA x)] W fun e w'=>e=.returned (.bool (p x))∧Below W.heap.size W w'):
  Calls prog 101 #[.slice A l.length c,.func (.func 250) #[] #[]] w fun e w'=>e=.returned (.bool (l.any p))∧Below w.heap.size w w':=by
 have HI:=zH (GV A c l p hm w hr hp);exact No
end
section
open AvlP
theorem fq{w:World}{base n sz:Nat}{e:TypeId}{v:Value}{xs:List Value}(h:w.ownsRow base e sz v n xs):v=.slice none n 0∧n=0∨∃g cap,v=.slice (some ⟨g,0,none⟩) n cap∧n≤cap∧cap≤maxLen∧g<w.heap.size∧base≤g:=by
 rcases h.2 with⟨e1,e2⟩ |⟨g,cap,cur,e1,hb,hg,h3,h4,_⟩
 ·subst e2;exact .inl ⟨e1,rfl⟩
 ·exact .inr ⟨g,cap,e1,h3,h4,(Rj.1 hg).1,hb⟩
theorem Cc(l:List Sp):(l.flatMap bg).length=l.length*9:=by
 induction l with
 |nil=>rfl
 |cons x r ih=>rw[UR,Pu,ih];simp[bg];omega
theorem Lb(l:List Sp):∀{k:Nat} {x:Sp},l[k]?=some x→∀j u,(bg x)[j]?=some u→(l.flatMap bg)[k*9+j]?=some u:=by
 induction l with
 |nil=>intro k x h;simp at h
 |cons y r ih=>
  intro k x h j u hj;rw[UR];have hjl:j<9:=by
   have:=(Qh.1 hj).1;simpa[bg]using this
  cases k with
  |zero=>
   simp only[VK,Option.some.injEq]at h;subst h;rw[Nat.zero_mul,Rf,VM (by simp[bg];omega)];exact hj
  |succ k=>
   have h9:(bg y).length=9:=rfl;rw[Vg (by rw[h9];omega),h9,show(k+1)*9+j - 9=k*9+j by omega];exact ih (by simpa using h) j u hj
theorem bE{w:World}{base:Nat}{e:TypeId}{v:Value}{l:List Sp}(h:w.ownsRow base e 9 v l.length (l.flatMap bg)):∃A c,v=.slice A l.length c∧cm w w.heap.size A l∧l.length≤c∧c≤maxLen∧∀ad,A=some ad→base≤ad.block∧ad.block<w.heap.size:=by
 rcases fq h with⟨rfl,h0⟩ |⟨g,cap,rfl,h1,h2,h3,h4⟩
 ·have:l=[]:=QW h0;subst this;exact⟨none,0,rfl,fun k x hk=>by simp at hk,by simp,by simp,fun ad e=>by cases e⟩
 ·refine⟨_,cap,rfl,fun k x hk=>⟨⟨g,0,none⟩,rfl,h3,?_⟩,h1,h2,fun ad e=>by cases e;exact⟨h4,h3⟩⟩;have key:∀j u,(bg x)[j]?=some u→w.cell? ⟨g,k*9+j,none⟩=some u:=fun j u hj=>by
   have:=h.cells (g:=g) rfl (k*9+j) u (Lb l hk j u hj);have e1:(⟨g,0,none⟩:Addr).add (k*9+j)=⟨g,k*9+j,none⟩:=by unfold Addr.add;split<;>simp_all
   rwa [e1]at this
  have e2:(⟨g,0,none⟩:Addr).add (k*9)=⟨g,k*9,none⟩:=by unfold Addr.add;split<;>simp_all
  rw[e2];exact⟨key 0 _ rfl,key 1 _ rfl,key 2 _ rfl,key 3 _ rfl,key 4 _ rfl,key 5 _ rfl,key 6 _ rfl,key 7 _ rfl,key 8 _ rfl⟩
theorem xb(A A':Option Addr)(c c':Nat)(l:List Sp)(hm:l.length≤maxLen)(w:World)(hr:cm w w.heap.size A l)(hr':cm w w.heap.size A' l):
  Calls prog 172 #[.slice A l.length c,.slice A' l.length c'] w fun e w'=>e=.returned (.bool true)∧Below w.heap.size w w':=by
 unfold maxLen at hm;have HR:=zH hr;have HR':=zH hr';clear hr hr';go_enter func172,ntmps172;go_wp2_with fail;go_loopw [13] (fun i wr=>∃k:Nat,k≤l.length∧i=.int .i64 k∧Below w.heap.size w wr) (fun i _=>l.length - (intOf i).toNat)
 case atStart=>exact⟨0,by omega,rfl,Pk _ _⟩
 case round=>
  obtain⟨k,hk,rfl,hb⟩:=hrel;by_cases hlt:k<l.length
  ·obtain⟨f,hk'⟩:=zg hlt;obtain⟨ad,rfl,hadl,c0,c1,c2,c3,c4,c5,c6,c7,c8⟩:=HR.out.below hb k f hk';obtain⟨ad',rfl,hadl',d0,d1,d2,d3,d4,d5,d6,d7,d8⟩:=HR'.out.below hb k f hk';have hi1:(k:Int)< (l.length:Int):=by omega
   clear hk';go_wp2_with fail;go_quiet (fail);have hb1:=ig hb nq;go_wp2_with fail;exact⟨⟨k+1,by omega,by go_num,hb1⟩,by simp[intOf];omega⟩
  ·obtain rfl:k=l.length:=by omega
   exact WA
theorem Jl{x y:Sp}(h:x≠y):sW ⟨x.tr,x.id,x.pa,x.rv,x.sv,x.op,x.st,x.du,x.gn⟩ ⟨y.tr,y.id,y.pa,y.rv,y.sv,y.op,y.st,y.du,y.gn⟩=false:=Jm h
theorem qU(A:Option Addr)(c:Nat)(l:List Sp)(x:Sp)(hx:x∉l)(hm:l.length≤maxLen)(w:World)(hr:cm w w.heap.size A l):
  Calls prog 174 #[.slice A l.length c,.agg (SA x)] w fun e w'=>e=.returned (.int .i64 (-1))∧Below w.heap.size w w':=by
 unfold maxLen at hm;have HR:=zH hr;have HX:=zH hx;have HB0:=zH (zB w (.cells (SA x) 93));have HN:=zH (Up w (.cells (SA x) 93));clear hr hx;go_enter func174,ntmps174;go_wp2_with fail;go_loopw [8] (fun i wr=>∃k:Nat,k≤l.length∧i=.int .i64 k∧Below w.heap.size w wr∧wr.heap[w.heap.size]?=some (.cells (SA x) 93 (0,0))) (fun i _=>l.length - (intOf i).toNat)
 case atStart=>exact⟨0,by omega,rfl,HB0.out,HN.out⟩
 case round=>
  obtain⟨k,hk,rfl,hb,hn⟩:=hrel;by_cases hlt:k<l.length
  ·obtain⟨f,hk'⟩:=zg hlt;obtain⟨ad,rfl,hadl,c0,c1,c2,c3,c4,c5,c6,c7,c8⟩:=HR.out.below hb k f hk';have hne:=Jl (show x≠f from fun e=>HX.out (e▸Pv hk'));have hi1:(k:Int)< (l.length:Int):=by omega
   have n0:=aa hn;clear hk';go_wp2_with fail;go_quiet (fail);have hb1:=ig hb nq;go_wp2_with fail;exact⟨⟨k+1,by omega,by go_num,hb1,hn⟩,by simp[intOf];omega⟩
  ·obtain rfl:k=l.length:=by omega
   exact WA
theorem nK(A:Option Addr)(c:Nat)(l:List Sp)(x:Sp)(hx:x∉l)(hm:l.length≤maxLen)(w:World)(hr:cm w w.heap.size A l):
  Calls prog 103 #[.slice A l.length c,.agg (SA x)] w fun e w'=>e=.returned (.bool false)∧Below w.heap.size w w':=by
 have hb0:=zB w (.cells (SA x) 93);have HI:=zH (qU A c l x hx hm _ ((hr.below hb0).more hb0.size));have HB:=zH hb0;clear hr hx hb0;go_enter func103,ntmps103;go_wp2_with (go_at_call 174;with_reducible refine(HI.out).mono ?_;rintro e w1 ⟨rfl,b1⟩);go_ret;exact⟨rfl,ah b1 HB.out⟩
theorem uJ(A:Option Addr)(c:Nat)(l:List Sp)(hl:cD l)(hm:l.length≤700000)(w:World)(hr:cm w w.heap.size A l):
  Calls prog 100 #[.slice A l.length c] w fun e w'=>e=.returned (.bool true)∧Below w.heap.size w w':=by
 have HS:=zH (fy A c l (fun x hx=>(hl.vd x hx).in) hm w hr);rw[hl.set]at HS;have HE:=zH (fun w1 (b:Below w.heap.size w w1) A' c' (hr':cm w1 w1.heap.size A' l)=>xb A' A c' c l (by unfold maxLen;omega) w1 hr' ((hr.below b).more b.size));clear hr hl;go_enter func100,ntmps100;go_wp2_with (first |(go_at_call 26;(with_reducible refine(HS.out).mono ?_);rintro e w1 ⟨v,rfl,o1,b1⟩;obtain⟨A1,c1,rfl,r1,_,_,_⟩:=bE o1) |(go_at_call 172;(with_reducible refine(HE.out _ b1 _ _ r1).mono ?_);rintro e w2 ⟨rfl,b2⟩));go_ret;exact⟨rfl,ah b2 b1⟩
theorem DI(D:Nat)(Ai:Option Addr)(ci:Nat)(inn:List Sp)(x:Sp)(hx:x∉inn)(hm:inn.length≤maxLen)(w:World)(hr:cm w w.heap.size Ai inn)(hc:w.cell? ⟨D,1,none⟩=some (.slice Ai inn.length ci)):
  Calls prog 102 #[.agg (SA x),.pointer (some ⟨D,0,none⟩)] w fun e w'=>e=.returned (.bool false)∧Below w.heap.size w w':=by
 have hb0:=zB w (.cells (SA x) 93);have HI:=zH (nK Ai ci inn x hx hm _ ((hr.below hb0).more hb0.size));have d1:=(hb0.cell (Uy w _ hc)).trans hc;have HB:=zH hb0;have nn:=Up w (.cells (SA x) 93);clear hr hx hb0;have n0:=aa nn;clear nn;go_enter func102,ntmps102;go_wp2_with (go_at_call 103;with_reducible refine(HI.out).mono ?_;rintro e w1 ⟨rfl,b1⟩);go_ret;exact⟨rfl,ah b1 HB.out⟩
theorem lE(Ao Ai:Option Addr)(co ci:Nat)(out inn:List Sp)(ho:cD out)(hi:cD inn)(hd:∀x∈out,x∉inn)(hm:out.length≤700000)(hm':inn.length≤700000)(w:World)(hr:cm w w.heap.size Ao out)(hr':cm w w.heap.size Ai inn):
  Calls prog 52 #[.agg #[.slice Ao out.length co,.slice Ai inn.length ci]] w fun e w'=>e=.returned (.bool true)∧Below w.heap.size w w':=by
 have hb0:=zB w (.cells #[.slice Ao out.length co,.slice Ai inn.length ci] 103);have n0:=Up w (.cells #[.slice Ao out.length co,.slice Ai inn.length ci] 103);have H1:=zH (fun w1 (b:Below w.heap.size w w1)=>uJ Ao co out ho hm w1 ((hr.below b).more b.size));have H2:=zH (fun w1 (b:Below w.heap.size w w1)=>uJ Ai ci inn hi hm' w1 ((hr'.below b).more b.size));have hany:out.any (fun _=>false)=false:=by simp
 have H3:=fun w1 (b:Below w.heap.size w w1) (hc:w1.cell? ⟨w.heap.size,1,none⟩=some (.slice Ai inn.length ci))=>yO ⟨w.heap.size,0,none⟩ Ao co out (fun _=>false) (by unfold maxLen;omega) w1 ((hr.below b).more b.size) (fun x hx W hW=>
  DI w.heap.size Ai ci inn x (hd x hx) (by unfold maxLen;omega) W ((hr'.below (b.trans (hW.mono b.size))).more (Pt b.size hW.size)) ((hW.cell (Uy w1 _ hc)).trans hc))
 simp only[hany]at H3;have H3:=zH H3;clear hr hr' ho hi hd;have HB:=zH hb0;have m0:=aa n0;go_enter func52,ntmps52;go_wp2_with (first |(go_at_call 100;(with_reducible refine(H1.out _ HB.out).mono ?_);rintro e w1 ⟨rfl,b1⟩;have B1:=ah b1 HB.out;have n1:=af n0 b1;have k0:=aa n1;clear H1) |(go_at_call 100;(with_reducible refine(H2.out _ B1).mono ?_);rintro e w2 ⟨rfl,b2⟩;have B2:=ah b2 B1;have n2:=af n1 b2;have j0:=aa n2 0;have j1:w2.cell? ⟨w.heap.size,1,none⟩=some (.slice Ai inn.length ci):=aa n2 1) |(go_at_call 101;go_loud ((with_reducible refine(H3.out _ B2 j1).mono ?_);rintro e w3 ⟨rfl,b3⟩)));go_ret;exact⟨rfl,ah b3 B2⟩
end
section
open AvlP BigP
structure aN(own:Nat→Nat)(b:Nat)(w:World)(S Q M:Nat)(lim:Int)(cs:Array Value)(p p1 p2:Option Addr)(L:List (ByteArray×Sp))(A:List (ByteArray×Int))(C:List (ByteArray×Unit))(many:Int)(f:Int→Int):Prop where
 box:w.heap[S]?=some (.cells cs 117 (0,0))
 c2:cs[2]?=some (.int .i64 0)
 c4:cs[4]?=some (.int .i64 (-9223372036854775808))
 c5:cs[5]?=some (.pointer p)
 c6:cs[6]?=some (.int .i64 (L.length:Nat))
 c7:cs[7]?=some (.pointer p1)
 c8:cs[8]?=some (.int .i64 (A.length:Nat))
 c9:cs[9]?=some (.pointer p2)
 c10:cs[10]?=some (.int .i64 (C.length:Nat))
 c11:cs[11]?=some (.pointer (some ⟨Q,0,none⟩))
 tr:dm AvS.nd oS own (b+1) w p L
 a:dm AvI.nd oS own (b+2) w p1 A
 c:dm AvE.nd oS own (b+3) w p2 C
 quo:cS w Q M lim lim many f
 ow:Ow own w
 wS:own S=b
 wQ:own Q=b
 wM:own M=b
 b0:0<b
 ha:∀z∈A,aB z.2
def lT(own:Nat→Nat)(b:Nat)(x:Nat):Prop:=b≤own x∧own x≤b+3
section
variable{own own':Nat→Nat}{b:Nat}{w w':World}{S Q M:Nat}{lim:Int}{cs:Array Value}{p p' p1 p2 r1 r2:Option Addr}{L L':List (ByteArray×Sp)}{A A':List (ByteArray×Int)}{C C':List (ByteArray×Unit)}{many:Int}{f:Int→Int}
theorem aN.below(h:aN own b w S Q M lim cs p p1 p2 L A C many f)(hb:Below w.heap.size w w'):aN own b w' S Q M lim cs p p1 p2 L A C many f:=
 {h with box:=af h.box hb,tr:=h.tr.below hb,a:=h.a.below hb,c:=h.c.below hb,quo:=h.quo.below hb,ow:=h.ow.mono hb.size}
theorem aN.quota{many':Int}{f':Int→Int}(h:aN own b w S Q M lim cs p p1 p2 L A C many f)(hq:cS w' Q M lim lim many' f')(hk:Km (fun x=>x=Q∨x=M) w w'):aN own b w' S Q M lim cs p p1 p2 L A C many' f'∧Km (lT own b) w w':=by
 have hQ:=am h.quo.box;have hS:¬(S=Q∨S=M):=fun e=>by
  have h1:=h.box;rcases e with e |e
  ·rw[e,h.quo.box]at h1;simp at h1
  ·obtain⟨g,hm,_⟩:=h.quo.map;obtain⟨es,cl,hb,_⟩:=hm.ex;rw[e,hb]at h1;cases h1
 have hkp:∀{K V:Type} {N:Nd K V} {o:eN K} {t:Nat} {q:Option Addr} {X:List (K×V)},t≠b→dm N o own t w q X→dm N o own t w' q X:=fun ht hT=>by
  obtain⟨T,h1,h2,h3,h4,h5⟩:=hT;refine⟨T,h1,h2,h3.kept fun x hx=>⟨hk.block x (h3.at x hx).2 fun e=>ht ?_,rfl⟩,h4,h5⟩;have:=(h3.at x hx).1;rcases e with e |e
  ·rw[←this,e,h.wQ]
  ·rw[←this,e,h.wM]
 refine⟨{h with box:=hk.at h.box hS,tr:=hkp (by omega) h.tr,a:=hkp (by omega) h.a,c:=hkp (by omega) h.c,quo:=hq,ow:=h.ow.mono hk.size},hk.mono fun x _ e=>?_⟩;unfold lT;rcases e with e |e
 ·rw[e,h.wQ];omega
 ·rw[e,h.wM];omega
theorem aN.rcd(h:aN own b w S Q M lim cs p p1 p2 L A C many f)(m:bI AvS.nd oS own (b+1) w w' S 5 cs 117 L' own' p'):∃cs',aN own' b w' S Q M lim cs' p' p1 p2 L' A C many f∧Km (lT own b) w w':=by
 have hn:=cX 5 cs (.pointer p') (.int .i64 (L'.length:Nat));have ha:=gh (u:=.pointer p') (v:=.int .i64 (L'.length:Nat)) h.c5 h.c6;have hSw:=am h.box;have hQw:=am h.quo.box;have hMw:=h.quo.map.lt;have hf:∀x,x=S∨own x=b+1→lT own b x:=fun x e=>by
  unfold lT;rcases e with e |e
  ·rw[e,h.wS];omega
  ·omega
 have hne:Q≠S∧M≠S:=by
  exact Oc
 have hk2:∀t,t≠b→t≠b+1→∀x,x<w.heap.size→own x=t→¬(x=S∨own x=b+1):=fun t h1 h2 x _ e hx=>by
  rcases hx with hx |hx
  ·rw[hx,h.wS]at e;exact h1 e.symm
  ·exact h2 (e.symm.trans hx)
 refine⟨_,⟨m.box,(hn.far _ (by omega)).trans h.c2,(hn.far _ (by omega)).trans h.c4,ha.1,ha.2,(hn.far _ (by omega)).trans h.c7,(hn.far _ (by omega)).trans h.c8,(hn.far _ (by omega)).trans h.c9,(hn.far _ (by omega)).trans h.c10,(hn.far _ (by omega)).trans h.c11,
  m.tr,h.a.kp m.kp (hk2 _ (by omega) (by omega)) m.ext,h.c.kp m.kp (hk2 _ (by omega) (by omega)) m.ext,h.quo.kp m.kp.toKm (fun e=>e.elim hne.1 (fun e=>by rw[h.wQ]at e;omega)) (fun e=>e.elim hne.2 (fun e=>by rw[h.wM]at e;omega)),m.ow,(m.ext S hSw).trans h.wS,(m.ext Q hQw).trans h.wQ,(m.ext M hMw).trans h.wM,h.b0,h.ha⟩,m.kp.toKm.mono fun x _ e=>hf x e⟩
theorem aN.two(h:aN own b w S Q M lim cs p p1 p2 L A C many f):BJ own (b+2) (b+3) w S 7 cs 117 p1 p2 A C:=
 ⟨h.box,h.c7,h.c8,h.c9,h.c10,h.a,h.c,h.ow,by rw[h.wS];omega,by rw[h.wS];omega,by omega⟩
theorem aN.ends{cs':Array Value}(h:aN own b w S Q M lim cs p p1 p2 L A C many f)(k:ef own (b+2) (b+3) w w' S 7 cs 117 A' C' own' cs' r1 r2)(hA:∀z∈A',aB z.2):aN own' b w' S Q M lim cs' p r1 r2 L A' C' many f∧Km (lT own b) w w':=by
 have hn:=k.near;have hSw:=am h.box;have hQw:=am h.quo.box;have hMw:=h.quo.map.lt;have hne:Q≠S∧M≠S:=by
  exact Oc
 refine⟨⟨k.st.box,(hn.far _ (by omega)).trans h.c2,(hn.far _ (by omega)).trans h.c4,(hn.far _ (by omega)).trans h.c5,(hn.far _ (by omega)).trans h.c6,k.st.c0,k.st.c1,k.st.c2,k.st.c3,(hn.far _ (by omega)).trans h.c11,
  h.tr.kp k.kp (fun x _ e hx=>by
   rcases hx with hx |hx |hx
   ·rw[hx,h.wS]at e;omega
   ·omega
   ·omega) k.ext,k.st.a,k.st.c,h.quo.kp k.kp.toKm (fun e=>by
   rcases e with e |e |e
   ·exact hne.1 e
   ·rw[h.wQ]at e;omega
   ·rw[h.wQ]at e;omega) (fun e=>by
   rcases e with e |e |e
   ·exact hne.2 e
   ·rw[h.wM]at e;omega
   ·rw[h.wM]at e;omega),k.st.ow,(k.ext S hSw).trans h.wS,(k.ext Q hQw).trans h.wQ,(k.ext M hMw).trans h.wM,h.b0,hA⟩,k.kp.toKm.mono fun x _ e=>?_⟩
 unfold lT;rcases e with e |e |e
 ·rw[e,h.wS];omega
 ·omega
 ·omega
theorem kx(h:aN own b w S Q M lim cs p p1 p2 L A C many f):Calls prog 118 #[.pointer (some ⟨S,0,none⟩)] w fun e w'=>e=.returned (.bool true)∧w=w':=by
 have c11:=(aa h.box 11).trans h.c11;clear h;go_enter func118,ntmps118;exact NR
theorem sU(h:aN own b w S Q M lim cs p p1 p2 L A C many f):Calls prog 162 #[.pointer (some ⟨S,0,none⟩)] w fun e w'=>e=.returned (.int .i64 (-9223372036854775808))∧Below w.heap.size w w':=by
 have HM:=zH (kx h);have hE:=sf (-9223372036854775808) 0 (by unfold aB;omega) (by unfold aB;omega);rw[show jk (-9223372036854775808) 0= -9223372036854775808 by unfold jk Dp cj;omega]at hE;have HE:=zH hE;have HS:=zH h;clear hE h;go_enter func162,ntmps162;go_wp2_with (go_at_call 118;(with_reducible refine(HM.out).mono ?_);rintro e w1 ⟨rfl,rfl⟩);refine zr (fun V=>V.heap[S]?=some (.cells cs 117 (0,0))) HS.out.box fun hS0=>?_;(refine zh hS0 2 9 0 ?_;simp only[zd];((iterate 9 (refine zt (fun W hW=>by have m4:=(aa hW 4).trans HS.out.c4;have m2:=(aa hW 2).trans HS.out.c2;exact zq) ?_;simp only[zp]));refine ac ?_));(refine zo 9 rfl fun K hK=>?_;go_simp);go_at_call 241;(with_reducible refine(HE.out _).mono ?_);rintro e1 w1 ⟨rfl,rfl⟩;go_wp2_with fail;(refine zu hK hS0 ?_;clear hK K;try simp only[zp]);(refine zh hS0 0 1 10 ?_;simp only[zd];((iterate 1 (refine zU ?_;simp only[zp]));refine ac ?_));(refine ze ?_);go_wp2_with fail;go_ret;exact⟨rfl,(Pk _ _).drew⟩
end
theorem CU{w:World}{b:Nat}{o:Obj}(h:w.heap[b]?=some o):w.drew.heap[b]?=some o:=h
theorem gx{o:Oper}{a:Act}{K':Act→World→Prop}{Q:Exit→Act→World→Prop}{w:World}(p v:Operand)(hop:o.op=Op.store 93 p v){B:Nat}{T:TypeId}{cs:Array Value}{y:Sp}
  (hp:a.eval p=.pointer (some ⟨B,0,none⟩))(hv:a.eval v=.agg (SA y))(h:w.heap[B]?=some (.cells cs T (0,0)))(hs:cs.size=9)
  (hK':∀w',w'.heap[B]?=some (.cells (SA y) T (0,0))→(∀W0 b0,Below b0 W0 w→b0≤B→Below b0 W0 w')→(∀c,c≠B→w'.heap[c]?=w.heap[c]?)→w'.heap.size=w.heap.size→K' (a.put o.dst undef) w'):Oper.wp prog o a w K' Q:=by
 have hk:=hK' _ (Mm h hs y) (fun W0 b0 hb hB=>((((((((hb.setCell (p:=⟨B,0,none⟩) hB _).setCell (p:=⟨B,1,none⟩) hB _).setCell (p:=⟨B,2,none⟩) hB _).setCell (p:=⟨B,3,none⟩) hB _).setCell (p:=⟨B,4,none⟩) hB _).setCell (p:=⟨B,5,none⟩) hB _).setCell (p:=⟨B,6,none⟩) hB _).setCell (p:=⟨B,7,none⟩) hB _).setCell (p:=⟨B,8,none⟩) hB _)
  (fun c hc=>by simp only[QF _ _ c _ (show c≠(⟨B,_,none⟩:Addr).block from hc)]) (by simp only[PK])
 have hl:∀j,j<9→∃u,w.cell? ⟨B,j,none⟩=some u:=fun j hj=>by rw[aa h];exact⟨_,RF (by omega)⟩
 obtain⟨u0,c0⟩:=hl 0 (by omega);obtain⟨u1,c1⟩:=hl 1 (by omega);obtain⟨u2,c2⟩:=hl 2 (by omega);obtain⟨u3,c3⟩:=hl 3 (by omega);obtain⟨u4,c4⟩:=hl 4 (by omega);obtain⟨u5,c5⟩:=hl 5 (by omega);obtain⟨u6,c6⟩:=hl 6 (by omega);obtain⟨u7,c7⟩:=hl 7 (by omega);obtain⟨u8,c8⟩:=hl 8 (by omega);have f0:=ak h 0;have f1:=ak h 1;have f2:=ak h 2;have f3:=ak h 3;have f4:=ak h 4;have f5:=ak h 5;have f6:=ak h 6;have f7:=ak h 7;have f8:=ak h 8;unfold Oper.wp;simp only[execOp,hop,hp,hv];simp[Result.andThen,go_sem,c0,c1,c2,c3,c4,c5,c6,c7,c8,f0,f1,f2,f3,f4,f5,f6,f7,f8];exact hk
section
variable{own own':Nat→Nat}{b:Nat}{w w':World}{S Q M:Nat}{lim:Int}{cs:Array Value}{p p' p1 p2 r1 r2:Option Addr}{L L':List (ByteArray×Sp)}{A A':List (ByteArray×Int)}{C C':List (ByteArray×Unit)}{many:Int}{f:Int→Int}
theorem zL(x:Sp)(hx:x.In)(w:World):Calls prog 163 #[.agg (SA x)] w fun e w'=>e=.returned (.bool false)∧Below w.heap.size w w':=by
 have hM:=lH x hx.ok;rw[show CodeP.may (dG x)=0 by unfold CodeP.may;rw[hx.may];rfl]at hM;have HM:=zH hM;have HB:=zH (zB w (.cells (SA x) 93));have nn:=Up w (.cells (SA x) 93);have n0:=aa nn;clear hM hx nn;go_enter func163,ntmps163;go_wp2_with (go_at_call 112;(with_reducible refine(HM.out _).mono ?_);rintro e w1 ⟨rfl,b1⟩);go_ret;exact⟨rfl,ah b1 HB.out⟩
theorem zK(x:Sp)(hx:x.In)(D:Nat)(w:World)(hc:w.cell? ⟨D,0,none⟩=some (.int .i64 (-9223372036854775808))):Calls prog 164 #[.agg (SA x),.pointer (some ⟨D,0,none⟩)] w fun e w'=>e=.returned (.bool false)∧Below w.heap.size w w':=by
 have hM:=yo x hx.ok (-9223372036854775808);rw[show decide (vX x< -9223372036854775808)=false by rw[UP];unfold vX IA cj;omega]at hM;have HM:=zH hM;have hb:=zB w (.cells (SA x) 93);have hc1:=(hb.cell (Uy w _ hc)).trans hc;have HB:=zH hb;have nn:=Up w (.cells (SA x) 93);have n0:=aa nn;clear hM hx nn hb;go_enter func164,ntmps164;go_wp2_with (go_at_call 165;(with_reducible refine(HM.out _).mono ?_);rintro e w1 ⟨rfl,b1⟩);go_ret;exact⟨rfl,ah b1 HB.out⟩
theorem Dr(h:aN own b w S Q M lim cs p p1 p2 L A C many f)(A0:Option Addr)(c0:Nat)(l:List Sp)(hl:∀x∈l,x.In)(hm:l.length≤700000)(hr:cm w w.heap.size A0 l):
  Calls prog 94 #[.pointer (some ⟨S,0,none⟩),.slice A0 l.length c0] w fun e w'=>e=.returned (.int .i64 0)∧Below w.heap.size w w':=by
 have HH:=zH (sU h);have HM:=zH (fun w1 (b1:Below w.heap.size w w1)=>kx (h.below b1));have hany:l.any (fun _=>false)=false:=by simp
 have h1:=fun w1 (b1:Below w.heap.size w w1)=>yN A0 c0 l (fun _=>false) (by unfold maxLen;omega) w1 ((hr.below b1).more b1.size) (fun x hx W _=>zL x (hl x hx) W);simp only[hany]at h1;have h2:=fun(D:Nat) w1 (b1:Below w.heap.size w w1) (hc:w1.cell? ⟨D,0,none⟩=some (.int .i64 (-9223372036854775808)))=>yM ⟨D,0,none⟩ A0 c0 l (fun _=>false) (by unfold maxLen;omega) w1 ((hr.below b1).more b1.size) (fun x hx W hW=>zK x (hl x hx) D W ((hW.cell (Uy w1 _ hc)).trans hc));simp only[hany]at h2;have H1:=zH h1;have H2:=zH h2;clear h1 h2 h hl hr;go_enter func94,ntmps94;go_wp2_with (first |(go_at_call 162;(with_reducible refine(HH.out).mono ?_);rintro e w1 ⟨rfl,b1⟩;have B1:=ae (.cells #[.int .i64 (-9223372036854775808)] 3) b1;have n1:=Up w1 (.cells #[.int .i64 (-9223372036854775808)] 3)) |(go_at_call 118;(with_reducible refine(HM.out _ B1).mono ?_);rintro e w2 ⟨rfl,rfl⟩) |(go_at_call 101;(with_reducible refine(H1.out _ B1).mono ?_);rintro e w3 ⟨rfl,b3⟩;have B3:=ah b3 B1;have n3:=af n1 b3;have c3:w3.cell? ⟨w1.heap.size,0,none⟩=some (.int .i64 (-9223372036854775808)):=aa n3 0;clear H1) |(go_at_call 101;(with_reducible refine(H2.out _ _ B3 c3).mono ?_);rintro e w4 ⟨rfl,b4⟩));go_ret;exact⟨rfl,ah b4 B3⟩
theorem Du(h:aN own b w S Q M lim cs p p1 p2 L A C many f)(tr id:Int)(h1:aB tr)(h2:aB id)(r:Option Sp)(hr:ag oS L (kk tr id)=r):
  Calls prog 96 #[.pointer (some ⟨S,0,none⟩),.int .i64 tr,.int .i64 id] w fun e w'=>e=.returned (.tuple #[AvS.vo r,.bool r.isSome])∧Below w.heap.size w w':=by
 have hb0:=zB w (.cells SZ 93);have n0:=Up w (.cells SZ 93);have h0:=h.below hb0;have hSw:=am h.box;have HM:=zH (kx h0);have HOF:=zH (cz tr id h1 h2);have HS:=zH h;have HG:=zH (fun w1 (b1:Below w.heap.size w w1)=>Gm (own:=own) (t:=b+1) S 5 p L (kk tr id) w1 ((aa (af h.box b1) 5).trans h.c5) (h.tr.below b1) r hr);obtain⟨y,hy⟩:∃y:Sp,AvS.vo r=.agg (SA y):=by
  cases r with
  |none=>exact⟨⟨0,0,0,0,⟨#[]⟩,⟨#[]⟩,0,0,false⟩,rfl⟩
  |some y=>exact⟨y,rfl⟩
 rw[hy]at HG⊢;generalize r.isSome=bb at HG⊢;clear hy hr h1 h2;have hx0:=h0.box;clear h h0;go_enter func96,ntmps96;go_wp2_with (go_at_call 118;(with_reducible refine(HM.out).mono ?_);rintro e w1 ⟨rfl,rfl⟩);refine zr (fun V=>V.heap[S]?=some (.cells cs 117 (0,0))) hx0 fun hS0=>?_;(refine zh hS0 6 5 0 ?_;simp only[zd];((iterate 5 (refine zU ?_;simp only[zp]));refine ac ?_));(refine zo 5 rfl fun K hK=>?_;go_simp);go_at_call 61;(with_reducible refine(HOF.out _).mono ?_);rintro e1 w1 ⟨rfl,b1⟩;have B1:=ah b1 hb0.drew;have n1:=af (CU n0) b1;have x1:=af hS0 b1;go_wp2_with fail;(refine zu hK x1 ?_;clear hK K;try simp only[zp]);(refine zo 6 rfl fun K hK=>?_;go_simp);go_at_call 105;(with_reducible refine(HG.out _ B1).mono ?_);rintro e2 w2 ⟨rfl,b2⟩;have B2:=ah b2 B1;have n2:=af n1 b2;have x2:=af x1 b2;go_wp2_with fail;(refine zu hK x2 ?_;clear hK K;try simp only[zp]);(refine zh x2 2 2 7 ?_;simp only[zd];((iterate 2 (refine zU ?_;simp only[zp]));refine ac ?_));refine zo 9 rfl fun K hK=>?_;refine gx _ _ rfl rfl rfl n2 rfl ?_;intro w3 n3 hb3 ho3 hs3;have x3:=(ho3 S (by omega)).trans x2;(refine zu hK x3 ?_;clear hK K;try simp only[zp]);(refine zh x3 0 1 10 ?_;simp only[zd];((iterate 1 (refine zU ?_;simp only[zp]));refine ac ?_));(refine ze ?_);have q0:=aa n3 0;have q1:=aa n3 1;have q2:=aa n3 2;have q3:=aa n3 3;have q4:=aa n3 4;have q5:=aa n3 5;have q6:=aa n3 6;have q7:=aa n3 7;have q8:=aa n3 8;go_wp2_with fail;have B3:=hb3 _ _ B2 (Po _);refine Ux (v:=.tuple #[.agg (SA y),.bool bb]) (by simp[results,results96,go_sem,q0,q1,q2,q3,q4,q5,q6,q7,q8]) rfl ?_;exact⟨rfl,B3⟩
end
theorem yy(x:Sp):aB (vX x):=by unfold vX IA cj aB;omega
theorem JG(A:List (ByteArray×Int))(C:List (ByteArray×Unit))(k:ByteArray)(n:Int):(IK A C k n).1.length≤A.length+1∧(IK A C k n).2.length≤C.length+1:=by
 have h:=xE A C k;have h1:=cL oS (jQ A C k).1 k n;have h2:=cL oS (jQ A C k).2 (ee n k) ();unfold IK;simp only;omega
theorem JH{A:List (ByteArray×Int)}{C:List (ByteArray×Unit)}{k:ByteArray}{n:Int}(hA:∀z∈A,aB z.2)(hn:aB n):∀z∈(IK A C k n).1,aB z.2:=fun z hz=>by
 rcases lY oS hz with rfl |hz
 ·exact hn
 ·refine hA z ?_;unfold jQ at hz;split at hz
  ·exact hz
  ·exact(lF oS A k).subset hz
section
variable{own own':Nat→Nat}{b:Nat}{w w':World}{S Q M:Nat}{lim:Int}{cs:Array Value}{p p' p1 p2 r1 r2:Option Addr}{L L':List (ByteArray×Sp)}{A A':List (ByteArray×Int)}{C C':List (ByteArray×Unit)}{many:Int}{f:Int→Int}
theorem Dq(h:aN own b w S Q M lim cs p p1 p2 L A C many f)(x:Sp)(hx:x.Ok)(hL:L.length≤600000)(hA:A.length≤600000)(hC:C.length≤600000):
  Calls prog 51 #[.pointer (some ⟨S,0,none⟩),.agg (SA x)] w fun e w'=>(∃v,e=.returned v)∧∃own' cs' p' r1 r2 A' C',aN own' b w' S Q M lim cs' p' r1 r2 (ay oS L (aj x) x) A' C' many f∧Km (lT own b) w w'∧aO own own' w∧A'.length≤A.length+1∧C'.length≤C.length+1:=by
 have hb0:=zB w (.cells (SA x) 93);have n0:=Up w (.cells (SA x) 93);have h0:=h.below hb0;have hSw:=am h.box;have how:=h.ow w.heap.size (Po _);have hb00:=h.b0;obtain⟨w0,hw0⟩:∃w0,w0=w.alloc (.cells (SA x) 93):=⟨_,rfl⟩;rw[←hw0]at hb0 n0 h0;have HSP:=zH (aL x hx);have HEN:=zH (Cg x hx);have HPT:=zH (fun w1 (b1:Below w0.heap.size w0 w1)=>show Calls prog 56 #[.pointer (some ⟨S,5,none⟩),.string (kk x.tr x.id),.agg (SA x)] w1 fun e w2=>∃own2 cs2 p',e=.returned (.bool (ag oS L (kk x.tr x.id)).isNone)∧aN own2 b w2 S Q M lim cs2 p' p1 p2 (ay oS L (aj x) x) A C many f∧Km (lT own b) w0 w2∧aO own own2 w0∧w2.heap[w.heap.size]?=some (.cells (SA x) 93 (0,0))by
  have h1:=h0.below b1;refine(Gj S 5 cs 117 p L (kk x.tr x.id) x w1 h1.ow h1.box h1.c5 h1.c6 (by rw[h1.wS];omega) h1.tr (by omega)).mono ?_;rintro e w2 ⟨own2,p',he,m⟩;obtain⟨cs2,k1,k2⟩:=h1.rcd m;exact⟨own2,cs2,p',he,k1,(Km.of_below _ b1).trans k2,fun y hy=>m.ext y (Ut hy b1.size),m.kp.at (af n0 b1) (fun e=>by
   rcases e with e |e
   ·omega
   ·omega)⟩)
 have HEP:=zH (fun own2 cs2 p' w2 (h2:aN own2 b w2 S Q M lim cs2 p' p1 p2 (ay oS L (aj x) x) A C many f) (e2:aO own own2 w0) (n2:w2.heap[w.heap.size]?=some (.cells (SA x) 93 (0,0))) w3 (b3:Below w2.heap.size w2 w3)=>show Calls prog 98 #[.pointer (some ⟨S,7,none⟩),.string (kk x.tr x.id),.int .i64 (vX x)] w3 fun e w4=>(∃v,e=.returned v)∧∃own4 cs4 r1 r2 A' C',aN own4 b w4 S Q M lim cs4 p' r1 r2 (ay oS L (aj x) x) A' C' many f∧Km (lT own2 b) w2 w4∧aO own2 own4 w2∧A'.length≤A.length+1∧C'.length≤C.length+1∧w4.heap[w.heap.size]?=some (.cells (SA x) 93 (0,0))by
  have h3:=h2.below b3;have hl:=JG A C (kk x.tr x.id) (vX x);refine(Bb S 7 cs2 117 p1 p2 A C (kk x.tr x.id) (vX x) (aY _ _) (yy x) w3 h3.two h3.ha (by omega) (by omega)).mono ?_;rintro e w4 ⟨own4,cs4,r1,r2,he,k⟩;obtain⟨k1,k2⟩:=h3.ends k (JH h3.ha (yy x));exact⟨he,own4,cs4,r1,r2,_,_,k1,(Km.of_below _ b3).trans k2,fun y hy=>k.ext y (Ut hy b3.size),hl.1,hl.2,k.kp.at (af n2 b3) (fun e=>by
   have:=e2 w.heap.size (am n0);rcases e with e |e |e<;>omega)⟩)
 have hx0:=h0.box;have HBL:=zH hb0;have HFIN:=zH (fun own2 w2 w3 (k1:Km (lT own b) w0 w2) (e1:aO own own2 w0) (k2:Km (lT own2 b) w2 w3)=>show Km (lT own b) w w3 from
  (Km.of_below _ hb0).trans (k1.trans' k2 fun y hy hf=>by unfold lT at hf⊢;rw[e1 y hy]at hf;exact hf))
 have HSZ:=hb0.size;clear h h0 hx hL hA hC hb0;have z0:=aa n0 0;have z1:=aa n0 1;have z2:=aa n0 2;have z3:=aa n0 3;have z4:=aa n0 4;have z5:=aa n0 5;have z6:=aa n0 6;have z7:=aa n0 7;have z8:=aa n0 8;go_enter func51,ntmps51;go_wp2_with fail;rw[←hw0];go_wp2_with (go_at_call 27;(with_reducible refine(HSP.out _).mono ?_);rintro e w1 ⟨rfl,b1⟩);have n1:=af n0 b1;have x1:=af hx0 b1;clear z0 z1 z2 z3 z4 z5 z6 z7 z8;refine zr (fun V=>V.heap[w.heap.size]?=some (.cells (SA x) 93 (0,0))) n1 fun hS0=>?_;(refine zh hS0 1 5 0 ?_;simp only[zd];((iterate 5 (refine zt (fun W hW=>by have y0:=aa hW;exact zq) ?_;simp only[zp]));refine ac ?_));(refine zo 5 rfl fun K hK=>?_;go_simp);go_at_call 56;(with_reducible refine(HPT.out _ b1.drew).mono ?_);rintro e2 w2 ⟨own2,cs2,p2',rfl,h2,k2,e2',n2⟩;go_wp2_with fail;(refine zu hK n2 ?_;clear hK K;try simp only[zp]);(refine ze ?_);go_wp2_with fail;refine zr (fun V=>V.heap[w.heap.size]?=some (.cells (SA x) 93 (0,0))) n2 fun hS0=>?_;(refine zh hS0 2 5 0 ?_;simp only[zd];((iterate 5 (refine zt (fun W hW=>by have y0:=aa hW;exact zq) ?_;simp only[zp]));refine ac ?_));(refine zo 5 rfl fun K hK=>?_;go_simp);go_at_call 99;(with_reducible refine(HEN.out _).mono ?_);rintro e3 w3 ⟨rfl,b3⟩;have B3:=ah b3 (Pk _ w2).drew;have n3:=af hS0 b3;go_wp2_with fail;(refine zu hK n3 ?_;clear hK K;try simp only[zp]);(refine zo 6 rfl fun K hK=>?_;go_simp);go_at_call 98;(with_reducible refine(HEP.out _ _ _ _ h2 e2' n2 _ B3).mono ?_);rintro e4 w4 ⟨⟨v4,rfl⟩,own4,cs4,r1,r2,A4,C4,h4,k4,e4',l1,l2,n4⟩;go_wp2_with fail;(refine zu hK n4 ?_;clear hK K;try simp only[zp]);(refine ze ?_);go_wp2_with fail;go_end0;exact⟨⟨_,rfl⟩,own4,cs4,_,r1,r2,A4,C4,h4,HFIN.out _ _ _ k2 e2' k4,fun y hy=>(e4' y (Ut hy (Pt HSZ k2.size))).trans (e2' y (Ut hy HSZ)),l1,l2⟩
end
end
