/- For WholeGossip: contracts of functions and plain laws. -/
import Derived.Test.YtfgfbacnkpeneaaGreatDoorVAv
import Derived.Test.YtfgfbacnkpeneaaGreatDoorVAp
set_option maxRecDepth 100000
set_option maxHeartbeats 4000000
set_option linter.unusedVariables false
set_option linter.unusedSimpArgs false
namespace Go.Proofs.YtfgfbacnkpeneaaGreatDoor
open Go.Proofs.Tryz Go.ChangeShapes Go.WideShapes Go.ChangeAt Go.RowKit Go.Deep Go.Shelf AvlP
abbrev UW:=@Go.run_takeDeferred
abbrev VJ:=@Go.results_tmp
abbrev TV:=@Go.wpIn_rangeFunc_ownF
section
attribute [local go_sem] Oper.semAt_some
section
variable{t:Nat}{own own':Nat→Nat}{w w':World}{B q:Nat}{cs cs':Array Value}{ty:TypeId}{p p':Option Addr}{L L':List (Int×Int)}{all all':Int}
theorem AM:(prog.info? 237).map (fun i=>(i.zero,i.size,i.bytes))=some (some (.agg #[.int .i64 0,.int .i64 0]),2,16):=by kernel_rfl
def aP(z:Int×Int):List Value:=[.int .i64 z.1,.int .i64 z.2]
theorem nk(h:bD own t w B q cs ty p L all)(hl:L.length≤700000):
  Calls prog 111 #[.pointer (some ⟨B,q,none⟩)] w fun e w'=>∃v,e=.returned v∧w'.ownsRow w.heap.size 237 2 v L.length (L.flatMap aP)∧Below w.heap.size w w':=by
 refine(PE (n:=9)).1 ?_;refine callsIn_of_wp_marks func111 rfl trivial ?_ rfl;simp only[ntmps111,UH,PC,Qe,Nat.reduceAdd,Nat.reduceSub,Array.replicate_succ,Array.replicate_zero,List.push_toArray,List.append_toArray,PQ,PN];obtain⟨T,hp,hTl,hT,hTn,hTs⟩:=h.tr;have hTlen:T.toL.length=L.length:=congrArg _ hTl;have hc:=(aa h.box q).trans h.c0;have hbw:=am h.box;gi_wp2_with (refine⟨trivial,?_⟩;gi_at_call 189;refine(PE.2 (Ko B q _)).mono ?_;rintro e w1 ⟨rfl,rfl⟩);have hb1:Below w.heap.size w ((w.alloc (.cells #[.slice none 0 0] 81)).alloc (.cells #[.pointer (some ⟨B,q,none⟩)] 379)):=zb;obtain⟨W0,hW0⟩:∃W0,W0=(w.alloc (.cells #[.slice none 0 0] 81)).alloc (.cells #[.pointer (some ⟨B,q,none⟩)] 379):=⟨_,rfl⟩;have hsz:W0.heap.size=w.heap.size+2:=by rw[hW0,Pq,Pq]
 have hx:W0.cell? ⟨w.heap.size+1,0,none⟩=some (.pointer (some ⟨B,q,none⟩)):=by
  have:=Up (w.alloc (.cells #[.slice none 0 0] 81)) (.cells #[.pointer (some ⟨B,q,none⟩)] 379);rw[Pq]at this;rw[hW0];exact aa this 0
 rw[←hW0]at hb1⊢;have hst:=BC (own:=own) (t:=t) 8 (w.heap.size+1) B q T W0 hx ((hb1.cell (p:=⟨B,q,none⟩) hbw).trans (hp▸hc)) (hT.below hb1) (hTl▸hTs);have hbox:Boxed W0 w.heap.size 81 (.slice none 0 0):=hW0▸(Boxed.new w _ _).alloc _;obtain⟨i0,hi,hz0,hz1,hz2⟩:=info_parts AM;refine TV rfl (by omega) (gf:=311) (lb:=#[.pointer (some ⟨w.heap.size+1,0,none⟩)]) rfl trivial (enters_of func311 (by kernel_rfl) rfl) hst
  (fun h k=>fh h k) (fun W l o o' hl' hW h1 h2=>gP (w:=W0) (fun b hb=>Ut (hT.at b hb).2 (by omega)) W l o o' hl' hW h1 h2) (Pk _ _) (fun _=>rfl)
  (sM w.heap.size w.heap.size 81 237 2 w List.length (kV aP))
  (fun _ _ _=>False) ?hI ?hIx ?h0
  (fun z=>{tmps:=#[.pointer (some ⟨B,q,none⟩),undef,.slice none 0 0,.pointer (some ⟨w.heap.size,0,none⟩),.int .i64 z.1.1,.int .i64 z.1.2,.pointer (some ⟨B,q,none⟩),.func (.func 311) #[] #[.pointer (some ⟨w.heap.size+1,0,none⟩)],.int .i64 z.1.1,.int .i64 z.1.2,undef,undef,undef,undef,undef,undef,undef],defers:=[]}) ?assign ?body ?done ?stop
 case assign=>
  intro l z W K hK;gi_wp2;exact hK
 case hIx=>exact fun _=>fun _ _ _ _ hs _ _=>hs
 case stop=>
  rintro D c pre W _ _ h _;exact h.elim
 case h0=>exact⟨⟨_,hbox,World.ownsRow_nil _ _ _ _⟩,hb1⟩
 case hI=>exact eu (by omega) (Po _)
 case body=>
  rintro l pre z W ⟨⟨v,hv,hr⟩,hb⟩ hlen;have hvc:=hv.cell;have hvf:=hv.frozen;have hbs:=hb.size;have hpl:pre.length<700000:=by omega
  gi_wp2_with (gi_at_builtin;go_loud (refine wpListIn_append_own _ rfl _ _ 81 rfl w.heap.size 237 i0 (.agg #[.int .i64 0,.int .i64 0]) 2 16 underlying81 hi hz0 hz1 hz2 rfl (by decide) _ _ _ rfl (hr.alloc _) ⟨W.heap.size,0,none⟩ 1 1 (aP z.1) rfl rfl (cJ W _ _) (by simp[aP,Value.oneCell']) (by unfold maxLen;omega) (by omega) (by simp;omega) ?_;intro v' w1 hown' hgrow _;obtain⟨g',cap',rfl⟩:=ownsRow_succ hown';obtain⟨hv1,hv2,hr2,hk2,hb2⟩:=hv.appended (by decide) hr hb.size (Po _) hown' hgrow;have hc1:=hv1.cell;have hf1:=hv1.frozen));exact⟨hk2,bG (fun b hb=>(hT.at b hb).2) hb2,jm hb hb2 hv2 hr2⟩
 case done=>
  rintro D zs W hD hS ⟨⟨v,hv,hr⟩,hb⟩ hK;have hvc:=hv.cell;gi_wp2;refine⟨by simp,.inl ⟨_,_,rfl,UW hK,?_⟩⟩;refine⟨_,VJ rfl _ _ _,?_⟩;exact⟨_,rfl,ka (hS.trans hTl) hb hr (by omega) (Po _) hK⟩
end
end
