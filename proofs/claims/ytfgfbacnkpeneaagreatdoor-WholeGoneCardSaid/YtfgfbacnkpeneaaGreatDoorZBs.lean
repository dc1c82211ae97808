/- For WholeGone: contracts of functions and plain laws. -/
import Derived.Test.YtfgfbacnkpeneaaGreatDoorZBr
set_option maxRecDepth 100000
set_option maxHeartbeats 4000000
set_option linter.unusedVariables false
set_option linter.unusedSimpArgs false
namespace Go.Proofs.YtfgfbacnkpeneaaGreatDoor
open Go.Proofs.Tryz Go.ChangeShapes Go.WideShapes Go.ChangeAt Go.RowKit Go.Deep Go.Shelf AvlP
section
structure oT(R:List Sp)(O:List oZ):Prop where
 ex:∃K,wv K∧(∀k,k∈K↔k∈sk R)∧O=MH K
theorem oT.unique{R R':List Sp}{O O':List oZ}(h:oT R O)(h':oT R' O')(hp:R.Perm R'):O=O':=by
 obtain⟨K,k1,k2,rfl⟩:=h.ex;obtain⟨M,m1,m2,rfl⟩:=h'.ex;rw[B9 k1 m1 fun k=>by rw[k2,m2];exact(sj hp).mem_iff]
theorem oT.perm{R R':List Sp}{O:List oZ}(h:oT R O)(hp:R.Perm R'):oT R' O:=by
 obtain⟨K,k1,k2,rfl⟩:=h.ex;exact⟨K,k1,fun k=>by rw[k2];exact(sj hp).mem_iff,rfl⟩
section
variable{own:Nat→Nat}{t:Nat}{w:World}{B q:Nat}{cs:Array Value}{ty:TypeId}{R:List Sp}
theorem yx(h:dZ own t w B q cs ty R)(hk:∀x∈R,x.few)(hl:R.length≤40000):
  Calls prog 39 #[.pointer (some ⟨B,q,none⟩)] w fun e w'=>∃v,e=.returned v∧(∃l,lN w' w.heap.size v l∧oT R (l.map (·.1)))∧Below w.heap.size w w':=by
 obtain⟨p,L,h⟩:=h;exact(J4 h hk hl).mono fun e w' ⟨v,he,⟨l,n,hl⟩,b⟩=>⟨v,he,⟨l,n,⟨_,h.tl.keys.1,h.tl.keys.2,hl⟩⟩,b⟩
theorem yw(hB:w.heap[B]?=some (.cells cs ty (0,0)))(h0:cs[q]?=some (.pointer none))(h1:cs[q+1]?=some (.int .i64 0))(ho:Ow own w)(oB:own B≠t):dZ own t w B q cs ty []:=
 ⟨none,[],hB,h0,h1,bM _ _ _ _ _,ho,oB,zE⟩
end
theorem Hn(A:Option Addr)(c:Nat)(l:List Sp)(hl:∀x∈l,x.In)(hm:l.length≤20000)(w:World)(hr:cm w w.heap.size A l):
  Calls prog 44 #[.slice A l.length c] w fun e w'=>∃v,e=.returned v∧(∃ls,lN w' w.heap.size v ls∧oT (bF (aA l)) (ls.map (·.1)))∧Below w.heap.size w w':=by
 have b0:=zB w (.cells #[.pointer none,.int .i64 0] 70);have n0:=Up w (.cells #[.pointer none,.int .i64 0] 70);have hss:(aA l).length≤l.length:=by
  exact Oi
 have hll:(bF (aA l)).length≤(aA l).length:=Qc _ _;have hlv:∀x∈bF (aA l),x.Vd:=fun x hx=>(cV hl).vd x (bC.1 hx).1;have HS:=zH (fun w1 (b:Below w.heap.size w w1)=>fy A c l hl (by omega) w1 ((hr.below b).more b.size));have HAL:=zH (fun(w1:World) vi (Bi:Nat) (hi:w1.ownsRow Bi 93 9 vi (aA l).length ((aA l).flatMap bg))=>gS (vo:=.slice none 0 0) (lo:=[]) (B:=0) (PS _ _ _ _) hi (by simp) (by omega));generalize bF (aA l)=R at HAL hll hlv⊢;generalize aA l=S at HS HAL hss hll;have HB0:=zH b0;have HN0:=zH n0;have HLV:=zH hlv;clear hr b0 n0 hlv;go_enter func44,ntmps44;go_wp2_with (first |(go_at_call 26;(with_reducible refine(HS.out _ HB0.out).mono ?_);rintro e w1 ⟨vi,rfl,o1,b1⟩;obtain⟨iA,ic,rfl⟩:=an o1;have B1:=ah b1 HB0.out) |(go_at_call 53;(with_reducible refine(HAL.out _ _ _ o1).mono ?_);rintro e w2 ⟨uo,ui,rfl,o0,o2,b2⟩;obtain⟨uA,uc,rfl⟩:=an o2;obtain⟨oA,oc,er0,hr0,_,_,hat0⟩:=bE (l:=[]) o0;subst er0));have z1:w.heap.size<w1.heap.size:=by have:=am (af HN0.out b1);exact this
 have z2:=b2.size;have n2:=af (af HN0.out b1) b2;obtain⟨_,_,er,hr2,_,_,hat⟩:=bE o2;cases er;have hB2:=ah b2 B1;have hin:∀x∈R,x.In:=fun x hx=>(HLV.out x hx).in;have hz:=(uC (own:=fun _=>0) (t:=1) (B:=w.heap.size) (q:=0) (ty:=70) (out:=[]) (R:=[]) (yw n2 rfl rfl (fun _ _=>rfl) (by decide)) (by decide) oA uA oc uc (fun x hx=>by cases hx) hin (by decide) (by omega) ⟨hr0,fun ad e=>⟨rfl,by have:=hat0 ad e;omega,(hat0 ad e).2⟩⟩ ⟨hr2,fun ad e=>⟨rfl,by have:=hat ad e;omega,(hat ad e).2⟩⟩);rw[show([]:List Sp).length=0 from rfl]at hz;have HZ:=zH hz;have HB2:=zH hB2;clear hz hr2 hat hr0 hat0 o0 o2 b1 b2 B1 n2 HS HAL hB2;go_wp2_with (go_at_call 89;(with_reducible refine(HZ.out).mono ?_);rintro e w3 ⟨rfl,⟨own3,cs3,h3,n3,e3⟩,k3⟩);have hb3:Below w.heap.size w w3:=HB2.out.trans (k3.below (fun b hb hf=>hf.elim (fun e=>by omega) (fun e=>absurd e (by simp))) (by omega));rw[Q7]at h3;have HTD:=zH (yx h3 (fun x hx=>(HLV.out x (List.mem_reverse.1 hx)).few) (by rw[Vq];omega));go_wp2_with (go_at_call 39;(with_reducible refine(HTD.out).mono ?_);rintro e w4 ⟨v,rfl,⟨ls,n4,i4⟩,b4⟩);go_ret;exact⟨_,rfl,⟨ls,n4.low hb3.size,i4.perm (Ub _)⟩,ah b4 hb3⟩
end
