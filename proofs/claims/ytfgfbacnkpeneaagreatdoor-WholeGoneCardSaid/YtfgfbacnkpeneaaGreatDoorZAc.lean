/- For WholeGone: contracts of functions and plain laws. -/
import Derived.WalkKit
import Derived.StillTail
import Derived.Deep.QuietTactic
import Derived.BigQuiet
import Derived.Below
set_option maxRecDepth 100000
set_option maxHeartbeats 4000000
set_option linter.unusedVariables false
set_option linter.unusedSimpArgs false
namespace Go.Proofs.YtfgfbacnkpeneaaGreatDoor
abbrev Pk:=@Go.RowKit.Below.refl
abbrev Pq:=@Go.World.size_alloc
abbrev Pt:=@Nat.le_trans
abbrev PD:=@List.length_cons
abbrev Qj:=@Ne.symm
abbrev Rc:=@Nat.lt_or_ge
abbrev Rf:=@Nat.zero_add
abbrev RS:=@List.getElem?_drop
abbrev Se:=@Go.cell_of_row
abbrev Sf:=@Go.RowKit.Below.heap_alloc
theorem OK{P:Prop}(h:P:=by
 rcases Rc j n with h |h
 ·exact h
 ·exact absurd hj (tail_waits hs hc hn inv _ i rfl hin hun j h)):P:=h
section
open Go.RowKit
section
variable{P:Program}{ops:Array Oper}{md:Region.Mode}{C:World→Prop}
def nF(P:Program)(md:Region.Mode)(ops:Array Oper)(C:World→Prop)(n:Nat)(L:Array Bool→Act→Prop):Nat→Array Bool→Act→Prop
 |0,listed,a=>L listed a
 |f+1,listed,a=>
  Region.ready md ops listed≠[]∧∀i∈Region.ready md ops listed,i<n∧qOp P ops C i (nF P md ops C n L f (listed.setIfInBounds i true)) a
theorem lm{n g:Nat}{L:Array Bool→Act→Prop}{Q':Exit→Act→World→Prop}(hL:∀listed a w,C w→L listed a→wpAny P md ops Q' g listed a w):
  ∀(f:Nat) (listed:Array Bool) (a:Act) (w:World),C w→nF P md ops C n L f listed a→wpAny P md ops Q' (f+g) listed a w
 |0,listed,a,w,hC,h=>by rw[Rf];exact hL _ _ _ hC h
 |f+1,listed,a,w,hC,h=>by
  rw[show f+1+g=(f+g)+1 by omega];exact⟨fun h0=>absurd h0 h.1,fun i hi=>wpOp_of_qOp hC (fun a' w' hw' h'=>lm hL f _ a' w' hw' h') (h.2 i hi).2⟩
theorem sQ{n i:Nat}{oi:Oper}{v:Value}{L:Array Bool→Act→Prop}(hi:ops[i]?=some oi)(hsel:∀(j:Nat) (o:Oper) cs b,ops[j]?=some o→o.op≠ .select cs b)
  (hs:Region.sinkB md ops n=true)(hc:Region.chainB md ops n=true)(hn:n<ops.size)(hin:i<n)
  (hdone:∀listed a,L listed a→∀j∈Region.ready md ops listed,n≤j):
  ∀(f:Nat) (listed:Array Bool) (a:Act),HeadInv md ops n listed→
   (∀j oj,ops[j]?=some oj→j≠i→listed.getD j true=false→(∀e∈oj.after,Region.binds md e=true→e.on≠i)→oi.apart ops oj=true)→
   i∈Region.ready md ops listed→YieldsIn P ops C oi v a→
   nF P md ops C n L f (listed.setIfInBounds i true) (a.put oi.dst v)→nF P md ops C n L (f+1) listed a:=by
 intro f;induction f with
 |zero=>
  intro listed a inv _ hr hy H;have hun:=(mem_ready.1 hr).1;refine⟨fun h=>(by rw[h]at hr;cases hr),fun j hj=>?_⟩;have hjn:j<n:=by
   exact OK
  refine⟨hjn,?_⟩;by_cases hji:j=i
  ·subst hji;exact hy.qOp hi H
  ·have:=hdone _ _ H j (ready_mono hj hji);omega
 |succ f ih=>
  intro listed a inv hfree hr hy H;have hun:=(mem_ready.1 hr).1;refine⟨fun h=>(by rw[h]at hr;cases hr),fun j hj=>?_⟩;have hjn:j<n:=by
   exact OK
  refine⟨hjn,?_⟩;by_cases hji:j=i
  ·subst hji;exact hy.qOp hi H
  ·have h1:=(H.2 j (ready_mono hj hji)).2;obtain⟨hjun,oj,hoj,hall⟩:=mem_ready.1 hj;have hnot:∀e∈oj.after,Region.binds md e=true→e.on≠i:=fun e he hb heq=>by
    have h1:=hall e he hb;rw[heq,getD_both hun]at h1;cases h1
   have h2:=qOp_put hoj (hfree j oj hoj hji hjun hnot) (fun cs b=>hsel i oi cs b hi) (fun cs b=>hsel j oj cs b hoj) hy h1;have hfree':∀k ok,ops[k]?=some ok→k≠i→(listed.setIfInBounds j true).getD k true=false→
     (∀e∈ok.after,Region.binds md e=true→e.on≠i)→oi.apart ops ok=true:=fun k ok hk hki hun hno=>by
    refine hfree k ok hk hki ?_ hno;by_cases hjk:j=k
    ·subst hjk;exact hjun
    ·rw[getD_set_ne true hjk]at hun;exact hun
   refine qOp_mono (fun a' h3=>ih (listed.setIfInBounds j true) a' (inv.set hj hjn) hfree' (ready_mono hr (Qj hji)) h3.1 ?_) h2;rw[Array.setIfInBounds_comm _ _ hji];exact h3.2
theorem pM{n g:Nat}{Lq:Act→Prop}(hsel:Region.noSelect ops=true)(hs:Region.sinkB md ops n=true)(hc:Region.chainB md ops n=true)(hn:n<ops.size):
  ∀(l:List Oper) (k:Nat) (listed:Array Bool) (a:Act),(∀j,j<l.length→l[j]?=ops[k+j]?)→k+l.length=n→HeadInv md ops n listed→
  Region.lexHead md ops g l.length k listed=true→wpQuiet P ops C Lq l a→
  nF P md ops C n (fun listed' a'=>Region.seqB md ops g n listed'=true∧Lq a') l.length listed a
 |[],k,listed,a,_,hk,_,hB,h=>by
  have:k=n:=by simpa using hk
  subst this;exact⟨by simpa[Region.lexHead]using hB,h⟩
 |o::l,k,listed,a,hl,hk,inv,hB,h=>by
  have h0:ops[k]?=some o:=by simpa using(hl 0 (by simp)).symm
  simp only[PD,Region.lexHead,Bool.and_eq_true]at hB;obtain⟨⟨hr,hf⟩,hB'⟩:=hB;have hkn:k<n:=by simp only[PD]at hk;omega
  have hr':k∈Region.ready md ops listed:=by simpa using hr
  have hst:qOp P ops C k (wpQuiet P ops C Lq l) a:=by unfold qOp;simp only[h0];exact h
  obtain⟨v,hy,hK⟩:=yieldsIn_of_qOp h0 hst;exact sQ h0 (Region.noSelect_spec hsel) hs hc hn hkn (fun listed' a' hL=>seqB_ready hL.1) l.length listed a inv (Region.free_spec h0 hf) hr' hy
   (pM hsel hs hc hn l (k+1) _ _ (fun j hj=>by have:=hl (j+1) (by simp;omega);simpa[Nat.add_assoc,Nat.add_comm 1 j]using this) (by simp only[PD]at hk;omega) (inv.set hr' hkn) hB' hK)
theorem iS{id:Nat}{Q:Exit→Act→World→Prop}{a:Act}{w:World}{l:List Oper}(n:Nat)(hm:P.follows .mixedOrders=true)(hB:Region.lexTailB .any l.toArray n=true)
  (hC:C {w with drawn:=w.drawn+1})(h:wpQuiet P l.toArray C (fun a'=>∀w',C w'→wpList P l.toArray Q (l.drop n) a' w') (l.take n) a):(Code.region id l.toArray true).wp P Q a w:=by
 simp only[Region.lexTailB,Bool.and_eq_true,decide_eq_true_eq]at hB;obtain⟨⟨⟨⟨hsel,hn⟩,hs⟩,hc⟩,hlex⟩:=hB;have hn':n<l.length:=by simpa using hn
 have htl:(l.take n).length=n:=by simp;omega
 have hdl:(l.drop n).length=l.toArray.size - n:=by simp
 have inv0:HeadInv .any l.toArray n (Array.replicate l.toArray.size false):=
  ⟨by simp,fun j oj _ hl=>(by rw[getD_replicate_false]at hl;cases hl),fun t _ ht=>getD_in (by simpa using ht) (getD_replicate_false _ _)⟩
 have H:=pM (md:=.any) (C:=C) (g:=l.toArray.size - n) hsel hs hc hn (l.take n) 0 _ a (fun j hj=>by
  have hj':j<n:=by rw[htl]at hj;exact hj
  simp[hj']) (by simpa using htl) inv0 (by rw[htl];exact hlex) h
 refine wp_region_any hm ?_;have:=lm (Q':=Q) (g:=l.toArray.size - n) (fun listed a' w' hw' hL=>by
  have:=wpAny_of_seq (md:=.any) (Q':=Q) (l.drop n) n listed a' w' (fun j=>by simp[RS]) (by rw[hdl];exact hL.1) (hL.2 w' hw')
  rwa [hdl]at this) _ _ _ {w with drawn:=w.drawn+1} hC H
 rw[htl,show n+(l.toArray.size - n)=l.toArray.size by omega]at this;exact this
end
theorem lj{P:Program}{id:Nat}{Q:Exit→Act→World→Prop}{a:Act}{w:World}{l:List Oper}(n:Nat)(hm:P.follows .mixedOrders=true)(hB:Region.lexTailB .any l.toArray n=true)
  (h:wpQuiet P l.toArray (fun w'=>∃n,w'=w.drewN n) (fun a'=>∀w',(∃n,w'=w.drewN n)→wpList P l.toArray Q (l.drop n) a' w') (l.take n) a):(Code.region id l.toArray true).wp P Q a w:=
 iS (C:=fun w'=>∃n,w'=w.drewN n) n hm hB ⟨1,rfl⟩ h
theorem kz{P:Program}{f:FuncId}{args:Array Value}{w:World}{n:Nat}{v:Value}
  (h:Calls P f args (w.drewN n) fun e w'=>e=.returned v∧w.drewN n=w'):Calls P f args (w.drewN n) fun e w''=>e=.returned v∧∃m,w''=w.drewN m:=
 h.mono fun _ _ ⟨he,hm⟩=>⟨he,n,hm.symm⟩
theorem ig{B:Nat}{a w:World}(h:Below B a w)(n:Nat):Below B a (w.drewN n):=⟨h.os,h.tape,h.output,h.size,h.block⟩
theorem ah{w a b:World}(h:Below a.heap.size a b)(k:Below w.heap.size w a):Below w.heap.size w b:=k.trans (h.mono k.size)
theorem ae {w a : World} (o : Obj) (k : Below w.heap.size w a) : Below w.heap.size w (a.alloc o) := k.alloc k.size o
theorem zb{P:Prop}(h:P:=by repeat (first | assumption | exact Pk _ _ | refine ah (by assumption) ?_ | refine ae _ ?_ | refine ig ?_ _ | refine Below.drew ?_)):P:=h
theorem zB(w:World)(o:Obj):Below w.heap.size w (w.alloc o):=ae o (Pk _ w)
@[go_sem] theorem IJ(w:World)(n:Nat)(a:Addr)(v:Value):(w.drewN n).setCell a v=(w.setCell a v).drewN n:=rfl
structure df(B:Nat)(w0:World) where
 w:World
 h:Below B w0 w
instance later_nonempty(B:Nat)(w0:World):Nonempty (df B w0):=⟨⟨w0,Pk B w0⟩⟩
theorem im{P:Program}{id:Nat}{Q:Exit→Act→World→Prop}{a:Act}{w0:World}{l:List Oper}(B:Nat)(hm:P.follows .mixedOrders=true)(hB:Region.lexB .any l.toArray=true)
  (h:wpQuiet P l.toArray (fun w'=>∃u:df B w0,w'=u.w) (fun a'=>∀w',(∃u:df B w0,w'=u.w)→Q .normal a' w') l a):(Code.region id l.toArray true).wp P Q a w0:=
 wp_region_quiet (C:=fun w'=>∃u:df B w0,w'=u.w) hm hB ⟨⟨_,(Pk B w0).drew⟩,rfl⟩ (by simpa using h)
theorem dN{P:Program}{id:Nat}{Q:Exit→Act→World→Prop}{a:Act}{w0:World}{l:List Oper}(B n:Nat)(hm:P.follows .mixedOrders=true)(hB:Region.lexTailB .any l.toArray n=true)
  (h:wpQuiet P l.toArray (fun w'=>∃u:df B w0,w'=u.w) (fun a'=>∀w',(∃u:df B w0,w'=u.w)→wpList P l.toArray Q (l.drop n) a' w') (l.take n) a):(Code.region id l.toArray true).wp P Q a w0:=
 iS (C:=fun w'=>∃u:df B w0,w'=u.w) n hm hB ⟨⟨_,(Pk B w0).drew⟩,rfl⟩ h
theorem jV{P:Program}{f:FuncId}{args:Array Value}{B:Nat}{w0:World}{v:Value}(u:df B w0)(hBs:B≤w0.heap.size)
  (h:Calls P f args u.w fun e w'=>e=.returned v∧Below u.w.heap.size u.w w'):Calls P f args u.w fun e w''=>e=.returned v∧∃u':df B w0,w''=u'.w:=
 h.mono fun _ w'' ⟨he,hb⟩=>⟨he,⟨w'',u.h.trans (hb.mono (Pt hBs u.h.size))⟩,rfl⟩
theorem tj{P:Program}{f:FuncId}{args:Array Value}{B:Nat}{w0:World}{v:Value}(u:df B w0)
  (h:Calls P f args u.w fun e w'=>e=.returned v∧u.w=w'):Calls P f args u.w fun e w''=>e=.returned v∧∃u':df B w0,w''=u'.w:=
 h.mono fun _ _ ⟨he,hb⟩=>⟨he,u,hb.symm⟩
theorem Ee{w:World}{t:TypeId}{cs:Array Value}(u:df (w.heap.size+1) (w.alloc (.cells cs t)))(j:Nat):u.w.cell? ⟨w.heap.size,j,none⟩=cs[j]?:=by
 rw[u.h.cell (p:=⟨w.heap.size,j,none⟩) (by simp)];exact Se _ _ _ cs t _ (heap_alloc_new w _)
theorem ox{B b:Nat}{W0:World}{cs:Array Value}{t:TypeId}{fr:Nat×Nat}(hb:W0.heap[b]?=some (.cells cs t fr))(hlt:b<B)(u:df B W0)(j:Nat):u.w.cell? ⟨b,j,none⟩=cs[j]?:=by
 rw[u.h.cell (p:=⟨b,j,none⟩) hlt];exact Se _ _ _ cs t _ hb
theorem zm(w:World)(o:Obj):(w.alloc o).heap[w.heap.size]?=some o:=heap_alloc_new w o
theorem Iz(w:World)(o o1:Obj):((w.alloc o).alloc o1).heap[w.heap.size]?=some o:=by rw[Sf _ _ _ (by simp<;>omega)];exact zm w o
theorem Iy(w:World)(o o1:Obj):((w.alloc o).alloc o1).heap[w.heap.size+1]?=some o1:=by have:=zm (w.alloc o) o1;rwa [Pq]at this
end
