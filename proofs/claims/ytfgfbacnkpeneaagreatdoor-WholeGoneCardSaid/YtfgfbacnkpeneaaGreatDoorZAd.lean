/- For WholeGone: contracts of functions and plain laws. -/
import Derived.Test.YtfgfbacnkpeneaaGreatDoorZAb
import Derived.RangeFuncCalls
import Derived.OwnWalkIn
set_option maxRecDepth 100000
set_option maxHeartbeats 4000000
set_option linter.unusedVariables false
set_option linter.unusedSimpArgs false
namespace Go.Proofs.YtfgfbacnkpeneaaGreatDoor
abbrev Sg:=@Array.getElem?_toList
section
open Go.RowKit
def vH(ops:Array Oper):Bool:=ops.toList.all fun o=>match o.op with | .defer _=>false |_=>true
theorem Az{ops:Array Oper}(h:vH ops=true){i:Nat}{o:Oper}(ho:ops[i]?=some o):∀c,o.op≠ .defer c:=by
 intro c hc;have:=List.all_eq_true.1 h o (by
  rw[←Sg]at ho;exact List.mem_of_getElem? ho)
 rw[hc]at this;cases this
theorem vB{l n:Nat}{P:Program}{row:String}{args:Array Value}{w:World}{R:Value→World→Prop}(h:Rows P row args w R):RowsIn (Fence.wide.inRound l) n P row args w R:=fun c cs _=>by
 obtain⟨v,w',h1,h2⟩:=h c cs;exact⟨v,w',h1,stepsIn_wide.2 h2⟩
theorem xD{l n:Nat}{P:Program}{ops:Array Oper}{Q:Exit→Act→World→Prop}(hnd:vH ops=true)(hout:∀a w,¬Q .outgrown a w):
  ∀(L:List Nat) (a:Act) (w:World),wpOps P ops Q L a w→wpOpsIn (Fence.wide.inRound l) n P ops Q L a w:=by
 intro L;induction L with
 |nil=>exact fun a w h=>h
 |cons i rest ih=>
  intro a w h;simp only[wpOps,wpOpsIn]at h⊢;cases ho:ops[i]? with
  |none=>
   simp only[ho]at h⊢;exact ih a w h
  |some o=>
   simp only[ho]at h⊢;by_cases hw:Region.wanted o (yielded ops a.tmps)=true
   ·rw[Pj hw]at h⊢;have h:=h.resolve_right fun⟨_,a,w,hq⟩=>hout a w hq;refine⟨fun f _=>trivial,?_⟩;rw[Oper.semAt_eq _ _ _ (Az hnd ho)];unfold Oper.wp at h;generalize (execOp a.eval o).run P w=r at h⊢;cases r with
    |ok x w'=>
     cases x with
     |value v=>exact ih _ _ h
     |skip=>exact ih _ _ h
     |defer d=>exact ih _ _ h
     |enter f args=>
      refine⟨(fun e=>by cases e),CallsIn.inRound l (callsIn_wide.2 (Calls.mono h ?_))⟩;intro e w'' he;cases e<;>first |exact ih _ _ he |exact he
     |row s args=>
      refine⟨(fun e=>by cases e),vB (Rows.mono h ?_)⟩;exact fun v w'' he=>ih _ _ he
     |_=>exact h.elim
    |halt x w'=>cases x<;>exact h
   ·rw[Pm hw]at h⊢;exact⟨fun f _=>trivial,ih _ _ h⟩
theorem iG{l n id:Nat}{P:Program}{ops:Array Oper}{Q:Exit→Act→World→Prop}{S:World→Prop}{a:Act}{w:World}(hm:P.follows .mixedOrders=true)(hnd:vH ops=true)(hout:∀a w,¬Q .outgrown a w)(hS:S w.drew)
  (h:S w.drew→wpAnyH P .any ops (NoPanic Q) S ops.size (Array.replicate ops.size false) a w.drew):(Code.region id ops true).wpIn (Fence.wide.inRound l) n P Q a w:=
 wpIn_mono (wpIn_region_draw (Q:=NoPanic Q) fun t=>xD hnd (fun a w hq=>hout a w (NoPanic.imp _ _ _ hq)) _ _ _ (by
  simp only[Region.schedule,hm,Bool.true_or,if_true];exact wpAny_sound ops.size t _ a _ (wpAny_of_held _ _ _ _ (h hS)))) NoPanic.imp
end
