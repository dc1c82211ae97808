/- The statement WholeGone: its law returns true for every input, and each argument reads behind the call as it read before; the tables that the row lists are tied to the text. Nothing else is asked. -/
import Derived.Test.YtfgfbacnkpeneaaGreatDoorZBv
import Derived.Test.YtfgfbacnkpeneaaGreatDoorCards
import Derived.Test.YtfgfbacnkpeneaaGreatDoorTie
import Derived.SevenTiedAt
import Derived.LaidLaws
import Derived.Handed
set_option maxRecDepth 100000
set_option maxHeartbeats 4000000
set_option linter.unusedVariables false
set_option linter.unusedSimpArgs false
namespace Go.Proofs.YtfgfbacnkpeneaaGreatDoor
open Go.ChangeShapes Go.WideShapes Go.ChangeAt Go.RowKit Go.Deep
section
namespace lawWholeGone
noncomputable def uf(os:Os):World:=
 let w0:=World.holding Tryz.prog os ⟨#[],#[],[]⟩
 {w0 with heap:=(w0.heap.modify 2 fun
  | .cells _ t frozen=>.cells #[.int .u8 128,.int .u8 191,.int .u8 160,.int .u8 191,.int .u8 128,.int .u8 159,.int .u8 144,.int .u8 191,.int .u8 128,.int .u8 143,.int .u8 0,.int .u8 0,.int .u8 0,.int .u8 0,.int .u8 0,.int .u8 0,.int .u8 0,.int .u8 0,.int .u8 0,.int .u8 0,.int .u8 0,.int .u8 0,.int .u8 0,.int .u8 0,.int .u8 0,.int .u8 0,.int .u8 0,.int .u8 0,.int .u8 0,.int .u8 0,.int .u8 0,.int .u8 0] t frozen
  |o=>o).modify 1 fun
  | .cells _ t frozen=>.cells (Go.Pinned.utf8FirstZ.map fun(n:Nat)=>Value.int .u8 n).toArray t frozen
  |o=>o}
theorem Gz(os:Os)(args:Array Value):laidMet Tryz.prog Rows.wholeGoneRow.laid ((uf os).forCall (fun _ _=>0) ⟨#[],args,[]⟩).memory:=
 laidMet_of_run' 8 (by kernel_rfl) (by kernel_rfl)
set_option linter.unusedVariables false
theorem Lz(os:Os)(started:os.Started)(H:Type)(enc:TypeId×Value→H):
  ReturnsInHanded {} Tryz.checked os 4 .any (fun w args=>(Rows.wholeGoneSpec.pre enc Tryz.prog Tryz.f4 Rows.wholeGoneRow.domain false w args∧laidMet Tryz.prog Rows.wholeGoneRow.laid w)∧sizedMet enc Tryz.prog Tryz.f4 (OpenSpec.ofChange Rows.wholeGoneSpec) false w args) (Rows.wholeGoneSpec.post enc Tryz.prog Tryz.f4 false true false false):=by
 refine returnsInHanded_of_change_and (C:=Tryz.checked) (X:=fun w _=>laidMet Tryz.prog Rows.wholeGoneRow.laid w) (fun _ _ _ hh h=>h.of_heap hh) own started (by kernel_rfl) Tryz.func4
  (ChangeSpec.witness_at (enc:=enc) (C:=Tryz.checked) (os:=os) (X:=fun w _=>laidMet Tryz.prog Rows.wholeGoneRow.laid w) false (uf os) #[.slice none 0 0,.slice none 0 0] 8 rfl (by kernel_rfl) (by kernel_rfl) (by kernel_rfl) (by kernel_rfl) (by kernel_rfl) (Gz os _)) ?_
 intro W base args ds gs before hval0 hW hcnd _ hL _;have hval:∀(j:Nat) t v,Tryz.f4.params[j]?=some t→args[j]?=some v→Value.okWide Tryz.prog W .any base t v:=hval0;have hW':=hW;obtain⟨p,q,hA0,hV,hpq,hfz,hnd⟩:=hW;have hlt:∀x∈p,x.block<W.heap.size:=fun x hx=>hW'.lt x (by rw[hpq];simp[hx]);have hA:DataW.TrodAll enc Tryz.prog W 0 (fun _=>true) true Tryz.f4.params.toList args.toList ds p:=hA0;rw[Tryz.params4]at hA hval;obtain⟨v0,vs0,d0,ds0,p0,q0,hargs,rfl,hpp,h0,r0⟩:=trodAll_cons hA;obtain⟨v1,vs1,d1,ds1,p1,q1,rfl,rfl,hpp1,h1,r1⟩:=trodAll_cons r0;obtain⟨rfl,rfl,hq0⟩:=trodAll_nil r1;obtain rfl:args=#[v0,v1]:=by cases args;simp_all
 obtain⟨a0,rfl,w0⟩:=rB (hval 0 22 v0 rfl rfl) h0 (fun x hx=>hlt x (by rw[hpp];simp[hx]));obtain⟨a1,rfl,w1⟩:=rB (hval 1 22 v1 rfl rfl) h1 (fun x hx=>hlt x (by rw[hpp,hpp1];simp[hx]));refine(sS a0 a1 W w0 w1).mono fun e W' ⟨he,hB⟩=>⟨_,he,?_⟩;obtain⟨rfl,rfl⟩:=trodVars_none hV;exact DO JP rfl rfl rfl rfl (by decide+kernel) _ (by kernel_rfl) Tryz.underlying4 hW' hB
theorem j0:laidOutB Tryz.prog=true:=by kernel_rfl
theorem j1:mapsRowed Tryz.prog=true:=by kernel_rfl
theorem j2:(Rows.wholeGoneRow.inPlace==Tryz.prog.inPlace 4)=true:=by kernel_rfl
theorem j3:(Rows.wholeGoneRow.unfollowed==Tryz.prog.unfollowed 4)=true:=by kernel_rfl
theorem j4:(Rows.wholeGoneRow.recurses==Tryz.prog.recurses 4)=true:=by kernel_rfl
theorem j5:(Rows.wholeGoneRow.named==Tryz.prog.varsNamed 4)=true:=by kernel_rfl
theorem j6:(Rows.wholeGoneRow.plainKeys==Tryz.prog.plainKeys)=true:=by kernel_rfl
theorem j7:Tryz.prog.stopsHeard=true:=by kernel_rfl
theorem j8:Tryz.prog.mayEnter=true:=by kernel_rfl
theorem j9:(Rows.wholeGoneRow.lifted==Tryz.prog.liftsFinal)=true:=by kernel_rfl
theorem closed:joinedFacts Tryz.prog 4 Tryz.f4 Rows.wholeGoneSpec Rows.wholeGoneRow=true:=by
 unfold joinedFacts;simp only[Bool.and_eq_true]
 repeat' refine And.intro ?_ ?_
 all_goals first |(with_reducible exact j0) |(with_reducible exact j1) |(with_reducible exact j2) |(with_reducible exact j3) |(with_reducible exact j4) |(with_reducible exact j5) |(with_reducible exact j6) |(with_reducible exact j7) |(with_reducible exact j8) |(with_reducible exact j9) |(as_aux_lemma=>kernel_rfl)
theorem MZ:Rows.wholeGoneRow.holds Tryz.pinned (OpenSpec.ofChange Rows.wholeGoneSpec):=
 OpenClaim.holds_of_wide 4 Tryz.f4 rfl rfl rfl rfl rfl rfl rfl ⟨rfl,rfl,rfl,rfl,rfl⟩ rfl rfl rfl rfl rfl (by as_aux_lemma=>kernel_rfl) Tryz.func4 closed
  (of_decide_eq_true (by as_aux_lemma=>kernel_rfl)) (by unfold Func.isWrapper;first |(rw[if_pos (by decide+kernel)];kernel_rfl) |(rw[if_neg (by decide+kernel)];exact⟨rfl,rfl⟩))
  (fun os started H enc _=>Lz os started H enc)
theorem proved:Rows.WholeGoneCardSaid:=
 Claim7.holds_tied_plain_at .later [] [.data,.pinned] true (true, "bafd51bcc3d77b590b8e45ae2c44ba37cb037fc17e8ecdc5f59079e8d64ca8c0") false
  MZ (fun _ h=>by cases h) (by as_aux_lemma=>kernel_rfl) (fun _ h=>by cases h) wholeGone_row_tie rfl ⟨rfl,rfl⟩ (by as_aux_lemma=>kernel_rfl) rfl
  (fun f fn hf hfn=>by
   obtain rfl:f=4:=Option.some.inj ((show Tryz.prog.funcNamed "gossamer/gossamertop.WholeGone" =some 4 by as_aux_lemma=>kernel_rfl).symm.trans hf)|>.symm;obtain rfl:fn=Tryz.f4:=(Option.some.inj (Tryz.func4.symm.trans hfn)).symm;refine⟨by as_aux_lemma=>kernel_rfl,fun j t ht=>?_⟩;rw[Tryz.params4]at ht;have hj:t∈[22,22]:=by
    have:=Array.mem_of_getElem? ht;simpa using this
   simp only[List.mem_cons,List.not_mem_nil,or_false]at hj;rcases hj with rfl |rfl
   ·exact(show Tryz.prog.wantsStandIn 22=false by kernel_rfl)
   ·exact(show Tryz.prog.wantsStandIn 22=false by kernel_rfl))
  (by as_aux_lemma=>kernel_rfl)
#print axioms proved
end lawWholeGone
end
