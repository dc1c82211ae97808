/- For WholeGossip: contracts of functions and plain laws. -/
import Derived.Test.YtfgfbacnkpeneaaGreatDoorVAa
import Derived.OrdersIn
set_option maxRecDepth 100000
set_option maxHeartbeats 4000000
set_option linter.unusedVariables false
set_option linter.unusedSimpArgs false
namespace Go.Proofs.YtfgfbacnkpeneaaGreatDoor
section
open Go.RowKit
section
variable{F:Fence}{n:Nat}{P:Program}{md:Region.Mode}{Q:Exit→Act→World→Prop}
theorem JV{l:List Oper}{o:Oper}{v:Value}(i:Nat){f:Nat}{listed:Array Bool}{a:Act}{w:World}(hro:F.round=none)(hs:Region.noSelect l.toArray=true)(ho:(l.drop i).head?=some o)
  (hf:(Region.free md l.toArray listed i&&(Region.ready md l.toArray listed).contains i)=true)(hw:Region.wanted o (yielded l.toArray a.tmps)=true)
  (hy:∀w,(execOp a.eval o).run P w=.ok (.value v) w)(hab:∀w,o.about P w a.eval=none)
  (h:wpAnyIn F n P md l.toArray (NoPanic Q) f (listed.setIfInBounds i true) (a.put o.dst v) w):wpAnyIn F n P md l.toArray (NoPanic Q) (f+1) listed a w:=by
 simp only[UU]at hf;exact wpAnyIn_take hro (by rw[Vb]at ho;simpa using ho) hs hf.1 hf.2 (fun _ _ _ h=>h) ⟨.inl ⟨hw,hy⟩,hab⟩ h
theorem JW{l:List Oper}{o:Oper}(i:Nat){f:Nat}{listed:Array Bool}{a:Act}{w:World}(hro:F.round=none)(hs:Region.noSelect l.toArray=true)(ho:(l.drop i).head?=some o)
  (hf:(Region.free md l.toArray listed i&&(Region.ready md l.toArray listed).contains i)=true)(hw:Region.wanted o (yielded l.toArray a.tmps)=false)(hab:∀w,o.about P w a.eval=none)
  (h:wpAnyIn F n P md l.toArray (NoPanic Q) f (listed.setIfInBounds i true) (a.put o.dst undef) w):wpAnyIn F n P md l.toArray (NoPanic Q) (f+1) listed a w:=by
 simp only[UU]at hf;exact wpAnyIn_take hro (by rw[Vb]at ho;simpa using ho) hs hf.1 hf.2 (fun _ _ _ h=>h) ⟨.inr ⟨hw,rfl⟩,hab⟩ h
theorem vP{l:List Oper}{o:Oper}(i:Nat){f:Nat}{listed:Array Bool}{a:Act}{w:World}(hr:Region.ready md l.toArray listed=[i])(ho:(l.drop i).head?=some o)
  (h:∀K':Act→World→Prop,Shut (∀a w,wpAnyIn F n P md l.toArray Q f (listed.setIfInBounds i true) a w→K' a w)→if Region.wanted o (yielded l.toArray a.tmps)=true then Oper.wpIn F n P o a w K' Q else(∀f,o.about P w a.eval=some f→F.fn f)∧K' (a.put o.dst undef) w):wpAnyIn F n P md l.toArray Q (f+1) listed a w:=
 wpAnyIn_ready (rs:=[i]) hr (by simp) (AllReadyIn.cons (by rw[Vb]at ho;simpa using ho) (fun K hK=>h K hK) AllReadyIn.nil)
theorem rW{l:List Oper}{o o':Oper}(i j:Nat){f:Nat}{listed:Array Bool}{a:Act}{w:World}(hr:Region.ready md l.toArray listed=[i,j])(ho:(l.drop i).head?=some o)(ho':(l.drop j).head?=some o')
  (h:∀K':Act→World→Prop,Shut (∀a w,wpAnyIn F n P md l.toArray Q f (listed.setIfInBounds i true) a w→K' a w)→if Region.wanted o (yielded l.toArray a.tmps)=true then Oper.wpIn F n P o a w K' Q else(∀f,o.about P w a.eval=some f→F.fn f)∧K' (a.put o.dst undef) w)
  (h':∀K':Act→World→Prop,Shut (∀a w,wpAnyIn F n P md l.toArray Q f (listed.setIfInBounds j true) a w→K' a w)→if Region.wanted o' (yielded l.toArray a.tmps)=true then Oper.wpIn F n P o' a w K' Q else(∀f,o'.about P w a.eval=some f→F.fn f)∧K' (a.put o'.dst undef) w):wpAnyIn F n P md l.toArray Q (f+1) listed a w:=
 wpAnyIn_ready (rs:=[i,j]) hr (by simp) (AllReadyIn.cons (by rw[Vb]at ho;simpa using ho) (fun K hK=>h K hK) (AllReadyIn.cons (by rw[Vb]at ho';simpa using ho') (fun K hK=>h' K hK) AllReadyIn.nil))
theorem zi{l:List Oper}{o:Oper}{v:Value}(i:Nat){f:Nat}{listed:Array Bool}{a:Act}{w:World}(ho:(l.drop i).head?=some o)(hy:∀w,(execOp a.eval o).run P w=.ok (.value v) w)
  (h:wpAnyIn F n P md l.toArray (NoPanic Q) f (listed.setIfInBounds i true) (a.put o.dst v) w)(hro:F.round=none:=by rfl)(hs:Region.noSelect l.toArray=true:=by kernel_rfl)
  (hf:(Region.free md l.toArray listed i&&(Region.ready md l.toArray listed).contains i)=true:=by kernel_rfl)(hw:Region.wanted o (yielded l.toArray a.tmps)=true:=by rfl)(hab:∀w,o.about P w a.eval=none:=by exact fun _=>rfl):wpAnyIn F n P md l.toArray (NoPanic Q) (f+1) listed a w:=
 JV i hro hs ho hf hw hy hab h
theorem zk{l:List Oper}{o:Oper}(i:Nat){f:Nat}{listed:Array Bool}{a:Act}{w:World}(ho:(l.drop i).head?=some o)
  (h:wpAnyIn F n P md l.toArray (NoPanic Q) f (listed.setIfInBounds i true) (a.put o.dst undef) w)(hro:F.round=none:=by rfl)(hs:Region.noSelect l.toArray=true:=by kernel_rfl)
  (hf:(Region.free md l.toArray listed i&&(Region.ready md l.toArray listed).contains i)=true:=by kernel_rfl)(hw:Region.wanted o (yielded l.toArray a.tmps)=false:=by rfl)(hab:∀w,o.about P w a.eval=none:=by exact fun _=>rfl):wpAnyIn F n P md l.toArray (NoPanic Q) (f+1) listed a w:=
 JW i hro hs ho hf hw hab h
theorem zj{l:List Oper}{o:Oper}(i:Nat){f:Nat}{listed:Array Bool}{a:Act}{w:World}(ho:(l.drop i).head?=some o)
  (h:∀K':Act→World→Prop,Shut (∀a w,wpAnyIn F n P md l.toArray Q f (listed.setIfInBounds i true) a w→K' a w)→Oper.wpIn F n P o a w K' Q)(hr:Region.ready md l.toArray listed=[i]:=by kernel_rfl)(hw:Region.wanted o (yielded l.toArray a.tmps)=true:=by rfl):wpAnyIn F n P md l.toArray Q (f+1) listed a w:=
 vP i hr ho fun K' hK=>by rw[Pj hw];exact h K' hK
theorem zl{ops:Array Oper}{listed:Array Bool}{a:Act}{w:World}{f:Nat}(h:Q .normal a w)(hr:Region.ready md ops listed=[]:=by kernel_rfl):wpAnyIn F n P md ops (NoPanic Q) f listed a w:=wpAnyIn_done hr (Vz h) f
end
end
