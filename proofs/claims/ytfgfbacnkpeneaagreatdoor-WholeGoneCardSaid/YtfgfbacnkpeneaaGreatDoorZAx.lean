/- For WholeGone: contracts of functions and plain laws. -/
import Derived.Test.YtfgfbacnkpeneaaGreatDoorZAq
import Derived.Test.YtfgfbacnkpeneaaGreatDoorZAt
import Derived.StillTailTactics
import Derived.IntWalk
set_option maxRecDepth 100000
set_option maxHeartbeats 4000000
set_option linter.unusedVariables false
set_option linter.unusedSimpArgs false
namespace Go.Proofs.YtfgfbacnkpeneaaGreatDoor
open Go.Proofs.Tryz Go.ChangeShapes Go.WideShapes Go.ChangeAt Go.RowKit Go.Deep
abbrev PM:=@List.take_length
abbrev PO:=@List.take_add_one
abbrev Qp:=@Go.IntWalk.i64_in
abbrev QT:=@Go.RowKit.run_makeMap
abbrev RT:=@if_true
abbrev SU:=@Go.wpList_plain
abbrev Tc:=@Go.wp_region_still_tail
abbrev Td:=@Go.wpStill_nil
abbrev TB:=@Go.Proofs.Tryz.underlying48
theorem NW{P:Prop}(h:P:=by
 exact⟨w',h1,⟨_,h2,fun t=>by
  show(if t=a then _ else _:Option Int).getD 0=if t=a then _ else _
  split
  ·rfl
  ·exact hg t⟩,h3,h4⟩):P:=h
theorem OU{P:Prop}(h:P:=by
 obtain⟨g,hm,hg⟩:=h;exact⟨g,hm.kp hk hf,hg⟩):P:=h
theorem OV{P:Prop}(h:P:=by
 obtain⟨g,hm,hg⟩:=h;exact⟨g,hm.below hb,hg⟩):P:=h
theorem O6{P:Prop}(h:P:=by
 rw[PO,hk,RO];rfl):P:=h
section
theorem cm.km{F:Nat→Prop}{w w':World}{B:Nat}{A:Option Addr}{l:List Sp}(h:cm w B A l)(hk:Km F w w')(hB:B≤w.heap.size)(hf:∀ad,A=some ad→¬F ad.block):cm w' B A l:=fun k x hx=>by
 obtain⟨ad,e,hlt,h0,h1,h2,h3,h4,h5,h6,h7,h8⟩:=h k x hx;have hb:=hk.block ad.block (Ut hlt hB) (hf ad e);have hj:∀a:Addr,a.block=ad.block→w'.cell? a=w.cell? a:=fun a ha=>by simp only[World.cell?,ha,hb]
 have hc:∀j,w'.cell? ⟨(ad.add (k*9)).block,(ad.add (k*9)).off+j,none⟩=w.cell? ⟨(ad.add (k*9)).block,(ad.add (k*9)).off+j,none⟩:=fun j=>hj _ (dW ad (k*9));exact⟨ad,e,hlt,(hj _ (dW ad (k*9))).trans h0,(hc 1).trans h1,(hc 2).trans h2,(hc 3).trans h3,(hc 4).trans h4,(hc 5).trans h5,(hc 6).trans h6,(hc 7).trans h7,(hc 8).trans h8⟩
abbrev iV(a:Int):Value:=.int .i64 a
abbrev Mc(a:Int):Prop:=(Lit.int .i64 a).wf=true
theorem gg{n:Int}(h:aB n):Mc n:=by
 show(Lit.int .i64 n).wf=true;exact Ph
theorem fG(w:World):(zeroValue 3).run prog w=.ok (.int .i64 0) w:=by
 simp[zeroValue,go_sem,Tryz.t3]
theorem JK:MK prog 3 iV Mc:=Lr U7
def iw(w:World)(M:Nat)(f:Int→Int):Prop:=∃g:Int→Option Int,cF prog 3 iV Mc iV w M g∧∀t,(g t).getD 0=f t
theorem gz(o:Option Int):ov iV (iV 0) false o=iV (o.getD 0):=by cases o<;>rfl
section
variable{w w':World}{M:Nat}{f:Int→Int}
theorem iw.lt(h:iw w M f):M<w.heap.size:=by
 obtain⟨g,hm,_⟩:=h;exact hm.lt
theorem iw.kp{F:Nat→Prop}(h:iw w M f)(hk:Km F w w')(hf:¬F M):iw w' M f:=by
 exact OU
theorem iw.below(h:iw w M f)(hb:Below w.heap.size w w'):iw w' M f:=by
 exact OV
theorem tZ(w:World):iw (w.alloc (.map #[] 0)) w.heap.size (fun _=>0):=⟨_,gy w,fun _=>rfl⟩
theorem iw.look(h:iw w M f){a:Int}(ha:aB a):(Instr.lookup 48 (.map (some M)) (.int .i64 a) false).run prog w=.ok (.int .i64 (f a)) w:=by
 obtain⟨g,hm,hg⟩:=h;have:=hm.look JK TB (gg ha) (fG w) false;rw[gz,hg]at this;exact this
theorem iw.put(h:iw w M f){a:Int}(ha:aB a)(b:Int):∃w',(Instr.mapUpdate 48 (.map (some M)) (.int .i64 a) (.int .i64 b)).run prog w=.ok () w'∧iw w' M (fun x=>if x=a then b else f x)∧Km (fun b=>b=M) w w'∧w'.heap.size=w.heap.size:=by
 obtain⟨g,hm,hg⟩:=h;obtain⟨w',h1,h2,h3,h4⟩:=hm.put JK TB (gg ha) b;exact NW
theorem iw.del(h:iw w M f){a:Int}(ha:aB a)(ty:TypeId):∃w',(Builtin.delete_ #[48,3] ty #[.map (some M),.int .i64 a]).run prog w=.ok (.tuple #[]) w'∧iw w' M (fun x=>if x=a then 0 else f x)∧Km (fun b=>b=M) w w'∧w'.heap.size=w.heap.size:=by
 obtain⟨g,hm,hg⟩:=h;obtain⟨w',h1,h2,h3,h4⟩:=hm.del JK TB (gg ha) ty;exact NW
end
structure cS(w:World)(Q M:Nat)(all tr many:Int)(f:Int→Int):Prop where
 box:w.heap[Q]?=some (.cells #[.int .i64 all,.int .i64 tr,.int .i64 many,.map (some M)] 156 (0,0))
 map:iw w M f
section
variable{w w':World}{Q M:Nat}{all tr many:Int}{f:Int→Int}
theorem cS.ne(h:cS w Q M all tr many f):Q≠M:=fun e=>by
 obtain⟨g,hm,_⟩:=h.map;obtain⟨es,clock,hb,_⟩:=hm.ex;have:=h.box;rw[e,hb]at this;cases this
theorem cS.kp{F:Nat→Prop}(h:cS w Q M all tr many f)(hk:Km F w w')(h1:¬F Q)(h2:¬F M):cS w' Q M all tr many f:=⟨hk.at h.box h1,h.map.kp hk h2⟩
theorem cS.below(h:cS w Q M all tr many f)(hb:Below w.heap.size w w'):cS w' Q M all tr many f:=⟨af h.box hb,h.map.below hb⟩
theorem cS.count(h:cS w Q M all tr many f)(n:Int):cS (w.setCell ⟨Q,2,none⟩ (.int .i64 n)) Q M all tr n f:=
 ⟨by simpa using aq h.box 2 (.int .i64 n),h.map.kp ((Km.refl (fun b=>b=Q) w).setCell (b:=Q) (j:=2) (fun _=>rfl) _) (fun e=>h.ne e.symm)⟩
theorem nE{P:Program}{ops:Array Oper}{rest:List Oper}{o:Oper}{a:Act}{Q:Exit→Act→World→Prop}{w w':World}(hg:o.guard=none)(m x:Operand)(t k:TypeId)(hop:o.op=Op.call {callee:=Callee.builtin Builtin.delete,args:=#[m,x],argTypes:=#[t,k]})
  {vm vx:Value}(hm:a.eval m=vm)(hx:a.eval x=vx)(hrun:(Builtin.delete_ #[t,k] o.type #[vm,vx]).run P w=.ok (.tuple #[]) w')(hK:wpList P ops Q rest (a.put o.dst (.tuple #[])) w'):wpList P ops Q (o::rest) a w:=by
 refine SU hg fun K' hK'=>?_;unfold Oper.wp;simp[execOp,hop,resolve,invoke,builtin,hm,hx,hrun,Result.andThen];exact hK' _ _ hK
def cT(s:Int×(Int→Int))(x:Sp):Int×(Int→Int):=(s.1+1,fun t=>if t=x.tr then s.2 x.tr+1 else s.2 t)
def iC(s:Int×(Int→Int))(x:Sp):Int×(Int→Int):=if s.2 x.tr=0 then s else(s.1 - 1,fun t=>if t=x.tr then s.2 x.tr - 1 else s.2 t)
theorem F1(h:cS w Q M all tr many f)(t:Int)(ht:aB t):Calls prog 166 #[.pointer (some ⟨Q,0,none⟩),.int .i64 t] w fun e w'=>e=.returned (.int .i64 (f t))∧w=w':=by
 have hl:=h.map.look ht;have c3:=aa h.box 3;clear h ht;go_enter func166,ntmps166;go_wp2_with fail;go_ret;exact⟨rfl,rfl⟩
theorem DL(h:cS w Q M all tr many f)(x:Sp)(hx:aB x.tr)(hm:many<all)(ht:f x.tr<tr)(h0:0≤many∧many<1000000)(hf0:0≤f x.tr∧f x.tr<1000000):
  Calls prog 97 #[.pointer (some ⟨Q,0,none⟩),.agg (SA x)] w fun e w'=>e=.returned (.bool true)∧cS w' Q M all tr (cT (many,f) x).1 (cT (many,f) x).2∧Km (fun b=>b=Q∨b=M) w w':=by
 have hb0:=zB w (.cells (SA x) 93);have hnew:=Up w (.cells (SA x) 93);have hq0:=h.below hb0;have hQw:=am h.box;have hMw:=h.map.lt;obtain⟨w0,hw0⟩:∃w0,w0=w.alloc (.cells (SA x) 93):=⟨_,rfl⟩;rw[←hw0]at hb0 hnew hq0;have HB1:=zH (show decide (all≤many)=false from UM (by omega));have HB2:=zH (show decide (tr≤f x.tr)=false from UM (by omega));go_enter func97,ntmps97;go_wp2_with fail;rw[←hw0];refine zr (fun V=>cS V Q M all tr many f∧V.heap[w.heap.size]?=some (.cells (SA x) 93 (0,0))) ⟨hq0.below (Pk _ w0).drew,hnew⟩ fun hS0=>?_;have hb1:Below w.heap.size w w0.drew:=hb0.drew;generalize w0.drew=w1 at hS0 hb1⊢;clear hq0 hnew hb0 hw0;(refine zh hS0 0 23 0 ?_;simp only[zd];((iterate 23 (refine zt (fun W hW=>by obtain⟨hq,hn⟩:=hW;have c0:=aa hq.box 0;have c1:=aa hq.box 1;have c2:=aa hq.box 2;have c3:=aa hq.box 3;have n0:=aa hn 0;have hl:=hq.map.look hx;have gb1:=HB1.out;have gb2:=HB2.out;exact zq) ?_;simp only[zp]));refine ac ?_));(refine ze ?_);obtain⟨hq1,hn1⟩:=hS0;have c2:=aa hq1.box 2;have f2:=ak hq1.box 2;go_wp2_with fail;have hq2:=(hq1.count (many+1)).below (Pk _ _).drew;have hn2:=aw hn1 (B:=Q) (j:=2) (by omega) (.int .i64 (many+1));have hk2:Km (fun b=>b=Q∨b=M) w (w1.setCell ⟨Q,2,none⟩ (.int .i64 (many+1))).drew:=((Km.of_below _ hb1).setCell (b:=Q) (fun _=>.inl rfl) _).drew;(refine Tc 8 (by kernel_rfl) (by kernel_rfl) ?_;simp only[UJ,UN,QG,Qo];change wpStill _ _ (World.drew _) (fun a'=>wpList _ _ _ _ a' (World.drew _)) _ _)
 replace hn2:(w1.setCell ⟨Q,2,none⟩ (.int .i64 (many+1))).drew.heap[w.heap.size]?=_:=hn2
 generalize (w1.setCell ⟨Q,2,none⟩ (.int .i64 (many+1))).drew=w2 at hq2 hn2 hk2⊢;clear c2 f2 hq1 hn1 hb1;have c3:=aa hq2.box 3;have n0:=aa hn2 0;have hl:=hq2.map.look hx;have gw:=Qp (f x.tr+1) (by omega);obtain⟨w3,hrun,hm3,hk3,hs3⟩:=hq2.map.put hx (f x.tr+1);((repeat still_step);(try refine Td ?_));go_wp2;go_ret;exact⟨rfl,⟨hk3.at hq2.box (fun e=>hq2.ne e),hm3⟩,hk2.trans' hk3 (fun b _ e=>.inr e)⟩
def MR(s:Int×(Int→Int))(lo hi:Int):Prop:=lo≤s.1∧s.1≤hi∧∀t,0≤s.2 t∧s.2 t≤1000000
theorem Gf{s:Int×(Int→Int)}{lo hi:Int}(h:MR s lo hi)(x:Sp):MR (iC s x) (lo - 1) hi:=by
 unfold iC;obtain⟨h1,h2,h3⟩:=h;split
 ·exact⟨by omega,h2,h3⟩
 ·refine⟨by simp only;omega,by simp only;omega,fun t=>?_⟩;have:=h3 x.tr;have:=h3 t;simp only;split<;>omega
theorem ux{σ:Type}{g:σ→Sp→σ}{l:List Sp}{k:Nat}{x:Sp}(hk:l[k]?=some x)(s:σ):(l.take (k+1)).foldl g s=g ((l.take k).foldl g s) x:=by
 exact O6
theorem Ae(h:cS w Q M all tr many f)(A:Option Addr)(c:Nat)(l:List Sp)(hl:∀x∈l,aB x.tr)(hm:l.length≤100000)(hr:cm w w.heap.size A l)(hA:∀ad,A=some ad→ad.block≠Q∧ad.block≠M)(hf:MR (many,f) (-1000000) 1000000):
  Calls prog 95 #[.pointer (some ⟨Q,0,none⟩),.slice A l.length c] w fun e w'=>(∃v,e=.returned v)∧cS w' Q M all tr (l.foldl iC (many,f)).1 (l.foldl iC (many,f)).2∧Km (fun b=>b=Q∨b=M) w w':=by
 have HR:=zH (fun wr (hk:Km (fun b=>b=Q∨b=M) w wr)=>hr.km hk (Po _) (fun ad e hf=>hf.elim (hA ad e).1 (hA ad e).2));have HL:=zH hl;have HF:=zH hf;have HH:=zH h;have hQw:=am h.box;have hMw:=h.map.lt;clear hr hl hA hf h;go_enter func95,ntmps95;go_wp2_with fail;go_loopw [8] (fun i wr=>∃k:Nat,k≤l.length∧i=.int .i64 k∧MR ((l.take k).foldl iC (many,f)) (-1000000 - k) 1000000∧cS wr Q M all tr ((l.take k).foldl iC (many,f)).1 ((l.take k).foldl iC (many,f)).2∧Km (fun b=>b=Q∨b=M) w wr) (fun i _=>l.length - (intOf i).toNat)
 case atStart=>exact⟨0,by omega,rfl,by simpa using HF.out,HH.out,Km.refl _ _⟩
 case round=>
  obtain⟨k,hk,rfl,ho,hq,hkm⟩:=hrel;by_cases hlt:k<l.length
  ·obtain⟨x,hk'⟩:=zg hlt;obtain⟨ad,rfl,hadl,d0,d1,d2,d3,d4,d5,d6,d7,d8⟩:=HR.out _ hkm k x hk';have hx:=HL.out x (Pv hk');have HTK:=zH (ux (g:=iC) hk' (many,f));have HO:=zH (Gf ho x);have hi1:(k:Int)< (l.length:Int):=by omega
   have hsz:=hkm.size;clear hk';generalize hs0:(l.take k).foldl iC (many,f)=s at ho hq HTK HO;clear hs0;have hq0:=hq.below (zB wr (.cells (SA x) 93));have hn0:=Up wr (.cells (SA x) 93);have HOF:=zH (F1 hq0 x.tr hx);by_cases hz:s.2 x.tr=0
   ·rw[hz]at HOF;go_wp2_with (go_at_call 166;(with_reducible refine(HOF.out).mono ?_);rintro e w1 ⟨rfl,rfl⟩);have hd:iC s x=s:=by unfold iC;rw[Pj hz]
    have:=HO.out;rw[hd]at this;refine⟨⟨k+1,by omega,by go_num,?_,?_,hkm.alloc _⟩,by simp[intOf];omega⟩
    ·rw[HTK.out,hd];exact⟨by have:=this.1;omega,this.2⟩
    ·rw[HTK.out,hd];exact hq0
   ·have hzb:(s.2 x.tr==0)=false:=by simpa using hz
    have ho1:=ho.1;have ho2:=ho.2.1;have ho3:=ho.2.2 x.tr;have gw0:=Qp (s.1 - 1) (by omega);have gw:=Qp (s.2 x.tr - 1) (by omega);have hd:iC s x=(s.1 - 1,fun t=>if t=x.tr then s.2 x.tr - 1 else s.2 t):=by unfold iC;rw[Pm hz]
    have HO2:=HO.out;go_wp2_with (go_at_call 166;(with_reducible refine(HOF.out).mono ?_);rintro e w1 ⟨rfl,rfl⟩;have c2:=aa hq0.box 2;have f2:=ak hq0.box 2);have hq2:=(hq0.count (s.1 - 1)).below (Pk _ _).drew;have hn2:=aw hn0 (B:=Q) (j:=2) (by omega) (.int .i64 (s.1 - 1));have hk2:=((hkm.alloc (.cells (SA x) 93)).setCell (b:=Q) (j:=2) (fun _=>.inl rfl) (.int .i64 (s.1 - 1))).drew;(refine Tc 8 (by kernel_rfl) (by kernel_rfl) ?_;simp only[UJ,UN,QG,Qo];change wpStill _ _ (World.drew _) (fun a'=>wpList _ _ _ _ a' (World.drew _)) _ _)
    replace hn2:((wr.alloc (.cells (SA x) 93)).setCell ⟨Q,2,none⟩ (.int .i64 (s.1 - 1))).drew.heap[wr.heap.size]?=_:=hn2
    generalize ((wr.alloc (.cells (SA x) 93)).setCell ⟨Q,2,none⟩ (.int .i64 (s.1 - 1))).drew=w2 at hq2 hn2 hk2⊢;clear c2 f2 hq0 hn0 HOF hq hkm;have c3:=aa hq2.box 3;have n0:=aa hn2 0;have hlk:=hq2.map.look hx;obtain⟨w3,hrun,hm3,hk3,hs3⟩:=hq2.map.put hx (s.2 x.tr - 1);((repeat still_step);(try refine Td ?_));go_wp2;clear c3 n0 hlk hrun;have hq4:cS w3.drew Q M all tr (s.1 - 1) (fun t=>if t=x.tr then s.2 x.tr - 1 else s.2 t):=⟨hk3.at hq2.box (fun e=>hq2.ne e),hm3.below (Pk _ _).drew⟩;have hn4:w3.drew.heap[wr.heap.size]?=_:=hk3.at hn2 (fun e=>by omega);have hk4:Km (fun b=>b=Q∨b=M) w w3.drew:=(hk2.trans' hk3 (fun b _ e=>.inr e)).drew;refine zr (fun V=>cS V Q M all tr (s.1 - 1) (fun t=>if t=x.tr then s.2 x.tr - 1 else s.2 t)∧V.heap[wr.heap.size]?=some (.cells (SA x) 93 (0,0))) ⟨hq4,hn4⟩ fun hS0=>?_;generalize w3.drew=w4 at hq4 hn4 hk4 hS0⊢;clear hk3 hm3 hs3 hk2 hn2 hq2;(refine zh hS0 0 8 0 ?_;simp only[zd];((iterate 8 (refine zt (fun W hW=>by obtain⟨hq,hn⟩:=hW;have c3:=aa hq.box 3;have n0:=aa hn 0;have hlk:=hq.map.look hx;simp only[RT]at hlk;exact zq) ?_;simp only[zp]));refine ac ?_));(refine ze ?_);by_cases h1:s.2 x.tr - 1=0
    ·have h1b:(s.2 x.tr - 1==0)=true:=by simpa using h1
     go_wp2;have hq5:=hq4.below (Pk _ _).drew;have hk5:=hk4.drew;(refine Tc 6 (by kernel_rfl) (by kernel_rfl) ?_;simp only[UJ,UN,QG,Qo];change wpStill _ _ (World.drew _) (fun a'=>wpList _ _ _ _ a' (World.drew _)) _ _)
     replace hn4:w4.drew.heap[wr.heap.size]?=_:=hn4
     generalize w4.drew=w5 at hq5 hn4 hk5⊢;clear hq4 hk4 hS0;have c3:=aa hq5.box 3;have n0:=aa hn4 0;((repeat still_step);(try refine Td ?_));obtain⟨w6,hrun,hm6,hk6,hs6⟩:=hq5.map.del hx 0;refine nE rfl _ _ 48 3 rfl rfl rfl hrun ?_;go_wp2;refine⟨⟨k+1,by omega,by go_num,?_,?_,hk5.trans' hk6 (fun b _ e=>.inr e)⟩,by simp[intOf];omega⟩
     ·rw[HTK.out];exact⟨by have:=HO2.1;omega,HO2.2⟩
     ·rw[HTK.out,hd];refine⟨hk6.at hq5.box (fun e=>hq5.ne e),?_⟩;rw[show(fun t=>if t=x.tr then s.2 x.tr - 1 else s.2 t)=(fun t=>if t=x.tr then 0 else if t=x.tr then s.2 x.tr - 1 else s.2 t)from funext fun t=>by split<;>simp_all];exact hm6
    ·have h1b:(s.2 x.tr - 1==0)=false:=by simpa using h1
     go_wp2;refine⟨⟨k+1,by omega,by go_num,?_,?_,hk4⟩,by simp[intOf];omega⟩
     ·rw[HTK.out];exact⟨by have:=HO2.1;omega,HO2.2⟩
     ·rw[HTK.out,hd];exact hq4
  ·obtain rfl:k=l.length:=by omega
   go_wp2_with fail;go_end0;rw[PM]at hq;exact⟨⟨_,rfl⟩,hq,hkm⟩
theorem pH(l:List Sp):∀s:Int×(Int→Int),(l.foldl cT s).1=s.1+l.length:=by
 induction l with
 |nil=>intro s;simp
 |cons x r ih=>intro s;rw[UK,ih];simp[cT];omega
theorem qI(l:List Sp):∀(s:Int×(Int→Int)) (t:Int),s.2 t≤(l.foldl cT s).2 t∧(l.foldl cT s).2 t≤s.2 t+l.length:=by
 induction l with
 |nil=>intro s t;simp
 |cons x r ih=>
  intro s t;rw[UK];have:=ih (cT s x) t;simp only[cT,PC]at this⊢;split at this
  ·rename_i e;subst e;omega
  ·omega
theorem tK(h:cS w Q M all tr many f)(A:Option Addr)(c:Nat)(l:List Sp)(hl:∀x∈l,x.Ok)(hm:l.length≤100000)(hr:cm w w.heap.size A l)(hA:∀ad,A=some ad→ad.block≠Q∧ad.block≠M)(hf:0≤many∧∀t,0≤f t)(h1:many+l.length≤all∧all≤100000)(h2:∀t,f t+l.length≤tr)(h3:tr≤100000):
  Calls prog 50 #[.pointer (some ⟨Q,0,none⟩),.slice A l.length c] w fun e w'=>e=.returned (.bool true)∧cS w' Q M all tr (l.foldl cT (many,f)).1 (l.foldl cT (many,f)).2∧Km (fun b=>b=Q∨b=M) w w':=by
 have HR:=zH (fun wr (hk:Km (fun b=>b=Q∨b=M) w wr)=>hr.km hk (Po _) (fun ad e hf=>hf.elim (hA ad e).1 (hA ad e).2));have HL:=zH hl;have HH:=zH h;have HF:=zH hf;have H2:=zH h2;have hQw:=am h.box;have hMw:=h.map.lt;clear hr hl hA h hf h2;go_enter func50,ntmps50;go_wp2_with fail;go_loopw [14] (fun i wr=>∃k:Nat,k≤l.length∧i=.int .i64 k∧cS wr Q M all tr ((l.take k).foldl cT (many,f)).1 ((l.take k).foldl cT (many,f)).2∧Km (fun b=>b=Q∨b=M) w wr) (fun i _=>l.length - (intOf i).toNat)
 case atStart=>exact⟨0,by omega,rfl,HH.out,Km.refl _ _⟩
 case round=>
  obtain⟨k,hk,rfl,hq,hkm⟩:=hrel;by_cases hlt:k<l.length
  ·obtain⟨x,hk'⟩:=zg hlt;obtain⟨ad,rfl,hadl,d0,d1,d2,d3,d4,d5,d6,d7,d8⟩:=HR.out _ hkm k x hk';have hx:=HL.out x (Pv hk');have HTK:=zH (ux (g:=cT) hk' (many,f));have hi1:(k:Int)< (l.length:Int):=by omega
   have hsz:=hkm.size;have e1:=pH (l.take k) (many,f);have e2:=qI (l.take k) (many,f) x.tr;have e3:((l.take k).length:Int)=k:=by simp;omega
   have e4:=HF.out;have e5:=e4.2 x.tr;have e6:=H2.out x.tr;clear hk';generalize hs0:(l.take k).foldl cT (many,f)=s at hq HTK e1 e2;clear hs0;simp only at e1 e2;have hq0:=hq.below (zB wr (.cells (SA x) 93));have HO:=zH (DL hq0 x hx.1 (by omega) (by omega) (by omega) (by omega));have hk0:=hkm.alloc (.cells (SA x) 93);clear e1 e2 e3 e4 e5 e6;go_wp2_with (go_at_call 97;(with_reducible refine(HO.out).mono ?_);rintro e w1 ⟨rfl,q1,k1⟩);exact⟨⟨k+1,by omega,by go_num,by rw[HTK.out];exact q1,hk0.trans k1⟩,by simp[intOf];omega⟩
  ·obtain rfl:k=l.length:=by omega
   go_wp2_with fail;go_ret;rw[PM]at hq;exact⟨rfl,hq,hkm⟩
theorem DM(a b:Int)(ha:0≤a∧a≤100000)(hb:0≤b∧b≤100000)(w:World):
  Calls prog 25 #[.int .i64 a,.int .i64 b] w fun e w'=>e=.returned (.pointer (some ⟨w.heap.size+1,0,none⟩))∧cS w' (w.heap.size+1) w.heap.size a b 0 (fun _=>0)∧Below w.heap.size w w'∧w'.heap.size=w.heap.size+2:=by
 have hmk:=QT (P:=prog) 48 w;have e1:max a 0=a:=by omega
 have e2:max b 0=b:=by omega
 go_enter func25,ntmps25;go_wp2;go_ret;have hb0:Below w.heap.size w (w.alloc (.map #[] 0)):=ae _ (Pk _ _);have hm:=tZ w;have hnew:=Up (w.alloc (.map #[] 0)) (.cells #[.int .i64 (max a 0),.int .i64 (max b 0),.int .i64 0,.map (some w.heap.size)] 156);rw[Pq,e1,e2]at hnew;exact⟨rfl,⟨hnew,hm.below (ae _ (Pk _ _))⟩,hb0.trans ((ae _ (Pk _ _)).mono (by rw[Pq];omega)),by rw[Pq,Pq]⟩
end
end
