/- For WholeGone: contracts of functions and plain laws. -/
import Derived.RangeFuncBound
import Derived.RangeFuncCalls
import Derived.RangeFuncLeaves
import Derived.Shelf.Abstract
import Derived.LoopNIn
import Derived.LoopIn
import Derived.Test.YtfgfbacnkpeneaaGreatDoorZAr
set_option maxRecDepth 100000
set_option maxHeartbeats 4000000
set_option linter.unusedVariables false
set_option linter.unusedSimpArgs false
namespace Go.Proofs.YtfgfbacnkpeneaaGreatDoor
open Go.Proofs.Tryz Go.ChangeShapes Go.WideShapes Go.ChangeAt Go.RowKit Go.Deep AvlP
abbrev Qc:=@List.length_filter_le
abbrev Qe:=@List.length_nil
abbrev SX:=@Bool.eq_false_iff
theorem NU{P:Prop}(h:P:=by
 (refine zj 16 rfl fun K hK=>?_;(go_simp;refine hK.out _ _ ?_;clear hK K;try simp only[zp]));(refine zj 17 rfl fun K hK=>?_);go_simp;exact nw):P:=h
theorem N6{P:Prop}(h:P:=by
 go_wp2_with (first |(go_at_call 213;(with_reducible refine(HTOP.out).mono ?_);rintro e w0 ⟨rfl,rfl⟩) |(go_at_call 214;(with_reducible refine(HG.out).mono ?_);rintro e w1 ⟨⟨v,rfl⟩,hf⟩));go_end0;exact⟨⟨_,rfl⟩,hf⟩):P:=h
theorem O7{P:Prop}(h:P:=by
 simp only[AT.ptr];go_enter iM,iI;go_wp2_with fail;go_quiet (fail);go_wp2_with fail;exact BN):P:=h
section
theorem nw{P:Prop}(h:P:=by
 refine⟨rfl,hR.mono ?_⟩;rintro e2 w2 (⟨rfl,h2⟩ |⟨rfl,h2⟩)
 ·have hS2:=HB.out _ _ h2;have yr:w2.cell? ⟨b,OH,none⟩=some (.pointer r.ptr):=aa hS2 OH;(go_simp;refine hK.out _ _ ?_;clear hK K;try simp only[zp]);(refine zj 18 rfl fun K hK=>?_;(go_simp;refine hK.out _ _ ?_;clear hK K;try simp only[zp]));(refine zj 19 rfl fun K hK=>?_;(go_simp;refine hK.out _ _ ?_;clear hK K;try simp only[zp]));(refine zi 20 rfl (fun W=>zq) ?_;simp only[zp]);(refine zi 21 rfl (fun W=>zq) ?_;simp only[zp]);(refine zi 22 rfl (fun W=>zq) ?_;simp only[zp]);(refine zi 24 rfl (fun W=>zq) ?_;simp only[zp]);(refine zj 23 rfl fun K hK=>?_;(go_simp;refine hK.out _ _ ?_;clear hK K;try simp only[zp]));(refine zj 25 rfl fun K hK=>?_);go_simp;refine⟨trivial,rfl,(PE.2 (HR2.out _ h2)).mono ?_⟩;rintro e3 w3 (⟨rfl,h3⟩ |⟨rfl,q,hq,h3⟩)
  ·(go_simp;refine hK.out _ _ ?_;clear hK K;try simp only[zp]);(refine zj 26 rfl fun K hK=>?_;(go_simp;refine hK.out _ _ ?_;clear hK K;try simp only[zp]));(refine zj 27 rfl fun K hK=>?_;(go_simp;refine hK.out _ _ ?_;clear hK K;try simp only[zp]));(refine zl ?_);go_wp2_with fail;go_ret;exact .inl ⟨rfl,by rw[HQ.out,show pre++(fl++(k0,v0)::r.toL)=pre++fl++[(k0,v0)]++r.toL by simp];rw[show Option.map (fun _=>fk) (none:Option Addr)=none from rfl,dr]at h3;exact h3⟩
  ·(go_simp;refine hK.out _ _ ?_;clear hK K;try simp only[zp]);(refine zj 26 rfl fun K hK=>?_;(go_simp;refine hK.out _ _ ?_;clear hK K;try simp only[zp]));(refine zj 27 rfl fun K hK=>?_;(go_simp;refine hK.out _ _ ?_;clear hK K;try simp only[zp]));(refine zl ?_);go_wp2_with fail;go_ret;exact .inr ⟨rfl,fl++(k0,v0)::q,by rw[HQ.out];rw[show Option.map (fun _=>fk) (none:Option Addr)=none from rfl,dr]at hq;obtain⟨z,rfl'⟩:=hq;exact⟨z,by rw[←rfl'];simp⟩,by rw[show pre++(fl++(k0,v0)::q)=pre++fl++[(k0,v0)]++q by simp];exact h3⟩
 ·(go_simp;refine hK.out _ _ ?_;clear hK K;try simp only[zp]);(refine zj 18 rfl fun K hK=>?_;(go_simp;refine hK.out _ _ ?_;clear hK K;try simp only[zp]));(refine zj 19 rfl fun K hK=>?_;(go_simp;refine hK.out _ _ ?_;clear hK K;try simp only[zp]));(refine zk 20 rfl ?_;simp only[zp]);(refine zk 21 rfl ?_;simp only[zp]);(refine zk 22 rfl ?_;simp only[zp]);(refine zk 23 rfl ?_;simp only[zp]);(refine zk 24 rfl ?_;simp only[zp]);(refine vP 25 (by kernel_rfl) rfl (fun K hK=>?_);(rw[Pm (SX.1 (by rfl))];refine⟨fun _ _=>trivial,?_⟩;refine hK.out _ _ ?_;clear hK K;try simp only[zp]));(refine zj 26 rfl fun K hK=>?_;(go_simp;refine hK.out _ _ ?_;clear hK K;try simp only[zp]));(refine zj 27 rfl fun K hK=>?_;(go_simp;refine hK.out _ _ ?_;clear hK K;try simp only[zp]));(refine zl ?_);go_wp2_with fail;go_ret;exact .inr ⟨rfl,fl++[(k0,v0)],by rw[HQ.out];exact⟨r.toL,by simp⟩,by rw[show pre++(fl++[(k0,v0)])=pre++fl++[(k0,v0)]by simp];exact h2⟩):P:=h
theorem IV{P:Prop}(h:P:=by
 (go_simp;refine hK.out _ _ ?_;clear hK K;try simp only[zp]);(refine zj 7 rfl fun K hK=>?_;(go_simp;refine hK.out _ _ ?_;clear hK K;try simp only[zp]));(refine zi 8 rfl (fun W=>zq) ?_;simp only[zp]);(refine zi 9 rfl (fun W=>zq) ?_;simp only[zp]);(refine zi 10 rfl (fun W=>zq) ?_;simp only[zp]);(refine zi 11 rfl (fun W=>zq) ?_;simp only[zp]);(refine zi 13 rfl (fun W=>zq) ?_;simp only[zp]);(refine zi 14 rfl (fun W=>zq) ?_;simp only[zp]);(refine zi 15 rfl (fun W=>zq) ?_;simp only[zp]);refine rW 12 16 (by kernel_rfl) rfl rfl (fun K hK=>?_) (fun K hK=>?_)
 ·rw[Pj (by rfl)];(go_simp;refine hK.out _ _ ?_;clear hK K;try simp only[zp]);exact NU
 ·rw[Pj (by rfl)];(go_simp;refine hK.out _ _ ?_;clear hK K;try simp only[zp]);(refine zj 12 rfl fun K hK=>?_;(go_simp;refine hK.out _ _ ?_;clear hK K;try simp only[zp]));(refine zj 17 rfl fun K hK=>?_);go_simp;exact nw):P:=h
theorem IU{P:Prop}(h:P:=by
 have yp:=part hS1;(go_simp;refine hK.out _ _ ?_;clear hK K;try simp only[zp]);(refine zj 7 rfl fun K hK=>?_;(go_simp;refine hK.out _ _ ?_;clear hK K;try simp only[zp]));(refine zi 8 rfl (fun W=>zq) ?_;simp only[zp]);(refine zi 9 rfl (fun W=>zq) ?_;simp only[zp]);(refine zi 10 rfl (fun W=>zq) ?_;simp only[zp]);(refine zi 11 rfl (fun W=>zq) ?_;simp only[zp]);(refine zi 13 rfl (fun W=>zq) ?_;simp only[zp]);(refine zi 14 rfl (fun W=>zq) ?_;simp only[zp]);refine rW 12 15 (by kernel_rfl) rfl rfl (fun K hK=>?_) (fun K hK=>?_)
 ·rw[Pj (by rfl)];(go_simp;refine hK.out _ _ ?_;clear hK K;try simp only[zp]);(refine zj 15 rfl fun K hK=>?_;(go_simp;refine hK.out _ _ ?_;clear hK K;try simp only[zp]));exact NU
 ·rw[Pj (by rfl)];(go_simp;refine hK.out _ _ ?_;clear hK K;try simp only[zp]);refine rW 12 16 (by kernel_rfl) rfl rfl (fun K hK=>?_) (fun K hK=>?_)
  ·rw[Pj (by rfl)];(go_simp;refine hK.out _ _ ?_;clear hK K;try simp only[zp]);exact NU
  ·rw[Pj (by rfl)];(go_simp;refine hK.out _ _ ?_;clear hK K;try simp only[zp]);(refine zj 12 rfl fun K hK=>?_;(go_simp;refine hK.out _ _ ?_;clear hK K;try simp only[zp]));(refine zj 17 rfl fun K hK=>?_);go_simp;exact nw):P:=h
theorem BN{P:Prop}(h:P:=by
 refine VV ?_;refine(Q6 (n:=0)).1 ?_;refine wpIn_region_any (by kernel_rfl) ?_;change wpAnyIn _ _ _ _ _ _ _ _ _ (World.drew _);have u2:w.cell? ⟨b,OL,none⟩=some (.pointer l.ptr):=aa hb OL;(refine zi 0 rfl (fun W=>zq) ?_;simp only[zp]);(refine zi 1 rfl (fun W=>zq) ?_;simp only[zp]);(refine zi 2 rfl (fun W=>zq) ?_;simp only[zp]);(refine zi 4 rfl (fun W=>zq) ?_;simp only[zp]);(refine zi 5 rfl (fun W=>zq) ?_;simp only[zp]);(refine zj 3 rfl fun K hK=>?_;(go_simp;refine hK.out _ _ ?_;clear hK K;try simp only[zp]));(refine zj 6 rfl fun K hK=>?_);go_simp;refine⟨trivial,rfl,(PE.2 (HR.out _)).mono ?_⟩;rintro e1 w1 (⟨rfl,h1⟩ |⟨rfl,q,hq,h1⟩)
 ·have hS1:=HB.out _ _ h1;obtain⟨fn,tmps,assign,body,hy,hR⟩:=HYY.out _ h1;have yk:w1.cell? ⟨b,0,none⟩=some ((KV k0)):=aa hS1 0;(first |(have yv1:w1.cell? ⟨b,1,none⟩=some (.int .i64 v0.tr):=aa hS1 1;have yv2:w1.cell? ⟨b,2,none⟩=some (.int .i64 v0.id):=aa hS1 2;have yv3:w1.cell? ⟨b,3,none⟩=some (.int .i64 v0.pa):=aa hS1 3;have yv4:w1.cell? ⟨b,4,none⟩=some (.int .i64 v0.rv):=aa hS1 4;have yv5:w1.cell? ⟨b,5,none⟩=some (.string v0.sv):=aa hS1 5;have yv6:w1.cell? ⟨b,6,none⟩=some (.string v0.op):=aa hS1 6;have yv7:w1.cell? ⟨b,7,none⟩=some (.int .i64 v0.st):=aa hS1 7;have yv8:w1.cell? ⟨b,8,none⟩=some (.int .i64 v0.du):=aa hS1 8;have yv9:w1.cell? ⟨b,9,none⟩=some (.bool v0.gn):=aa hS1 9) |(have yv1:w1.cell? ⟨b,1,none⟩=some (.int .i64 v0.tr):=aa hS1 1;have yv2:w1.cell? ⟨b,2,none⟩=some (.int .i64 v0.id):=aa hS1 2;have yv3:w1.cell? ⟨b,3,none⟩=some (.int .i64 v0.cl):=aa hS1 3;have yv4:w1.cell? ⟨b,4,none⟩=some (.int .i64 v0.de):=aa hS1 4;have yv5:w1.cell? ⟨b,5,none⟩=some (.int .i64 v0.to):=aa hS1 5;have yv6:w1.cell? ⟨b,6,none⟩=some (.int .i64 v0.fa):=aa hS1 6) |(have yv1:w1.cell? ⟨b,1,none⟩=some (.pointer (some ⟨v0,0,none⟩)):=aa hS1 1) |(have yv1:w1.cell? ⟨b,1,none⟩=some (.int .i64 v0):=aa hS1 1) |skip)
  first
  |exact IU
  |exact IV
 ·(go_simp;refine hK.out _ _ ?_;clear hK K;try simp only[zp]);(refine zj 7 rfl fun K hK=>?_;(go_simp;refine hK.out _ _ ?_;clear hK K;try simp only[zp]));(refine zk 8 rfl ?_;simp only[zp]);(refine zk 9 rfl ?_;simp only[zp]);(refine zk 10 rfl ?_;simp only[zp]);(refine zk 11 rfl ?_;simp only[zp]);(refine zk 12 rfl ?_;simp only[zp]);(refine zk 13 rfl ?_;simp only[zp]);(refine zk 14 rfl ?_;simp only[zp]);(refine zk 15 rfl ?_;simp only[zp]);(refine zk 16 rfl ?_;simp only[zp]);(refine vP 17 (by kernel_rfl) rfl (fun K hK=>?_);(rw[Pm (SX.1 (by rfl))];refine⟨fun _ _=>trivial,?_⟩;refine hK.out _ _ ?_;clear hK K;try simp only[zp]));(refine zj 18 rfl fun K hK=>?_;(go_simp;refine hK.out _ _ ?_;clear hK K;try simp only[zp]));(refine zj 19 rfl fun K hK=>?_;(go_simp;refine hK.out _ _ ?_;clear hK K;try simp only[zp]));(refine zk 20 rfl ?_;simp only[zp]);(refine zk 21 rfl ?_;simp only[zp]);(refine zk 22 rfl ?_;simp only[zp]);(refine zk 23 rfl ?_;simp only[zp]);(refine zk 24 rfl ?_;simp only[zp]);(refine vP 25 (by kernel_rfl) rfl (fun K hK=>?_);(rw[Pm (SX.1 (by rfl))];refine⟨fun _ _=>trivial,?_⟩;refine hK.out _ _ ?_;clear hK K;try simp only[zp]));(refine zj 26 rfl fun K hK=>?_;(go_simp;refine hK.out _ _ ?_;clear hK K;try simp only[zp]));(refine zj 27 rfl fun K hK=>?_;(go_simp;refine hK.out _ _ ?_;clear hK K;try simp only[zp]));(refine zl ?_);go_wp2_with fail;go_ret;exact .inr ⟨rfl,q,by rw[HQ.out];exact hq.trans (List.prefix_append _ _),h1⟩):P:=h
theorem pd{P:Prop}(h:P:=by
 induction T with
 |nil=>
  intro fp pre w _ _ hJ _ _ _;have HJ:=zH hJ;clear hJ hY hJd;simp only[AT.ptr];go_enter iM,iI;go_wp2;go_ret;exact .inl ⟨rfl,by simpa[AT.toL,aQ]using HJ.out⟩
 |node b l k0 v0 r ih1 ih2=>
  intro fp pre w hT hF hJ hs hN hL;obtain⟨_,hb,_,_⟩:=hT pre w hJ;have hA:=dO O hs;have hNl:pre.length+(l.toL.length+(r.toL.length+1))≤N:=by simpa only[AT.toL,Pu,PC]using hN
  have hTl:∀pre W,J pre W→aC nd own t W l:=fun pre W h=>(hT pre W h).2.2.1;have hTr:∀pre W,J pre W→aC nd own t W r:=fun pre W h=>(hT pre W h).2.2.2;have hLl:∀z∈l.toL,z∈L:=fun z hz=>hL z (by simp[AT.toL,hz]);have hLr:∀z∈r.toL,z∈L:=fun z hz=>hL z (by simp[AT.toL,hz]);have hLm:(k0,v0)∈L:=hL _ (by simp[AT.toL]);have HB:=zH (fun pre W (h:J pre W)=>(hT pre W h).2.1);have c0:w.cell? ⟨b,0,none⟩=some ((KV k0)):=aa hb 0;have c3:w.cell? ⟨b,OH,none⟩=some (.pointer r.ptr):=aa hb OH;have hdr:∀pre W n,J pre W→J pre (W.drewN n):=fun pre W n h=>hJd pre W _ h (ig (Pk _ W) n);have hdw:∀pre W,J pre W→J pre W.drew:=fun pre W h=>hJd pre W _ h (Pk _ W).drew;rcases(by
   rcases fp with _ |a
   ·exact .inl rfl
   ·rcases h:(O).lt k0 fk with _ |_
    ·exact .inr (.inl ⟨a,rfl,rfl⟩)
    ·exact .inr (.inr ⟨a,rfl,rfl⟩):fp=none∨(∃a,fp=some a∧(O).lt k0 fk=false)∨(∃a,fp=some a∧(O).lt k0 fk=true))with rfl |⟨a,rfl,hlt⟩ |⟨a,rfl,hlt⟩
  ·have hE:aQ O ((none:Option Addr).map fun _=>fk) (AT.node b l k0 v0 r).toL=aQ O ((none:Option Addr).map fun _=>fk) l.toL++(k0,v0)::r.toL:=by rw[show(none:Option Addr).map (fun _=>fk)=none from rfl,dr,dr];rfl
   have hfl:(aQ O ((none:Option Addr).map fun _=>fk) l.toL).length≤l.toL.length:=Qc _ _;obtain⟨fl,hfl0⟩:∃fl,fl=aQ O ((none:Option Addr).map fun _=>fk) l.toL:=⟨_,rfl⟩;rw[←hfl0]at hfl hE;have HR:=zH (fun n=>ih1 (none:Option Addr) pre (w.drewN n) hTl hF (hdr _ _ n hJ) hA.2.2.1 (by omega) hLl);rw[←hfl0]at HR;have HYY:=zH (fun W (h:J (pre++fl) W)=>hY (pre++fl) (k0,v0) W hLm h (by rw[Pu];omega));have HR2:=zH (fun W (h:J (pre++fl++[(k0,v0)]) W)=>ih2 none (pre++fl++[(k0,v0)]) W hTr (fun a e=>by cases e) h hA.2.2.2 (by simp only[Pu,PC,Qe];omega) hLr);have HQ:=zH hE;clear hJ hF hT hTl hTr hLl hLr hLm hNl hN hL hA hY hJd ih1 ih2 hdr hdw hs hfl hfl0 hE;exact O7
  ·have hE:aQ O ((some a).map fun _=>fk) (AT.node b l k0 v0 r).toL=aQ O ((some a).map fun _=>fk) l.toL++(k0,v0)::r.toL:=Ez hs hlt;(first |have g1:Op.bytesLess k0.toList fk.toList=false:=by simpa[oS,oN]using hlt |have g1:¬@LT.lt Int _ k0 fk:=by simpa[oS,oN]using hlt);have cf:w.cell? a=some ((KV fk)):=hF a rfl pre w hJ;have hfl:(aQ O ((some a).map fun _=>fk) l.toL).length≤l.toL.length:=Qc _ _;obtain⟨fl,hfl0⟩:∃fl,fl=aQ O ((some a).map fun _=>fk) l.toL:=⟨_,rfl⟩;rw[←hfl0]at hfl hE;have HR:=zH (fun n=>ih1 (some a) pre (w.drewN n) hTl hF (hdr _ _ n hJ) hA.2.2.1 (by omega) hLl);rw[←hfl0]at HR;have HYY:=zH (fun W (h:J (pre++fl) W)=>hY (pre++fl) (k0,v0) W hLm h (by rw[Pu];omega));have HR2:=zH (fun W (h:J (pre++fl++[(k0,v0)]) W)=>ih2 none (pre++fl++[(k0,v0)]) W hTr (fun a e=>by cases e) h hA.2.2.2 (by simp only[Pu,PC,Qe];omega) hLr);have HQ:=zH hE;clear hJ hF hT hTl hTr hLl hLr hLm hNl hN hL hA hY hJd ih1 ih2 hdr hdw hs hfl hfl0 hE hlt;exact O7
  ·(first |have g1:Op.bytesLess k0.toList fk.toList=true:=hlt |have g1:@LT.lt Int _ k0 fk:=by simpa[oN]using hlt);have cf:w.cell? a=some ((KV fk)):=hF a rfl pre w hJ;have HR:=zH (fun n=>ih2 (some a) pre (w.drewN n) hTr hF (hdr _ _ n hJ) hA.2.2.2 (by omega) hLr);have HQ:=zH (EA (o:=O) hs hlt);clear hJ hF hT hTl hTr hLl hLr hLm hNl hN hL hA hY hJd hb ih1 ih2 hdr hdw hlt HB hs;simp only[AT.ptr];go_enter iM,iI;go_wp2_with fail;go_quiet (fail);go_wp2_with ((with_reducible refine(HR.out _).mono ?_);rintro e1 w1 (⟨rfl,h1⟩ |⟨rfl,q,hq,h1⟩))
   ·go_ret;exact .inl ⟨rfl,by rw[show(some a).map (fun _=>fk)=some fk from rfl]at h1⊢;rw[HQ.out];exact h1⟩
   ·go_ret;exact .inr ⟨rfl,q,by rw[show(some a).map (fun _=>fk)=some fk from rfl]at hq⊢;rw[HQ.out];exact hq,h1⟩):P:=h
end
section
open Go.Shelf
namespace AvK
section
variable{t:Nat}{own:Nat→Nat}
theorem Ey(y N:Nat)(L:List (ByteArray×Unit))(J Jx:List (ByteArray×Unit)→World→Prop)(hJd:∀pre W W',J pre W→Below W.heap.size W W'→J pre W')
 (hY:∀pre x W,x∈L→J pre W→pre.length<N→YieldAt Fence.wide 0 prog y #[.string x.1,.agg #[]] W fun e W'=>(e=.returned (.bool true)∧J (pre++[x]) W')∨(e=.returned (.bool false)∧Jx (pre++[x]) W'))
 (fk:ByteArray)(T:AT ByteArray Unit):∀(fp:Option Addr) (pre:List (ByteArray×Unit)) (w:World),(∀pre W,J pre W→aC nd own t W T)→(∀a,fp=some a→∀pre W,J pre W→W.cell? a=some (.string fk))→J pre w→aX oS T.toL→pre.length+T.toL.length≤N→(∀z∈T.toL,z∈L)→
 Calls prog 333 #[.pointer T.ptr,.pointer fp,.func (.yield y) #[] #[]] w fun e W'=>
  (e=.returned (.bool true)∧J (pre++aQ oS (fp.map fun _=>fk) T.toL) W')∨(e=.returned (.bool false)∧∃q,q<+:aQ oS (fp.map fun _=>fk) T.toL∧Jx (pre++q) W'):=pd
end
end AvK
namespace AvS
section
variable{t:Nat}{own:Nat→Nat}
theorem Ey(y N:Nat)(L:List (ByteArray×Sp))(J Jx:List (ByteArray×Sp)→World→Prop)(hJd:∀pre W W',J pre W→Below W.heap.size W W'→J pre W')
 (hY:∀pre x W,x∈L→J pre W→pre.length<N→YieldAt Fence.wide 0 prog y #[.string x.1,.agg (SA x.2)] W fun e W'=>(e=.returned (.bool true)∧J (pre++[x]) W')∨(e=.returned (.bool false)∧Jx (pre++[x]) W'))
 (fk:ByteArray)(T:AT ByteArray Sp):∀(fp:Option Addr) (pre:List (ByteArray×Sp)) (w:World),(∀pre W,J pre W→aC nd own t W T)→(∀a,fp=some a→∀pre W,J pre W→W.cell? a=some (.string fk))→J pre w→aX oS T.toL→pre.length+T.toL.length≤N→(∀z∈T.toL,z∈L)→
 Calls prog 92 #[.pointer T.ptr,.pointer fp,.func (.yield y) #[] #[]] w fun e W'=>
  (e=.returned (.bool true)∧J (pre++aQ oS (fp.map fun _=>fk) T.toL) W')∨(e=.returned (.bool false)∧∃q,q<+:aQ oS (fp.map fun _=>fk) T.toL∧Jx (pre++q) W'):=pd
end
end AvS
namespace AvP
section
variable{t:Nat}{own:Nat→Nat}
theorem Ey(y N:Nat)(L:List (ByteArray×Pl))(J Jx:List (ByteArray×Pl)→World→Prop)(hJd:∀pre W W',J pre W→Below W.heap.size W W'→J pre W')
 (hY:∀pre x W,x∈L→J pre W→pre.length<N→YieldAt Fence.wide 0 prog y #[.string x.1,.agg (PA x.2)] W fun e W'=>(e=.returned (.bool true)∧J (pre++[x]) W')∨(e=.returned (.bool false)∧Jx (pre++[x]) W'))
 (fk:ByteArray)(T:AT ByteArray Pl):∀(fp:Option Addr) (pre:List (ByteArray×Pl)) (w:World),(∀pre W,J pre W→aC nd own t W T)→(∀a,fp=some a→∀pre W,J pre W→W.cell? a=some (.string fk))→J pre w→aX oS T.toL→pre.length+T.toL.length≤N→(∀z∈T.toL,z∈L)→
 Calls prog 200 #[.pointer T.ptr,.pointer fp,.func (.yield y) #[] #[]] w fun e W'=>
  (e=.returned (.bool true)∧J (pre++aQ oS (fp.map fun _=>fk) T.toL) W')∨(e=.returned (.bool false)∧∃q,q<+:aQ oS (fp.map fun _=>fk) T.toL∧Jx (pre++q) W'):=pd
end
end AvP
namespace AvI
section
variable{t:Nat}{own:Nat→Nat}
theorem Ey(y N:Nat)(L:List (ByteArray×Int))(J Jx:List (ByteArray×Int)→World→Prop)(hJd:∀pre W W',J pre W→Below W.heap.size W W'→J pre W')
 (hY:∀pre x W,x∈L→J pre W→pre.length<N→YieldAt Fence.wide 0 prog y #[.string x.1,.int .i64 x.2] W fun e W'=>(e=.returned (.bool true)∧J (pre++[x]) W')∨(e=.returned (.bool false)∧Jx (pre++[x]) W'))
 (fk:ByteArray)(T:AT ByteArray Int):∀(fp:Option Addr) (pre:List (ByteArray×Int)) (w:World),(∀pre W,J pre W→aC nd own t W T)→(∀a,fp=some a→∀pre W,J pre W→W.cell? a=some (.string fk))→J pre w→aX oS T.toL→pre.length+T.toL.length≤N→(∀z∈T.toL,z∈L)→
 Calls prog 214 #[.pointer T.ptr,.pointer fp,.func (.yield y) #[] #[]] w fun e W'=>
  (e=.returned (.bool true)∧J (pre++aQ oS (fp.map fun _=>fk) T.toL) W')∨(e=.returned (.bool false)∧∃q,q<+:aQ oS (fp.map fun _=>fk) T.toL∧Jx (pre++q) W'):=pd
end
end AvI
namespace AvN
section
variable{t:Nat}{own:Nat→Nat}
theorem Ey(y N:Nat)(L:List (Int×Int))(J Jx:List (Int×Int)→World→Prop)(hJd:∀pre W W',J pre W→Below W.heap.size W W'→J pre W')
 (hY:∀pre x W,x∈L→J pre W→pre.length<N→YieldAt Fence.wide 0 prog y #[.int .i64 x.1,.int .i64 x.2] W fun e W'=>(e=.returned (.bool true)∧J (pre++[x]) W')∨(e=.returned (.bool false)∧Jx (pre++[x]) W'))
 (fk:Int)(T:AT Int Int):∀(fp:Option Addr) (pre:List (Int×Int)) (w:World),(∀pre W,J pre W→aC nd own t W T)→(∀a,fp=some a→∀pre W,J pre W→W.cell? a=some (.int .i64 fk))→J pre w→aX oN T.toL→pre.length+T.toL.length≤N→(∀z∈T.toL,z∈L)→
 Calls prog 313 #[.pointer T.ptr,.pointer fp,.func (.yield y) #[] #[]] w fun e W'=>
  (e=.returned (.bool true)∧J (pre++aQ oN (fp.map fun _=>fk) T.toL) W')∨(e=.returned (.bool false)∧∃q,q<+:aQ oN (fp.map fun _=>fk) T.toL∧Jx (pre++q) W'):=pd
end
end AvN
namespace AvH
section
variable{t:Nat}{own:Nat→Nat}
theorem Ey(y N:Nat)(L:List (ByteArray×Nat))(J Jx:List (ByteArray×Nat)→World→Prop)(hJd:∀pre W W',J pre W→Below W.heap.size W W'→J pre W')
 (hY:∀pre x W,x∈L→J pre W→pre.length<N→YieldAt Fence.wide 0 prog y #[.string x.1,.pointer (some ⟨x.2,0,none⟩)] W fun e W'=>(e=.returned (.bool true)∧J (pre++[x]) W')∨(e=.returned (.bool false)∧Jx (pre++[x]) W'))
 (fk:ByteArray)(T:AT ByteArray Nat):∀(fp:Option Addr) (pre:List (ByteArray×Nat)) (w:World),(∀pre W,J pre W→aC nd own t W T)→(∀a,fp=some a→∀pre W,J pre W→W.cell? a=some (.string fk))→J pre w→aX oS T.toL→pre.length+T.toL.length≤N→(∀z∈T.toL,z∈L)→
 Calls prog 130 #[.pointer T.ptr,.pointer fp,.func (.yield y) #[] #[]] w fun e W'=>
  (e=.returned (.bool true)∧J (pre++aQ oS (fp.map fun _=>fk) T.toL) W')∨(e=.returned (.bool false)∧∃q,q<+:aQ oS (fp.map fun _=>fk) T.toL∧Jx (pre++q) W'):=pd
end
end AvH
end
section
theorem lO{P:Prop}(h:P:=by
 refine(Ey (t:=t) (own:=own) l T.toL.length T.toL (fun pre W=>(∃zs:List {z // z∈T.toL},zs.map (·.1)=pre∧J zs W)∧aC nd own t W T∧∀a,fp=some a→W.cell? a=some ((KV fk))) (fun pre W=>∃zs:List {z // z∈T.toL},zs.map (·.1)=pre∧Jx zs W)
  (fun pre W W' h hb=>?_) (fun pre x W hx h hl=>?_) fk T fp [] w (fun _ _ h=>h.2.1) (fun a e _ _ h=>h.2.2 a e) ⟨⟨[],rfl,h0⟩,hT,hfp⟩ hs (by simp) (fun _ h=>h)).mono ?_
 ·obtain⟨⟨zs,e,hj⟩,hi,hc⟩:=h;exact⟨⟨zs,e,wu hJ hj hb⟩,hi.below hb,fun a e=>(hb.cell (Uy W a (hc a e))).trans (hc a e)⟩
 ·obtain⟨⟨zs,e,hj⟩,hi,hc⟩:=h;obtain⟨m,hy⟩:=hY zs ⟨x,hx⟩ W hj (by rw[←e]at hl;simpa using hl);refine uY (YieldAt.mono hy fun e' W' h=>?_);rcases h with⟨he,hj',hk⟩ |⟨he,hj'⟩
  ·exact .inl ⟨he,⟨zs++[⟨x,hx⟩],by simp[e],hj'⟩,hi.kept (fun b hb=>⟨hk b (hF b hb),rfl⟩),fun a ea=>by rw[←hc a ea];simp only[World.cell?,hk _ (hfa a ea)]⟩
  ·exact .inr ⟨he,zs++[⟨x,hx⟩],by simp[e],hj'⟩
 ·rintro e W' (⟨he,⟨zs,ez,hj⟩,_⟩ |⟨he,q,hq,zs,ez,hj⟩)
  ·exact⟨⟨_,he⟩,.inl ⟨zs,by simpa using ez,hj⟩⟩
  ·exact⟨⟨_,he⟩,.inr ⟨zs,by rw[ez];simpa using hq,hj⟩⟩):P:=h
end
section
open Go.Shelf
namespace AvK
section
variable{t:Nat}{own:Nat→Nat}
theorem dj(l:Nat)(T:AT ByteArray Unit)(fk:ByteArray)(fp:Option Addr)(F:Nat→Prop)(hF:∀b∈T.blocks,F b)(hfa:∀a,fp=some a→F a.block)(J Jx:List {z // z∈T.toL}→World→Prop)(B:Nat)(hJ:AbidesFrom B J)
 (hY:∀pre (x:{z // z∈T.toL}) W,J pre W→pre.length<T.toL.length→∃m,YieldAt Fence.wide m prog l #[.string x.1.1,.agg #[]] W fun e W'=>(e=.returned (.bool true)∧J (pre++[x]) W'∧cu F W W')∨(e=.returned (.bool false)∧Jx (pre++[x]) W'))
 (w:World)(hT:aC nd own t w T)(hs:aX oS T.toL)(hfp:∀a,fp=some a→w.cell? a=some (.string fk))(h0:J [] w):
 Calls prog 333 #[.pointer T.ptr,.pointer fp,.func (.yield l) #[] #[]] w fun e W'=>(∃v,e=.returned v)∧
  ((∃ys,ys.map (·.1)=aQ oS (fp.map fun _=>fk) T.toL∧J ys W')∨(∃pre,pre.map (·.1)<+:aQ oS (fp.map fun _=>fk) T.toL∧Jx pre W')):=lO
theorem He(a:Addr)(fk:ByteArray)(w:World):
  Calls prog 291 #[.pointer (some a),.string fk] w fun e w'=>e=.returned (.func (.func 331) #[] #[.pointer (some ⟨w.heap.size,0,none⟩),.pointer (some ⟨w.heap.size+1,0,none⟩)])∧w'=(w.alloc (.cells #[.pointer (some a)] 403)).alloc (.cells #[.string fk] 9):=by
 go_enter func291,ntmps291;go_wp2;go_ret;exact⟨rfl,rfl⟩
theorem nf(n:Nat)(Bx By B q:Nat)(fk:ByteArray)(T:AT ByteArray Unit)(w:World)(hx:w.cell? ⟨Bx,0,none⟩=some (.pointer (some ⟨B,q,none⟩)))(hy:w.cell? ⟨By,0,none⟩=some (.string fk))(hc:w.cell? ⟨B,q,none⟩=some (.pointer T.ptr))(hT:aC nd own t w T)(hs:aX oS T.toL):
  SeqStopsK Fence.wide n prog 331 #[.pointer (some ⟨Bx,0,none⟩),.pointer (some ⟨By,0,none⟩)] (fun z:{z // z∈T.toL}=>#[.string z.1.1,.agg #[]]) (cu fun b=>b=By∨b∈T.blocks) (fun ys=>ys.map (·.1)=aQ oS (some fk) T.toL) (fun pre=>pre.map (·.1)<+:aQ oS (some fk) T.toL) T.toL.length w:=fun l J Jx W hW hJ hJx hY h0=>by
 have hy1:=(hW.cell (Uy w _ hy)).trans hy;have g:=dj (t:=t) (own:=own) l T fk (some ⟨By,0,none⟩) (fun b=>b=By∨b∈T.blocks) (fun _ h=>.inr h) (fun a e=>by cases e;exact .inl rfl) J Jx _ hJ (fun pre x W1 h hl=>⟨_,hY pre x W1 h hl⟩) W (hT.below hW) hs (fun a e=>by cases e;exact hy1) h0;rw[show(some (⟨By,0,none⟩:Addr)).map (fun _=>fk)=some fk from rfl]at g;have hx1:=(hW.cell (Uy w _ hx)).trans hx;have hc1:=(hW.cell (Uy w _ hc)).trans hc;have HTOP:=zH (Mk B q T.ptr W hc1);have HG:=zH g;clear g hT hs hJ hJx hY h0 hW hx hc hc1 hy hy1;refine PE.2 ?_;show Calls prog _ #[.func (.yield l) #[] #[],.pointer (some ⟨Bx,0,none⟩),.pointer (some ⟨By,0,none⟩)] W _;go_enter func331,ntmps331;go_wp2_with (first |(go_at_call 332;(with_reducible refine(HTOP.out).mono ?_);rintro e w0 ⟨rfl,rfl⟩) |(go_at_call 333;(with_reducible refine(HG.out).mono ?_);rintro e w1 ⟨⟨v,rfl⟩,hf⟩));go_end0;exact⟨⟨_,rfl⟩,hf⟩
end
end AvK
abbrev ME:=@AvK.He
abbrev ym:=@AvK.nf
namespace AvS
section
variable{t:Nat}{own:Nat→Nat}
theorem dj(l:Nat)(T:AT ByteArray Sp)(fk:ByteArray)(fp:Option Addr)(F:Nat→Prop)(hF:∀b∈T.blocks,F b)(hfa:∀a,fp=some a→F a.block)(J Jx:List {z // z∈T.toL}→World→Prop)(B:Nat)(hJ:AbidesFrom B J)
 (hY:∀pre (x:{z // z∈T.toL}) W,J pre W→pre.length<T.toL.length→∃m,YieldAt Fence.wide m prog l #[.string x.1.1,.agg (SA x.1.2)] W fun e W'=>(e=.returned (.bool true)∧J (pre++[x]) W'∧cu F W W')∨(e=.returned (.bool false)∧Jx (pre++[x]) W'))
 (w:World)(hT:aC nd own t w T)(hs:aX oS T.toL)(hfp:∀a,fp=some a→w.cell? a=some (.string fk))(h0:J [] w):
 Calls prog 92 #[.pointer T.ptr,.pointer fp,.func (.yield l) #[] #[]] w fun e W'=>(∃v,e=.returned v)∧
  ((∃ys,ys.map (·.1)=aQ oS (fp.map fun _=>fk) T.toL∧J ys W')∨(∃pre,pre.map (·.1)<+:aQ oS (fp.map fun _=>fk) T.toL∧Jx pre W')):=lO
theorem all(a:Addr)(w:World):
  Calls prog 45 #[.pointer (some a)] w fun e w'=>e=.returned (.func (.func 90) #[] #[.pointer (some ⟨w.heap.size,0,none⟩)])∧w'=w.alloc (.cells #[.pointer (some a)] 158):=by
 go_enter func45,ntmps45;go_wp2;go_ret;exact⟨rfl,rfl⟩
theorem ev(n:Nat)(Bx B q:Nat)(T:AT ByteArray Sp)(w:World)(hx:w.cell? ⟨Bx,0,none⟩=some (.pointer (some ⟨B,q,none⟩)))(hc:w.cell? ⟨B,q,none⟩=some (.pointer T.ptr))(hT:aC nd own t w T)(hs:aX oS T.toL):
  SeqStopsK Fence.wide n prog 90 #[.pointer (some ⟨Bx,0,none⟩)] (fun z:{z // z∈T.toL}=>#[.string z.1.1,.agg (SA z.1.2)]) (cu fun b=>b∈T.blocks) (fun ys=>ys.map (·.1)=T.toL) (fun pre=>pre.map (·.1)<+:T.toL) T.toL.length w:=fun l J Jx W hW hJ hJx hY h0=>by
 have g:=dj (t:=t) (own:=own) l T default none (fun b=>b∈T.blocks) (fun _ h=>h) (fun a e=>by cases e) J Jx _ hJ (fun pre x W1 h hl=>⟨_,hY pre x W1 h hl⟩) W (hT.below hW) hs (fun a e=>by cases e) h0;rw[show(none:Option Addr).map (fun _=>(default:ByteArray))=none from rfl,dr]at g;have hx1:=(hW.cell (Uy w _ hx)).trans hx;have hc1:=(hW.cell (Uy w _ hc)).trans hc;have HTOP:=zH (Mh B q T.ptr W hc1);have HG:=zH g;clear g hT hs hJ hJx hY h0 hW hx hc hc1;refine PE.2 ?_;show Calls prog _ #[.func (.yield l) #[] #[],.pointer (some ⟨Bx,0,none⟩)] W _;go_enter func90,ntmps90;go_wp2_with (first |(go_at_call 91;(with_reducible refine(HTOP.out).mono ?_);rintro e w0 ⟨rfl,rfl⟩) |(go_at_call 92;(with_reducible refine(HG.out).mono ?_);rintro e w1 ⟨⟨v,rfl⟩,hf⟩));go_end0;exact⟨⟨_,rfl⟩,hf⟩
end
end AvS
abbrev L0:=@AvS.all
abbrev nm:=@AvS.ev
namespace AvP
section
variable{t:Nat}{own:Nat→Nat}
theorem dj(l:Nat)(T:AT ByteArray Pl)(fk:ByteArray)(fp:Option Addr)(F:Nat→Prop)(hF:∀b∈T.blocks,F b)(hfa:∀a,fp=some a→F a.block)(J Jx:List {z // z∈T.toL}→World→Prop)(B:Nat)(hJ:AbidesFrom B J)
 (hY:∀pre (x:{z // z∈T.toL}) W,J pre W→pre.length<T.toL.length→∃m,YieldAt Fence.wide m prog l #[.string x.1.1,.agg (PA x.1.2)] W fun e W'=>(e=.returned (.bool true)∧J (pre++[x]) W'∧cu F W W')∨(e=.returned (.bool false)∧Jx (pre++[x]) W'))
 (w:World)(hT:aC nd own t w T)(hs:aX oS T.toL)(hfp:∀a,fp=some a→w.cell? a=some (.string fk))(h0:J [] w):
 Calls prog 200 #[.pointer T.ptr,.pointer fp,.func (.yield l) #[] #[]] w fun e W'=>(∃v,e=.returned v)∧
  ((∃ys,ys.map (·.1)=aQ oS (fp.map fun _=>fk) T.toL∧J ys W')∨(∃pre,pre.map (·.1)<+:aQ oS (fp.map fun _=>fk) T.toL∧Jx pre W')):=lO
theorem all(a:Addr)(w:World):
  Calls prog 127 #[.pointer (some a)] w fun e w'=>e=.returned (.func (.func 198) #[] #[.pointer (some ⟨w.heap.size,0,none⟩)])∧w'=w.alloc (.cells #[.pointer (some a)] 241):=by
 go_enter func127,ntmps127;go_wp2;go_ret;exact⟨rfl,rfl⟩
theorem ev(n:Nat)(Bx B q:Nat)(T:AT ByteArray Pl)(w:World)(hx:w.cell? ⟨Bx,0,none⟩=some (.pointer (some ⟨B,q,none⟩)))(hc:w.cell? ⟨B,q,none⟩=some (.pointer T.ptr))(hT:aC nd own t w T)(hs:aX oS T.toL):
  SeqStopsK Fence.wide n prog 198 #[.pointer (some ⟨Bx,0,none⟩)] (fun z:{z // z∈T.toL}=>#[.string z.1.1,.agg (PA z.1.2)]) (cu fun b=>b∈T.blocks) (fun ys=>ys.map (·.1)=T.toL) (fun pre=>pre.map (·.1)<+:T.toL) T.toL.length w:=fun l J Jx W hW hJ hJx hY h0=>by
 have g:=dj (t:=t) (own:=own) l T default none (fun b=>b∈T.blocks) (fun _ h=>h) (fun a e=>by cases e) J Jx _ hJ (fun pre x W1 h hl=>⟨_,hY pre x W1 h hl⟩) W (hT.below hW) hs (fun a e=>by cases e) h0;rw[show(none:Option Addr).map (fun _=>(default:ByteArray))=none from rfl,dr]at g;have hx1:=(hW.cell (Uy w _ hx)).trans hx;have hc1:=(hW.cell (Uy w _ hc)).trans hc;have HTOP:=zH (Mi B q T.ptr W hc1);have HG:=zH g;clear g hT hs hJ hJx hY h0 hW hx hc hc1;refine PE.2 ?_;show Calls prog _ #[.func (.yield l) #[] #[],.pointer (some ⟨Bx,0,none⟩)] W _;go_enter func198,ntmps198;go_wp2_with (first |(go_at_call 199;(with_reducible refine(HTOP.out).mono ?_);rintro e w0 ⟨rfl,rfl⟩) |(go_at_call 200;(with_reducible refine(HG.out).mono ?_);rintro e w1 ⟨⟨v,rfl⟩,hf⟩));go_end0;exact⟨⟨_,rfl⟩,hf⟩
end
end AvP
abbrev MM:=@AvP.all
abbrev sI:=@AvP.ev
namespace AvI
section
variable{t:Nat}{own:Nat→Nat}
theorem dj(l:Nat)(T:AT ByteArray Int)(fk:ByteArray)(fp:Option Addr)(F:Nat→Prop)(hF:∀b∈T.blocks,F b)(hfa:∀a,fp=some a→F a.block)(J Jx:List {z // z∈T.toL}→World→Prop)(B:Nat)(hJ:AbidesFrom B J)
 (hY:∀pre (x:{z // z∈T.toL}) W,J pre W→pre.length<T.toL.length→∃m,YieldAt Fence.wide m prog l #[.string x.1.1,.int .i64 x.1.2] W fun e W'=>(e=.returned (.bool true)∧J (pre++[x]) W'∧cu F W W')∨(e=.returned (.bool false)∧Jx (pre++[x]) W'))
 (w:World)(hT:aC nd own t w T)(hs:aX oS T.toL)(hfp:∀a,fp=some a→w.cell? a=some (.string fk))(h0:J [] w):
 Calls prog 214 #[.pointer T.ptr,.pointer fp,.func (.yield l) #[] #[]] w fun e W'=>(∃v,e=.returned v)∧
  ((∃ys,ys.map (·.1)=aQ oS (fp.map fun _=>fk) T.toL∧J ys W')∨(∃pre,pre.map (·.1)<+:aQ oS (fp.map fun _=>fk) T.toL∧Jx pre W')):=lO
theorem all(a:Addr)(w:World):
  Calls prog 138 #[.pointer (some a)] w fun e w'=>e=.returned (.func (.func 212) #[] #[.pointer (some ⟨w.heap.size,0,none⟩)])∧w'=w.alloc (.cells #[.pointer (some a)] 252):=by
 go_enter func138,ntmps138;go_wp2;go_ret;exact⟨rfl,rfl⟩
theorem ev(n:Nat)(Bx B q:Nat)(T:AT ByteArray Int)(w:World)(hx:w.cell? ⟨Bx,0,none⟩=some (.pointer (some ⟨B,q,none⟩)))(hc:w.cell? ⟨B,q,none⟩=some (.pointer T.ptr))(hT:aC nd own t w T)(hs:aX oS T.toL):
  SeqStopsK Fence.wide n prog 212 #[.pointer (some ⟨Bx,0,none⟩)] (fun z:{z // z∈T.toL}=>#[.string z.1.1,.int .i64 z.1.2]) (cu fun b=>b∈T.blocks) (fun ys=>ys.map (·.1)=T.toL) (fun pre=>pre.map (·.1)<+:T.toL) T.toL.length w:=fun l J Jx W hW hJ hJx hY h0=>by
 have g:=dj (t:=t) (own:=own) l T default none (fun b=>b∈T.blocks) (fun _ h=>h) (fun a e=>by cases e) J Jx _ hJ (fun pre x W1 h hl=>⟨_,hY pre x W1 h hl⟩) W (hT.below hW) hs (fun a e=>by cases e) h0;rw[show(none:Option Addr).map (fun _=>(default:ByteArray))=none from rfl,dr]at g;have hx1:=(hW.cell (Uy w _ hx)).trans hx;have hc1:=(hW.cell (Uy w _ hc)).trans hc;have HTOP:=zH (Kx B q T.ptr W hc1);have HG:=zH g;clear g hT hs hJ hJx hY h0 hW hx hc hc1;refine PE.2 ?_;show Calls prog _ #[.func (.yield l) #[] #[],.pointer (some ⟨Bx,0,none⟩)] W _;go_enter func212,ntmps212;exact N6
theorem He(a:Addr)(fk:ByteArray)(w:World):
  Calls prog 139 #[.pointer (some a),.string fk] w fun e w'=>e=.returned (.func (.func 215) #[] #[.pointer (some ⟨w.heap.size,0,none⟩),.pointer (some ⟨w.heap.size+1,0,none⟩)])∧w'=(w.alloc (.cells #[.pointer (some a)] 252)).alloc (.cells #[.string fk] 9):=by
 go_enter func139,ntmps139;go_wp2;go_ret;exact⟨rfl,rfl⟩
theorem nf(n:Nat)(Bx By B q:Nat)(fk:ByteArray)(T:AT ByteArray Int)(w:World)(hx:w.cell? ⟨Bx,0,none⟩=some (.pointer (some ⟨B,q,none⟩)))(hy:w.cell? ⟨By,0,none⟩=some (.string fk))(hc:w.cell? ⟨B,q,none⟩=some (.pointer T.ptr))(hT:aC nd own t w T)(hs:aX oS T.toL):
  SeqStopsK Fence.wide n prog 215 #[.pointer (some ⟨Bx,0,none⟩),.pointer (some ⟨By,0,none⟩)] (fun z:{z // z∈T.toL}=>#[.string z.1.1,.int .i64 z.1.2]) (cu fun b=>b=By∨b∈T.blocks) (fun ys=>ys.map (·.1)=aQ oS (some fk) T.toL) (fun pre=>pre.map (·.1)<+:aQ oS (some fk) T.toL) T.toL.length w:=fun l J Jx W hW hJ hJx hY h0=>by
 have hy1:=(hW.cell (Uy w _ hy)).trans hy;have g:=dj (t:=t) (own:=own) l T fk (some ⟨By,0,none⟩) (fun b=>b=By∨b∈T.blocks) (fun _ h=>.inr h) (fun a e=>by cases e;exact .inl rfl) J Jx _ hJ (fun pre x W1 h hl=>⟨_,hY pre x W1 h hl⟩) W (hT.below hW) hs (fun a e=>by cases e;exact hy1) h0;rw[show(some (⟨By,0,none⟩:Addr)).map (fun _=>fk)=some fk from rfl]at g;have hx1:=(hW.cell (Uy w _ hx)).trans hx;have hc1:=(hW.cell (Uy w _ hc)).trans hc;have HTOP:=zH (Kx B q T.ptr W hc1);have HG:=zH g;clear g hT hs hJ hJx hY h0 hW hx hc hc1 hy hy1;refine PE.2 ?_;show Calls prog _ #[.func (.yield l) #[] #[],.pointer (some ⟨Bx,0,none⟩),.pointer (some ⟨By,0,none⟩)] W _;go_enter func215,ntmps215;exact N6
end
end AvI
abbrev Nc:=@AvI.all
abbrev BD:=@AvI.ev
abbrev MF:=@AvI.He
abbrev yn:=@AvI.nf
namespace AvN
section
variable{t:Nat}{own:Nat→Nat}
theorem dj(l:Nat)(T:AT Int Int)(fk:Int)(fp:Option Addr)(F:Nat→Prop)(hF:∀b∈T.blocks,F b)(hfa:∀a,fp=some a→F a.block)(J Jx:List {z // z∈T.toL}→World→Prop)(B:Nat)(hJ:AbidesFrom B J)
 (hY:∀pre (x:{z // z∈T.toL}) W,J pre W→pre.length<T.toL.length→∃m,YieldAt Fence.wide m prog l #[.int .i64 x.1.1,.int .i64 x.1.2] W fun e W'=>(e=.returned (.bool true)∧J (pre++[x]) W'∧cu F W W')∨(e=.returned (.bool false)∧Jx (pre++[x]) W'))
 (w:World)(hT:aC nd own t w T)(hs:aX oN T.toL)(hfp:∀a,fp=some a→w.cell? a=some (.int .i64 fk))(h0:J [] w):
 Calls prog 313 #[.pointer T.ptr,.pointer fp,.func (.yield l) #[] #[]] w fun e W'=>(∃v,e=.returned v)∧
  ((∃ys,ys.map (·.1)=aQ oN (fp.map fun _=>fk) T.toL∧J ys W')∨(∃pre,pre.map (·.1)<+:aQ oN (fp.map fun _=>fk) T.toL∧Jx pre W')):=lO
theorem all(a:Addr)(w:World):
  Calls prog 265 #[.pointer (some a)] w fun e w'=>e=.returned (.func (.func 311) #[] #[.pointer (some ⟨w.heap.size,0,none⟩)])∧w'=w.alloc (.cells #[.pointer (some a)] 379):=by
 go_enter func265,ntmps265;go_wp2;go_ret;exact⟨rfl,rfl⟩
theorem ev(n:Nat)(Bx B q:Nat)(T:AT Int Int)(w:World)(hx:w.cell? ⟨Bx,0,none⟩=some (.pointer (some ⟨B,q,none⟩)))(hc:w.cell? ⟨B,q,none⟩=some (.pointer T.ptr))(hT:aC nd own t w T)(hs:aX oN T.toL):
  SeqStopsK Fence.wide n prog 311 #[.pointer (some ⟨Bx,0,none⟩)] (fun z:{z // z∈T.toL}=>#[.int .i64 z.1.1,.int .i64 z.1.2]) (cu fun b=>b∈T.blocks) (fun ys=>ys.map (·.1)=T.toL) (fun pre=>pre.map (·.1)<+:T.toL) T.toL.length w:=fun l J Jx W hW hJ hJx hY h0=>by
 have g:=dj (t:=t) (own:=own) l T default none (fun b=>b∈T.blocks) (fun _ h=>h) (fun a e=>by cases e) J Jx _ hJ (fun pre x W1 h hl=>⟨_,hY pre x W1 h hl⟩) W (hT.below hW) hs (fun a e=>by cases e) h0;rw[show(none:Option Addr).map (fun _=>(default:Int))=none from rfl,dr]at g;have hx1:=(hW.cell (Uy w _ hx)).trans hx;have hc1:=(hW.cell (Uy w _ hc)).trans hc;have HTOP:=zH (Mj B q T.ptr W hc1);have HG:=zH g;clear g hT hs hJ hJx hY h0 hW hx hc hc1;refine PE.2 ?_;show Calls prog _ #[.func (.yield l) #[] #[],.pointer (some ⟨Bx,0,none⟩)] W _;go_enter func311,ntmps311;go_wp2_with (first |(go_at_call 312;(with_reducible refine(HTOP.out).mono ?_);rintro e w0 ⟨rfl,rfl⟩) |(go_at_call 313;(with_reducible refine(HG.out).mono ?_);rintro e w1 ⟨⟨v,rfl⟩,hf⟩));go_end0;exact⟨⟨_,rfl⟩,hf⟩
end
end AvN
abbrev Nb:=@AvN.all
abbrev BC:=@AvN.ev
end
section
theorem Ko(B q:Nat)(w:World):
  Calls prog 189 #[.pointer (some ⟨B,q,none⟩)] w fun e w'=>e=.returned (.func (.func 311) #[] #[.pointer (some ⟨w.heap.size,0,none⟩)])∧w'=w.alloc (.cells #[.pointer (some ⟨B,q,none⟩)] 379):=by
 have HA:=zH (Nb ⟨B,q,none⟩ w);go_enter func189,ntmps189;go_wp2_with (go_at_call 265;(with_reducible refine(HA.out).mono ?_);rintro e w1 ⟨rfl,rfl⟩);go_ret;exact⟨rfl,rfl⟩
end
section
open Go.Shelf
namespace AvH
section
variable{t:Nat}{own:Nat→Nat}
theorem dj(l:Nat)(T:AT ByteArray Nat)(fk:ByteArray)(fp:Option Addr)(F:Nat→Prop)(hF:∀b∈T.blocks,F b)(hfa:∀a,fp=some a→F a.block)(J Jx:List {z // z∈T.toL}→World→Prop)(B:Nat)(hJ:AbidesFrom B J)
 (hY:∀pre (x:{z // z∈T.toL}) W,J pre W→pre.length<T.toL.length→∃m,YieldAt Fence.wide m prog l #[.string x.1.1,.pointer (some ⟨x.1.2,0,none⟩)] W fun e W'=>(e=.returned (.bool true)∧J (pre++[x]) W'∧cu F W W')∨(e=.returned (.bool false)∧Jx (pre++[x]) W'))
 (w:World)(hT:aC nd own t w T)(hs:aX oS T.toL)(hfp:∀a,fp=some a→w.cell? a=some (.string fk))(h0:J [] w):
 Calls prog 130 #[.pointer T.ptr,.pointer fp,.func (.yield l) #[] #[]] w fun e W'=>(∃v,e=.returned v)∧
  ((∃ys,ys.map (·.1)=aQ oS (fp.map fun _=>fk) T.toL∧J ys W')∨(∃pre,pre.map (·.1)<+:aQ oS (fp.map fun _=>fk) T.toL∧Jx pre W')):=lO
theorem all(a:Addr)(w:World):
  Calls prog 74 #[.pointer (some a)] w fun e w'=>e=.returned (.func (.func 128) #[] #[.pointer (some ⟨w.heap.size,0,none⟩)])∧w'=w.alloc (.cells #[.pointer (some a)] 242):=by
 go_enter func74,ntmps74;go_wp2;go_ret;exact⟨rfl,rfl⟩
theorem ev(n:Nat)(Bx B q:Nat)(T:AT ByteArray Nat)(w:World)(hx:w.cell? ⟨Bx,0,none⟩=some (.pointer (some ⟨B,q,none⟩)))(hc:w.cell? ⟨B,q,none⟩=some (.pointer T.ptr))(hT:aC nd own t w T)(hs:aX oS T.toL):
  SeqStopsK Fence.wide n prog 128 #[.pointer (some ⟨Bx,0,none⟩)] (fun z:{z // z∈T.toL}=>#[.string z.1.1,.pointer (some ⟨z.1.2,0,none⟩)]) (cu fun b=>b∈T.blocks) (fun ys=>ys.map (·.1)=T.toL) (fun pre=>pre.map (·.1)<+:T.toL) T.toL.length w:=fun l J Jx W hW hJ hJx hY h0=>by
 have g:=dj (t:=t) (own:=own) l T default none (fun b=>b∈T.blocks) (fun _ h=>h) (fun a e=>by cases e) J Jx _ hJ (fun pre x W1 h hl=>⟨_,hY pre x W1 h hl⟩) W (hT.below hW) hs (fun a e=>by cases e) h0;rw[show(none:Option Addr).map (fun _=>(default:ByteArray))=none from rfl,dr]at g;have hx1:=(hW.cell (Uy w _ hx)).trans hx;have hc1:=(hW.cell (Uy w _ hc)).trans hc;have HTOP:=zH (Ml B q T.ptr W hc1);have HG:=zH g;clear g hT hs hJ hJx hY h0 hW hx hc hc1;refine PE.2 ?_;show Calls prog _ #[.func (.yield l) #[] #[],.pointer (some ⟨Bx,0,none⟩)] W _;go_enter func128,ntmps128;go_wp2_with (first |(go_at_call 129;(with_reducible refine(HTOP.out).mono ?_);rintro e w0 ⟨rfl,rfl⟩) |(go_at_call 130;(with_reducible refine(HG.out).mono ?_);rintro e w1 ⟨⟨v,rfl⟩,hf⟩));go_end0;exact⟨⟨_,rfl⟩,hf⟩
end
end AvH
abbrev Nf:=@AvH.all
abbrev BE:=@AvH.ev
end
