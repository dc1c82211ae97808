/- For WholeGone: contracts of functions and plain laws. -/
import Derived.Test.YtfgfbacnkpeneaaGreatDoorZBd
import Derived.Deep.SlicePairs
set_option maxRecDepth 100000
set_option maxHeartbeats 4000000
set_option linter.unusedVariables false
set_option linter.unusedSimpArgs false
namespace Go.Proofs.YtfgfbacnkpeneaaGreatDoor
open Go.Proofs.Tryz Go.ChangeShapes Go.WideShapes Go.ChangeAt Go.RowKit Go.Deep
abbrev Vp:=@Go.Exit.noGoto_ret
abbrev TF:=@List.set_append_right
abbrev TG:=@List.length_set
abbrev V0:=@Bool.not_true
abbrev V4:=@List.pairwise_iff_getElem
abbrev V5:=@Go.Proofs.Tryz.underlying176
abbrev Wh:=@Bool.not_eq_eq_eq_not
theorem Oo{P:Prop}(h:P:=by
 refine⟨⟨k+1,d,_,_,c',rfl,rfl,by omega,hd,by go_num,fun _=>rfl,hc',HEND.out d HLW.out,?_,B8⟩,by simp[intOf];omega⟩;rw[HFT.out,HPN.out];exact iY o8):P:=h
section
attribute [local go_sem] QA
theorem KU(g n:Nat):(⟨g,0,none⟩:Addr).add n=⟨g,n,none⟩:=by unfold Addr.add;split<;>simp_all
theorem Jn(l:List Sp):∀u∈l.flatMap bg,u.oneCell'=true:=by
 intro u hu;obtain⟨x,_,hx⟩:=List.mem_flatMap.1 hu;simp[bg]at hx;rcases hx with rfl |rfl |rfl |rfl |rfl |rfl |rfl |rfl |rfl<;>rfl
theorem Ap(w:World)(e:TypeId)(sz:Nat):(w.alloc (.cells #[] e)).ownsRow w.heap.size e sz (.slice (some ⟨w.heap.size,0,none⟩) 0 0) 0 []:=
 ⟨by simp,.inr ⟨w.heap.size,0,#[],rfl,Po _,Up _ _,Po _,QZ _,by simp,by simp⟩⟩
theorem mN{P:Program}(w:World)(d:Nat)(t e:TypeId)(a:Addr)(n c:Nat)(h:P.underlying t=some (.slice e)):(Op.equalIn (d+1) t (.slice (some a) n c) (.slice none 0 0)).run P w=.ok false w:=by
 simp[Op.equalIn,Qu h]
theorem pm{P:Program}(w:World)(t e:TypeId)(a:Addr)(n c:Nat)(h:P.underlying t=some (.slice e)):(Op.equal t (.slice (some a) n c) (.slice none 0 0)).run P w=.ok false w:=mN w _ t e a n c h
theorem rj{P:Program}(w:World)(t e:TypeId)(a:Addr)(n c:Nat)(h:P.underlying t=some (.slice e)):(binOp .eql t (.slice (some a) n c) (.slice none 0 0)).run P w=.ok (.bool false) w:=by
 simp only[binOp];simp[pm w t e a n c h]
@[local go_sem] theorem FU(w:World)(a:Addr)(n c:Nat):(binOp .eql 22 (.slice (some a) n c) (.slice none 0 0)).run prog w=.ok (.bool false) w:=rj w _ _ a n c UF
theorem xc(ad:Addr)(c:Nat)(l:List Sp)(hn2:l.length≤100000)(w:World)(hr:∀j u,(l.flatMap bg)[j]?=some u→w.cell? (ad.add j)=some u):
  Calls prog 176 #[.slice (some ad) l.length c] w fun e w'=>∃v,e=.returned v∧w'.ownsRow w.heap.size 93 9 v l.length (l.flatMap bg)∧Below w.heap.size w w':=by
 obtain⟨i0,hi⟩:=Qm cC;have HI:=zH hi;have HR:=zH (fun j u (hj:(l.flatMap bg)[j]?=some u)=>(show(w.alloc (.cells #[] 93)).cell? (ad.add j)=some u from ql (hr j u hj) _));have hlen:=Cc l;clear hi hr;go_enter func176,ntmps176;go_wp2_with (at_builtin;go_loud (refine aM rfl _ _ 22 rfl w.heap.size 93 i0 (.agg SZ) 9 88 UF HI.out.1 HI.out.2.1 HI.out.2.2.1 HI.out.2.2.2 rfl (by decide) (.slice (some ⟨w.heap.size,0,none⟩) 0 0) 0 [] rfl (Ap w 93 9) ad l.length c (l.flatMap bg) rfl hlen HR.out (Jn _) (by unfold maxLen;omega) (by omega) (by simp) ?_);intro v' w' h2 h3 h4;rw[Rf,PQ]at h2;obtain⟨A',c',rfl⟩:=an h2);go_ret;exact⟨_,rfl,h2,(ae _ (Pk _ w)).grown h3 (by simp) (by intro k h;cases h;exact Po _)⟩
theorem Cb:∀(M:List Sp) (k:Nat) (y:Sp),(((((((((M.flatMap bg).set (k*9) (.int .i64 y.tr)).set (k*9+1) (.int .i64 y.id)).set (k*9+2) (.int .i64 y.pa)).set (k*9+3) (.int .i64 y.rv)).set (k*9+4) (.string y.sv)).set (k*9+5) (.string y.op)).set (k*9+6) (.int .i64 y.st)).set (k*9+7) (.int .i64 y.du)).set (k*9+8) (.bool y.gn)=(M.set k y).flatMap bg:=by
 intro M;induction M with
 |nil=>intro k y;rfl
 |cons x M ih=>
  intro k y;cases k with
  |zero=>rfl
  |succ k=>
   rw[U3,UR,UR,←ih k y];have h9:(bg x).length=9:=rfl;have hs:∀(Z:List Value) (j:Nat) (v:Value),(bg x++Z).set ((k+1)*9+j) v=bg x++Z.set (k*9+j) v:=fun Z j v=>by
    rw[TF _ _ (by rw[h9];omega),h9];congr 2;omega
   have h0:∀(Z:List Value) (v:Value),(bg x++Z).set ((k+1)*9) v=bg x++Z.set (k*9) v:=fun Z v=>hs Z 0 v;rw[h0,hs,hs,hs,hs,hs,hs,hs,hs]
theorem sP{ops:Array Oper}{rest:List Oper}{o:Oper}{a:Act}{Q:Exit→Act→World→Prop}{w:World}(hg:o.guard=none)(p v:Operand)(hop:o.op=Op.store 93 p v){g i B n c:Nat}{M:List Sp}{y:Sp}
  (hp:a.eval p=.pointer (some ⟨g,i*9,none⟩))(hv:a.eval v=.agg (SA y))(h:w.ownsRow B 93 9 (.slice (some ⟨g,0,none⟩) n c) n (M.flatMap bg))(hi:i<n)
  (hK:∀w',w'.ownsRow B 93 9 (.slice (some ⟨g,0,none⟩) n c) n ((M.set i y).flatMap bg)→Km (fun b=>b=g) w w'→wpList prog ops Q rest (a.put o.dst undef) w'):wpList prog ops Q (o::rest) a w:=by
 refine SU hg fun K' hK'=>?_;rcases h.2 with⟨e1,_⟩ |⟨g',cap,cur,e1,e3,hgb,hnc,hcm,hcs,htk⟩
 ·cases e1
 obtain⟨rfl,rfl⟩:g=g'∧c=cap:=by simpa using e1
 have hb:=aq (aq (aq (aq (aq (aq (aq (aq (aq hgb (i*9) (.int .i64 y.tr)) (i*9+1) (.int .i64 y.id)) (i*9+2) (.int .i64 y.pa)) (i*9+3) (.int .i64 y.rv)) (i*9+4) (.string y.sv)) (i*9+5) (.string y.op)) (i*9+6) (.int .i64 y.st)) (i*9+7) (.int .i64 y.du)) (i*9+8) (.bool y.gn);have hk:=hK _ ⟨by rw[←Cb];simp only[TG];exact h.1,.inr ⟨g,c,_,rfl,e3,hb,hnc,hcm,by simp[hcs],by
  simp only[VZ,List.take_set];rw[htk,Cb]⟩⟩ (by
  (iterate 9 (refine Km.setCell (F:=fun b=>b=g) ?_ (fun _=>rfl) _));exact Km.refl _ _)
 have hl:∀j,j<9→∃u,w.cell? ⟨g,i*9+j,none⟩=some u:=fun j hj=>by
  rw[aa hgb];have:i*9+j<cur.size:=by
   have h1:(i+1)*9≤n*9:=Tq 9 hi;have h2:n*9≤c*9:=Tq 9 hnc;omega
  exact⟨_,RF this⟩
 obtain⟨u0,c0⟩:=hl 0 (by omega);obtain⟨u1,c1⟩:=hl 1 (by omega);obtain⟨u2,c2⟩:=hl 2 (by omega);obtain⟨u3,c3⟩:=hl 3 (by omega);obtain⟨u4,c4⟩:=hl 4 (by omega);obtain⟨u5,c5⟩:=hl 5 (by omega);obtain⟨u6,c6⟩:=hl 6 (by omega);obtain⟨u7,c7⟩:=hl 7 (by omega);obtain⟨u8,c8⟩:=hl 8 (by omega);rw[Ru]at c0;have f0:=ak hgb (i*9);have f1:=ak hgb (i*9+1);have f2:=ak hgb (i*9+2);have f3:=ak hgb (i*9+3);have f4:=ak hgb (i*9+4);have f5:=ak hgb (i*9+5);have f6:=ak hgb (i*9+6);have f7:=ak hgb (i*9+7);have f8:=ak hgb (i*9+8);exact Ou
end
section
theorem Nw{w:World}{g:Nat}{cur:Array Value}{t:TypeId}{fr:Nat×Nat}(hg:w.heap[g]?=some (.cells cur t fr))(cs:Array Value):(w.setRow g cs).heap[g]?=some (.cells cs t fr):=by
 simp[World.setRow,SI,hg]
def kT(x:Sp):Bool:=!x.gn
def bF(l:List Sp):List Sp:=l.filter kT
theorem xU{l:List Sp}{k:Nat}{x:Sp}(hk:l[k]?=some x):bF (l.take (k+1))=bF (l.take k)++(if x.gn then[]else[x]):=by
 unfold bF;rw[PO,hk,VG];congr 1;cases h:x.gn<;>simp[kT,h]
theorem rJ(x:Sp)(w:World):Calls prog 177 #[.agg #[.int .i64 x.tr,.int .i64 x.id,.int .i64 x.pa,.int .i64 x.rv,.string x.sv,.string x.op,.int .i64 x.st,.int .i64 x.du,.bool x.gn]] w fun e w'=>e=.returned (.bool x.gn)∧Below w.heap.size w w':=by
 have nn:=Up w (.cells #[.int .i64 x.tr,.int .i64 x.id,.int .i64 x.pa,.int .i64 x.rv,.string x.sv,.string x.op,.int .i64 x.st,.int .i64 x.du,.bool x.gn] 93);have n0:=aa nn;clear nn;go_enter func177,ntmps177;go_wp2;go_ret;exact⟨rfl,ae _ (Pk _ _)⟩
theorem vO(A:Option Addr)(c:Nat)(l:List Sp)(hm:l.length≤maxLen)(w:World)(hr:cm w w.heap.size A l):
  Calls prog 173 #[.slice A l.length c,.func (.func 177) #[] #[]] w fun e w'=>(∃i:Int,e=.returned (.int .i64 i)∧((i= -1∧∀x∈l,x.gn=false)∨∃(k:Nat) (x:Sp),i=k∧l[k]?=some x∧x.gn=true∧∀y∈l.take k,y.gn=false))∧Below w.heap.size w w':=by
 unfold maxLen at hm;have HR:=zH hr;clear hr;go_enter RI,RJ;go_wp2_with fail;go_loopw [8] (fun i wr=>∃k:Nat,k≤l.length∧i=.int .i64 k∧(∀y∈l.take k,y.gn=false)∧Below w.heap.size w wr) (fun i _=>l.length - (intOf i).toNat)
 case atStart=>exact⟨0,by omega,rfl,by simp,Pk _ _⟩
 case round=>
  obtain⟨k,hk,rfl,hany,hb⟩:=hrel;have HMY:=zH hany;clear hany;by_cases hlt:k<l.length
  ·obtain⟨f,hk'⟩:=zg hlt;obtain⟨ad,rfl,hadl,c0,c1,c2,c3,c4,c5,c6,c7,c8⟩:=HR.out.below hb k f hk';have HKK:=zH hk';have ho:=rJ f wr;have hi1:(k:Int)< (l.length:Int):=by omega
   clear hk';rcases hq:f.gn with _ |_
   ·have HGO:=zH (show ∀y∈l.take (k+1),y.gn=false from fun y hy=>by
     rw[PO,HKK.out]at hy;rcases Px.1 hy with hy |hy
     ·exact HMY.out y hy
     ·simp at hy;rw[hy];exact hq)
    rw[hq]at ho c8;have HO:=zH ho;clear ho hq;go_wp2_with (go_at_call 177;(with_reducible refine(HO.out).mono ?_);rintro e w1 ⟨rfl,b1⟩);exact Wv
   ·have HQ:=zH hq;rw[hq]at ho c8;have HO:=zH ho;clear ho hq;go_wp2_with (go_at_call 177;(with_reducible refine(HO.out).mono ?_);rintro e w1 ⟨rfl,b1⟩);go_ret;exact⟨⟨_,rfl,.inr ⟨k,f,rfl,HKK.out,HQ.out,HMY.out⟩⟩,hb.trans (b1.mono hb.size)⟩
  ·obtain rfl:k=l.length:=by omega
   go_wp2_with fail;go_ret;have:=HMY.out;rw[PM]at this;exact⟨⟨_,rfl,.inl ⟨rfl,this⟩⟩,hb⟩
theorem DR{w:World}{B g n c k:Nat}{M:List Sp}(h:w.ownsRow B 93 9 (.slice (some ⟨g,0,none⟩) n c) n (M.flatMap bg))(hn:M.length=n)(hk:k≤n):w.ownsRow B 93 9 (.slice (some ⟨g,0,none⟩) k c) k ((M.take k).flatMap bg):=by
 rcases h.2 with⟨e1,_⟩ |⟨g',cap,cur,e1,e3,hg,hnc,hcm,hcs,htk⟩
 ·cases e1
 ·obtain⟨rfl,rfl⟩:g=g'∧c=cap:=by simpa using e1
  refine⟨by rw[Cc,UD];omega,.inr ⟨g,c,cur,rfl,e3,hg,by omega,hcm,hcs,?_⟩⟩;have e:∀(M:List Sp) (k:Nat),(M.flatMap bg).take (k*9)=(M.take k).flatMap bg:=by
   intro M;induction M with
   |nil=>intro k;simp
   |cons x M ih=>
    intro k;cases k with
    |zero=>simp
    |succ k=>
     have h9:(bg x).length=9:=rfl;rw[UJ,UR,UR,List.take_append,h9,VW (by rw[h9];omega),show(k+1)*9 - 9=k*9 by omega,ih k]
  rw[←e,←htk,List.take_take,Nat.min_eq_left (by omega)]
theorem zO(w:World)(B g n c k:Nat)(M:List Sp)(h:w.ownsRow B 93 9 (.slice (some ⟨g,0,none⟩) n c) n (M.flatMap bg))(hn:M.length=n)(hk:k<n):
  ∃w',(∀ty cc,(Builtin.clear_ #[22] ty #[.slice (some ⟨g,k*9,none⟩) (n - k) cc]).run prog w=.ok (.tuple #[]) w')∧w'.ownsRow B 93 9 (.slice (some ⟨g,0,none⟩) k c) k ((M.take k).flatMap bg)∧Km (fun b=>b=g) w w':=by
 have ht:=DR h hn (Rw hk);obtain⟨m,hm⟩:∃m,n - k=m+1:=⟨n - k - 1,by omega⟩;rw[hm];rcases id h.2 with⟨e1,_⟩ |⟨g',cap,cur,e1,e3,hg,hnc,hcm,hcs,htk⟩
 ·cases e1
 ·obtain⟨rfl,rfl⟩:g=g'∧c=cap:=by simpa using e1
  obtain⟨i,hi,hz,_,_⟩:=Qm cC;obtain⟨Z,hZ⟩:∃Z,Z=(Builtin.zeroCells (Value.agg SZ).cells (m+1)).toList:=⟨_,rfl⟩;have hZl:Z.length=(m+1)*9:=by rw[hZ];simp[Builtin.zeroCells,Value.cells]
  have e:(Value.agg SZ).cells=SZ:=by kernel_rfl
  have hZ1:∀v∈Z,v.oneCell'=true:=by
   intro v hv;rw[hZ]at hv;unfold Builtin.zeroCells at hv;simp only[Array.toList_map,Uu]at hv;obtain⟨x,_,rfl⟩:=hv;rw[e];have hx:x % 9<9:=Nat.mod_lt _ (by omega);show(#[Value.int .i64 0,.int .i64 0,.int .i64 0,.int .i64 0,.string ⟨#[]⟩,.string ⟨#[]⟩,.int .i64 0,.int .i64 0,.bool false][x % 9]!).oneCell'=true;generalize x % 9=r at hx
   match r,hx with
   |0,_=>rfl
   |1,_=>rfl
   |2,_=>rfl
   |3,_=>rfl
   |4,_=>rfl
   |5,_=>rfl
   |6,_=>rfl
   |7,_=>rfl
   |8,_=>rfl
  have hst:=run_storeCells_at prog g (k*9) 93 Z 0 cur w hg (by rw[hZl];omega) hZ1;refine⟨w.setRow g (cur.toList.take (k*9+0)++Z++cur.toList.drop (k*9+0+Z.length)).toArray,fun ty cc=>by simp[Builtin.clear_,Qu UF,zeroValue,typeInfo,hi,hz,←hZ,hst],?_,⟨rfl,rfl,rfl,by simp,fun b _ hb=>setRow_other w g b _ hb⟩⟩;rcases id ht.2 with⟨e1,_⟩ |⟨g',cap,cur',e1',e3',hg',hnc',hcm',hcs',htk'⟩
  ·cases e1
  obtain⟨rfl,rfl⟩:g=g'∧c=cap:=by simpa using e1'
  obtain rfl:cur=cur':=by rw[hg]at hg';simpa using hg'
  have l1:cur.toList.length=c*9:=hcs;refine⟨ht.1,.inr ⟨g,c,_,rfl,e3,Nw hg _,by omega,hcm,?_,?_⟩⟩
  ·simp only[UH,Pu,UD,Vn,hZl,l1];omega
  ·rw[Ru,Qg,List.take_left' (by rw[UD];omega),htk']
theorem xy{w:World}{B g n c:Nat}{e:TypeId}{sz:Nat}{xs:List Value}(h:w.ownsRow B e sz (.slice (some ⟨g,0,none⟩) n c) n xs):n≤c∧B≤g∧g<w.heap.size:=by
 rcases fq h with⟨e,_⟩ |⟨g',c',e,h1,h2,h3,h4⟩
 ·cases e
 ·obtain⟨rfl,rfl⟩:g=g'∧c=c':=by simpa using e
  exact⟨h1,h4,h3⟩
theorem ph(B:Nat)(v:Value)(l:List Sp)(hl:l.length≤100000)(w:World)(hB:B≤w.heap.size)(ho:w.ownsRow B 93 9 v l.length (l.flatMap bg)):
  Calls prog 175 #[v,.func (.func 177) #[] #[]] w fun e w'=>∃v',e=.returned v'∧w'.ownsRow B 93 9 v' (bF l).length ((bF l).flatMap bg)∧Below B w w':=by
 obtain⟨A,c,rfl,hr,hc1,hc2,hA⟩:=bE ho;have HIX:=zH (vO A c l (by unfold maxLen;omega) w hr);by_cases hn:∀x∈l,x.gn=false
 ·have hll:bF l=l:=by
   unfold bF;rw[VE];intro x hx;simp[kT,hn x hx]
  have HN:=zH hn;have HO:=zH ho;rw[hll];clear ho hr hn hll hA;go_enter func175,ntmps175;go_wp2_with (go_at_call 173;(with_reducible refine(HIX.out).mono ?_);rintro e w1 ⟨⟨i,rfl,hi⟩,b1⟩;obtain rfl:i= -1:=(by rcases hi with⟨h,_⟩ |⟨k,x,_,h1,h2,_⟩<;>first |exact h |(have:=HN.out x (Pv h1);rw[h2]at this;cases this));clear hi);go_ret;exact⟨_,rfl,au HO.out b1,b1.mono hB⟩
 ·obtain⟨x0,hx0,hg0⟩:∃x∈l,x.gn=true:=by
   refine Classical.byContradiction fun hcon=>hn fun x hx=>?_;cases h:x.gn with
   |false=>rfl
   |true=>exact absurd ⟨x,hx,h⟩ hcon
  have hpos:0<l.length:=Wf hx0;rcases fq ho with⟨e,h0⟩ |⟨g,cap,e,_⟩
  ·omega
  obtain⟨rfl,rfl⟩:A=some ⟨g,0,none⟩∧c=cap:=by simpa using e
  have HNO:=zH (Uq hx0 hg0);have HO:=zH ho;obtain⟨n,hnl⟩:∃n,n=l.length:=⟨_,rfl⟩;have HN:=zH hnl;rw[←hnl]at HO HIX hl hc1⊢;have HBB:=zH hB;have hgB:=(xy HO.out).2;clear ho hr hn hA hpos hx0 hg0 hnl e hB;go_enter func175,ntmps175;go_wp2_with (go_at_call 173;(with_reducible refine(HIX.out).mono ?_);rintro e w1 ⟨⟨i,rfl,hi⟩,b1⟩;obtain⟨k,xk,rfl,hk1,hk2,hk3⟩:∃(k:Nat) (x:Sp),i=k∧l[k]?=some x∧x.gn=true∧∀y∈l.take k,y.gn=false:=(by rcases hi with⟨_,h⟩ |h<;>first |exact h |(have:=h _ HNO.out.1;rw[HNO.out.2]at this;cases this));clear hi;have hkn:k<n:=(by rw[HN.out];exact(Qh.1 hk1).1);have hk1m:((k:Int)== -1)=false:=(by rw[Qz];omega));have HO1:=zH (au HO.out b1);have HK:=zH (show bF (l.take (k+1))=l.take k by
   rw[xU hk1,hk2];simp only[RT,Q7];unfold bF;rw[VE];intro x hx;simp[kT,hk3 x hx])
  have B1:=zH (b1.mono HBB.out);clear b1 hk1 hk2 hk3;go_loopw [5,6] (fun vi vj wr=>∃(i j:Nat) (M:List Sp),i<j∧j≤n∧vi=.int .i64 i∧vj=.int .i64 j∧M.length=n∧bF (l.take j)=M.take i∧(∀t,j≤t→M[t]?=l[t]?)∧wr.ownsRow B 93 9 (.slice (some ⟨g,0,none⟩) n c) n (M.flatMap bg)∧Below B w wr) (fun _ vj _=>n - (intOf vj).toNat)
  case atStart=>exact⟨k,k+1,l,by omega,by omega,rfl,by go_num,HN.out.symm,HK.out,fun _ _=>rfl,HO1.out,B1.out⟩
  case round=>
   obtain⟨i,j,M,hij,hjn,rfl,rfl,hM,hliv,hrest,ho,hb⟩:=hrel;have hcap:=xy ho;by_cases hlt:j<n
   ·obtain⟨x,hx⟩:∃x,l[j]?=some x:=⟨l[j]'(by rw[←HN.out];exact hlt),PT _⟩;have hMx:M[j]?=some x:=(hrest j (Po _)).trans hx;have hrow:=bE (l:=M) (by rw[hM];exact ho);obtain⟨A',c',eA,hR,_,_,_⟩:=hrow;obtain⟨rfl,rfl⟩:A'=some ⟨g,0,none⟩∧c=c':=by
     injection eA with e1 e2 e3;exact⟨e1.symm,e3⟩
    obtain⟨ad,ead,_,d0,d1,d2,d3,d4,d5,d6,d7,d8⟩:=hR j x hMx;obtain rfl:(⟨g,0,none⟩:Addr)=ad:=UC ead;rw[KU]at d0 d1 d2 d3 d4 d5 d6 d7 d8;have hj1:(j:Int)< (n:Int):=by omega
    have HTK:=zH (xU hx);have HLV:=zH hliv;have HRS:=zH hrest;have HMX:=zH hMx;have HML:=zH hM;have HOO:=zH ho;have HBW:=zH hb;have hzz:=hb.size;have HCQ:=rJ x (wr.alloc (.cells #[.int .i64 x.tr,.int .i64 x.id,.int .i64 x.pa,.int .i64 x.rv,.string x.sv,.string x.op,.int .i64 x.st,.int .i64 x.du,.bool x.gn] 93));clear hx hMx hR eA ead hliv hrest hM ho hb;rcases hq:x.gn with _ |_
    ·have HQ:=zH hq;rw[hq]at HCQ d8;have CQ:=zH HCQ;have hin:i<n:=by omega
     have hii:(i:Int)< (n:Int):=by omega
     clear HCQ;go_wp2_with (first |(go_at_call 177;(with_reducible refine(CQ.out).mono ?_);rintro e w2 ⟨rfl,b2⟩;have nX:=af (Up wr (.cells #[.int .i64 x.tr,.int .i64 x.id,.int .i64 x.pa,.int .i64 x.rv,.string x.sv,.string x.op,.int .i64 x.st,.int .i64 x.du,.bool false] 93)) b2;have y0:=aa nX;have b02:=ah b2 (zB wr (.cells #[.int .i64 x.tr,.int .i64 x.id,.int .i64 x.pa,.int .i64 x.rv,.string x.sv,.string x.op,.int .i64 x.st,.int .i64 x.du,.bool false] 93));have R2:=zH (au HOO.out b02)) |(go_loud (refine sP rfl _ _ rfl (i:=i) (y:=⟨x.tr,x.id,x.pa,x.rv,x.sv,x.op,x.st,x.du,false⟩) rfl rfl R2.out hin ?_);intro w3 R3 k3));have hbw3:Below B w w3:=(HBW.out.trans (b02.mono (Pt HBB.out HBW.out.size))).trans (k3.below (fun b hb e=>by omega) (Pt (Pt HBB.out HBW.out.size) b02.size));refine⟨⟨i+1,j+1,M.set i x,by omega,by omega,by go_num,by go_num,by rw[TG];exact HML.out,?_,fun t ht=>?_,?_,hbw3⟩,by simp[intOf];omega⟩
     ·rw[HTK.out,HLV.out,HQ.out,PO,TT (by rw[HML.out];exact hin),List.take_set_of_le (Po _)];simp
     ·rw[List.getElem?_set_ne (by omega)];exact HRS.out t (by omega)
     ·have:(⟨x.tr,x.id,x.pa,x.rv,x.sv,x.op,x.st,x.du,false⟩:Sp)=x:=by
       have:=HQ.out;cases x;simp_all
      rw[this]at R3;exact R3
    ·have HQ:=zH hq;rw[hq]at HCQ d8;have CQ:=zH HCQ;clear HCQ;go_wp2_with (go_at_call 177;(with_reducible refine(CQ.out).mono ?_);rintro e w2 ⟨rfl,b2⟩);have b02:=ah b2 (zB wr (.cells #[.int .i64 x.tr,.int .i64 x.id,.int .i64 x.pa,.int .i64 x.rv,.string x.sv,.string x.op,.int .i64 x.st,.int .i64 x.du,.bool true] 93));refine⟨⟨i,j+1,M,by omega,by omega,rfl,by go_num,HML.out,?_,fun t ht=>HRS.out t (by omega),au HOO.out b02,HBW.out.trans (b02.mono (Pt HBB.out HBW.out.size))⟩,by simp[intOf];omega⟩;rw[HTK.out,HLV.out,HQ.out];simp
   ·obtain rfl:j=n:=by omega
    obtain⟨wc,hcl,hoc,hgc⟩:=zO wr B g j c i M ho hM hij;have HLV:=zH hliv;have HOC:=zH hoc;have HGC:=zH (hb.trans (hgc.below (fun b hb' e=>by omega) (Pt HBB.out hb.size)));have hii:(i:Int)≤(j:Int):=by omega
    have hii2:(j:Int)≤(c:Int):=by omega
    have hii3:(i:Int)≤(c:Int):=by omega
    have hci:¬(c=i):=by omega
    have hcl0:=hcl 0 (c - i);have HMT:=zH (show(M.take i).length=i by rw[UD];omega);clear hcl hoc hgc ho hliv hrest hM;go_wp2_with fail;go_ret;have hfin:=HOC.out;have e1:=HLV.out;rw[HN.out,PM]at e1;rw[e1,HMT.out];exact⟨_,rfl,hfin,HGC.out⟩
theorem pn{P:Program}(w:World)(d:Nat)(t e:TypeId)(h:P.underlying t=some (.slice e)):(Op.equalIn (d+1) t (.slice none 0 0) (.slice none 0 0)).run P w=.ok true w:=by
 simp[Op.equalIn,Qu h]
theorem rh{P:Program}(w:World)(t e:TypeId)(h:P.underlying t=some (.slice e)):(Op.equal t (.slice none 0 0) (.slice none 0 0)).run P w=.ok true w:=pn w _ t e h
theorem vA{P:Program}(w:World)(t e:TypeId)(h:P.underlying t=some (.slice e)):(binOp .eql t (.slice none 0 0) (.slice none 0 0)).run P w=.ok (.bool true) w:=by
 simp only[binOp];simp[rh w t e h]
@[local go_sem] theorem FV(w:World):(binOp .eql 22 (.slice none 0 0) (.slice none 0 0)).run prog w=.ok (.bool true) w:=vA w _ _ UF
theorem qp(w:World):Calls prog 176 #[.slice none 0 0] w fun e w'=>e=.returned (.slice none 0 0)∧w=w':=by
 go_enter func176,ntmps176;go_wp2;go_ret;exact⟨rfl,rfl⟩
theorem nJ{B:Nat}{v:Value}{l:List Sp}{w:World}(h:w.ownsRow B 93 9 v l.length (l.flatMap bg))(hl:l.length≤100000):
  Calls prog 104 #[v] w fun e w'=>∃v',e=.returned v'∧w'.ownsRow w.heap.size 93 9 v' (bF l).length ((bF l).flatMap bg)∧Below w.heap.size w w':=by
 have hC:Calls prog 176 #[v] w fun e w'=>∃v',e=.returned v'∧w'.ownsRow w.heap.size 93 9 v' l.length (l.flatMap bg)∧Below w.heap.size w w':=by
  rcases fq h with⟨e,h0⟩ |⟨g,cap,e,_,_,h3,_⟩
  ·have:l=[]:=QW h0;subst this;rw[e];refine(qp w).mono ?_;rintro e w' ⟨rfl,rfl⟩;exact⟨_,rfl,PS _ _ _ _,Pk _ _⟩
  ·rw[e];refine xc ⟨g,0,none⟩ cap l hl w ?_;intro j u hj;have:=(e▸h).cells (g:=g) rfl j u hj;exact this
 have HC:=zH hC;have HD:=zH (fun w1 (b1:Below w.heap.size w w1) v1 (o1:w1.ownsRow w.heap.size 93 9 v1 l.length (l.flatMap bg))=>ph w.heap.size v1 l hl w1 b1.size o1);clear h hC;go_enter func104,ntmps104;go_wp2_with (first |(go_at_call 176;(with_reducible refine(HC.out).mono ?_);rintro e w1 ⟨v1,rfl,o1,b1⟩) |(go_at_call 175;(with_reducible refine(HD.out _ b1 _ o1).mono ?_);rintro e w2 ⟨v2,rfl,o2,b2⟩));refine Ux (v:=v2) (by simp[results,results104,go_sem]) rfl ?_;exact⟨v2,rfl,o2,b1.trans b2⟩
theorem gS{B B':Nat}{vo vi:Value}{lo li:List Sp}{w:World}(ho:w.ownsRow B 93 9 vo lo.length (lo.flatMap bg))(hi:w.ownsRow B' 93 9 vi li.length (li.flatMap bg))(hlo:lo.length≤100000)(hli:li.length≤100000):
  Calls prog 53 #[.agg #[vo,vi]] w fun e w'=>∃uo ui,e=.returned (.agg #[uo,ui])∧w'.ownsRow w.heap.size 93 9 uo (bF lo).length ((bF lo).flatMap bg)∧w'.ownsRow w.heap.size 93 9 ui (bF li).length ((bF li).flatMap bg)∧Below w.heap.size w w':=by
 obtain⟨Ao,co,rfl⟩:=an ho;obtain⟨Ai,ci,rfl⟩:=an hi;have hb0:=ae (.cells #[.slice none 0 0,.slice none 0 0] 103) (zB w (.cells #[.slice Ao lo.length co,.slice Ai li.length ci] 103));have n0:=ar (Up w (.cells #[.slice Ao lo.length co,.slice Ai li.length ci] 103)) (.cells #[.slice none 0 0,.slice none 0 0] 103);have m0:=Up (w.alloc (.cells #[.slice Ao lo.length co,.slice Ai li.length ci] 103)) (.cells #[.slice none 0 0,.slice none 0 0] 103);rw[Pq]at m0;have H1:=zH (fun w1 (b1:Below w.heap.size w w1)=>nJ (au ho b1) hlo);have H2:=zH (fun w1 (b1:Below w.heap.size w w1)=>nJ (au hi b1) hli);have HB:=zH hb0;have M0:=zH m0;clear ho hi hb0 m0;go_enter func53,ntmps53;go_wp2_with fail;refine zr (fun V=>V.heap[w.heap.size]?=some (.cells #[.slice Ao lo.length co,.slice Ai li.length ci] 103 (0,0))) n0 fun hS0=>?_;(refine zh hS0 6 2 0 ?_;simp only[zd];((iterate 2 (refine zt (fun W hW=>by have y0:=aa hW;exact zq) ?_;simp only[zp]));refine ac ?_));(refine zh hS0 4 2 3 ?_;simp only[zd];((iterate 2 (refine zt (fun W hW=>by have y0:=aa hW;exact zq) ?_;simp only[zp]));refine ac ?_));(refine zo 2 rfl fun K hK=>?_;go_simp);go_at_call 104;(with_reducible refine(H1.out _ HB.out.drew).mono ?_);rintro e1 w1 ⟨v1,rfl,o1,b1⟩;have B1:=ah b1 HB.out.drew;have n1:=af hS0 b1;have m1:=af (CU M0.out) b1;have hz:=HB.out.size;have hz1:=b1.size;obtain⟨A1,c1,rfl⟩:=an o1;go_wp2_with fail;(refine zu hK n1 ?_;clear hK K;try simp only[zp]);(refine zo 5 rfl fun K hK=>?_;go_simp);go_at_call 104;(with_reducible refine(H2.out _ B1).mono ?_);rintro e2 w2 ⟨v2,rfl,o2,b2⟩;have B2:=ah b2 B1;have n2:=af n1 b2;have m2:=af m1 b2;have o12:=au o1 b2;obtain⟨A2,c2,rfl⟩:=an o2;go_wp2_with fail;(refine zu hK n2 ?_;clear hK K;try simp only[zp]);(refine zh n2 1 1 6 ?_;simp only[zd];((iterate 1 (refine zU ?_;simp only[zp]));refine ac ?_));have x0:=aa m2 0;have x1:=aa m2 1;have f0:=ak m2;(refine zo 7 rfl fun K hK=>?_;go_simp);have n3:=aw (aw n2 (B:=w.heap.size+1) (j:=0) (by omega) (.slice A1 (bF lo).length c1)) (B:=w.heap.size+1) (j:=1) (by omega) (.slice A2 (bF li).length c2);have m3:=aq (aq m2 0 (.slice A1 (bF lo).length c1)) 1 (.slice A2 (bF li).length c2);clear x0 x1;go_wp2_with fail;(refine zu hK n3 ?_;clear hK K;try simp only[zp]);(refine ze ?_);have q0:=aa m3 0;have q1:=aa m3 1;go_wp2_with fail;refine Ux (v:=.agg #[.slice A1 (bF lo).length c1,.slice A2 (bF li).length c2]) (by simp[results,results53,go_sem,q0,q1]) rfl ?_;have hA:((w.alloc (.cells #[.slice Ao lo.length co,.slice Ai li.length ci] 103)).alloc (.cells #[.slice none 0 0,.slice none 0 0] 103)).drew.heap.size=w.heap.size+2:=by
  show((w.alloc _).alloc _).heap.size=_;rw[Pq,Pq]
 rw[hA]at o12 hz1;have hne:∀{v:Value} {n:Nat} {ys:List Value} {bb:Nat},w2.ownsRow bb 93 9 v n ys→w.heap.size+2≤bb→v.ownBlock≠some (w.heap.size+1):=fun h hb e=>by have:=(h.lt _ e).1;omega
 exact⟨_,_,rfl,aI (Us (Us o12 (a:=⟨w.heap.size+1,0,none⟩) (hne o12 (Po _)) _) (a:=⟨w.heap.size+1,1,none⟩) (hne o12 (Po _)) _) (by omega),
  aI (Us (Us o2 (a:=⟨w.heap.size+1,0,none⟩) (hne o2 hz1) _) (a:=⟨w.heap.size+1,1,none⟩) (hne o2 hz1) _) (by omega),
  (B2.setCell (p:=⟨w.heap.size+1,0,none⟩) (UE _) _).setCell (p:=⟨w.heap.size+1,1,none⟩) (UE _) _⟩
end
section
open AvlP
instance:DecidableEq Sp:=fun a b=>decidable_of_iff (a.tr=b.tr∧a.id=b.id∧a.pa=b.pa∧a.rv=b.rv∧a.sv=b.sv∧a.op=b.op∧a.st=b.st∧a.du=b.du∧a.gn=b.gn) ⟨fun h=>by cases a;cases b;simp_all,fun h=>by subst h;simp⟩
def mq:Option Sp→Option Sp
 |some x=>if x.gn then none else some x
 |none=>none
theorem pt{o:Option Sp}{x:Sp}:mq o=some x↔o=some x∧x.gn=false:=by
 cases o with
 |none=>simp[mq]
 |some y=>
  cases hg:y.gn with
  |false=>
   rw[show mq (some y)=some y by simp[mq,hg]];exact⟨fun h=>⟨h,by rw[←UC h];exact hg⟩,fun h=>h.1⟩
  |true=>
   rw[show mq (some y)=none by simp[mq,hg]];exact⟨fun h=>(by cases h),fun h=>by rw[←UC h.1,hg]at h;cases h.2⟩
def cB(L:List (ByteArray×Sp)):List (ByteArray×Sp):=L.filter fun z=>kT z.2
theorem rQ(x:Sp):kT x=!x.gn:=rfl
theorem gW{L:List (ByteArray×Sp)}(h:aJ L):aJ (cB L):=h.sub U4
theorem jU(L:List (ByteArray×Sp)):(cB L).map (·.2)=bF (L.map (·.2)):=by
 unfold cB bF;rw[List.filter_map];rfl
theorem bC{l:List Sp}{x:Sp}:x∈bF l↔x∈l∧x.gn=false:=by
 unfold bF;rw[Uz,rQ];cases x.gn<;>simp
theorem ie{L:List (ByteArray×Sp)}(h:aJ L)(k:ByteArray):ag oS (cB L) k=mq (ag oS L k):=by
 have hs:=(gW h).srt;cases hg:ag oS L k with
 |none=>
  rw[show mq none=none from rfl,bQ oS hs];intro v hv;exact(bQ oS h.srt).1 hg v (Uz.1 hv).1
 |some x=>
  have hm:=(ax oS h.srt).1 hg;cases hx:x.gn with
  |false=>
   rw[pt.2 ⟨rfl,hx⟩,ax oS hs];exact Uz.2 ⟨hm,by rw[rQ,hx];rfl⟩
  |true=>
   rw[show mq (some x)=none by simp[mq,hx],bQ oS hs];intro v hv;obtain⟨h1,h2⟩:=Uz.1 hv;have:=(ax oS h.srt).2 h1;rw[hg]at this;cases this;rw[rQ,hx]at h2;cases h2
theorem vK{xs:List Sp}(h:cD xs):cD (bF xs):=h.filter _
structure kO(V V':List (ByteArray×Sp))(out inn:List Sp):Prop where
 o:cD out
 i:cD inn
 od:∀x∈out,x.gn=false
 id:∀x∈inn,x.gn=false
 a:∀x∈out,x∉inn
 there:∀x∈out,ag oS V (aj x)=some x
 new:∀x∈inn,ag oS V (aj x)=none∨∃y∈out,aj y=aj x
 v:aJ V
 v':aJ V'
 gi:∀x∈inn,ag oS V' (aj x)=some x
 go:∀x∈out,(∀y∈inn,aj y≠aj x)→ag oS V' (aj x)=none
 gr:∀k,(∀x∈out++inn,aj x≠k)→ag oS V' k=ag oS V k
theorem aJ.mem{L:List (ByteArray×Sp)}(h:aJ L){x:Sp}:x∈L.map (·.2)↔ag oS L (aj x)=some x:=by
 rw[Uu];constructor
 ·rintro⟨z,hz,rfl⟩;rw[ax oS h.srt,←h.key z hz];exact hz
 ·intro hx;exact⟨_,(ax oS h.srt).1 hx,rfl⟩
theorem aJ.nodup{L:List (ByteArray×Sp)}(h:aJ L):(L.map (·.2)).Nodup:=by
 have:=h.setL.ne;exact this.imp fun hne e=>hne (by rw[e])
theorem kF{α:Type}[DecidableEq α]{l m:List α}(hl:l.Nodup)(hm:m.Nodup)(h:∀x,x∈l↔x∈m):l.Perm m:=by
 rw[SH];intro a;rw[hl.count,hm.count];simp only[h a]
section
variable{V V':List (ByteArray×Sp)}{out inn:List Sp}
theorem kO.parts(h:kO V V' out inn):∃R:List Sp,(V.map (·.2)).Perm (out++R)∧(V'.map (·.2)).Perm (inn++R):=by
 refine⟨(V.map (·.2)).filter fun x=>out.all fun y=>decide (y≠x),?_,?_⟩
 ·refine kF h.v.nodup ?_ fun x=>?_
  ·rw[PW];refine⟨h.o.ne.imp fun hne e=>hne (by rw[e]),h.v.nodup.filter _,fun a ha b hb e=>?_⟩;have:=(Uz.1 hb).2;rw[Vc]at this;have:=this a ha;simp[e]at this
  ·rw[Px,Uz];constructor
   ·intro hx;by_cases ho:x∈out
    ·exact .inl ho
    ·exact .inr ⟨hx,by rw[Vc];intro y hy;simp only[ne_eq,decide_not,Wh,V0,UP];exact fun e=>ho (e▸hy)⟩
   ·rintro(hx |hx)
    ·exact h.v.mem.2 (h.there x hx)
    ·exact hx.1
 ·refine kF h.v'.nodup ?_ fun x=>?_
  ·rw[PW];refine⟨h.i.ne.imp fun hne e=>hne (by rw[e]),h.v.nodup.filter _,fun a ha b hb e=>?_⟩;obtain⟨h1,h2⟩:=Uz.1 hb;rw[Vc]at h2;have hb2:=h.v.mem.1 h1;rw[←e]at hb2;rcases h.new a ha with h3 |⟨y,hy,hk⟩
   ·rw[h3]at hb2;cases hb2
   ·have:=h.there y hy;rw[hk,hb2]at this;have:=h2 y hy;simp_all
  ·rw[Px,Uz];have hout:∀y∈out,aj y=aj x→ag oS V (aj x)=some y:=fun y hy e=>by rw[←e];exact h.there y hy
   constructor
   ·intro hx;have hg:=h.v'.mem.1 hx;by_cases hi:x∈inn
    ·exact .inl hi
    right;have h1:∀y∈inn,aj y≠aj x:=fun y hy e=>by
     have:=h.gi y hy;rw[e,hg]at this;exact hi (UC this▸hy)
    have h2:∀y∈out,aj y≠aj x:=fun y hy e=>by
     have:=h.go y hy (fun z hz=>by rw[e];exact h1 z hz);rw[e,hg]at this;cases this
    have h3:=h.gr (aj x) fun y hy=>(Px.1 hy).elim (h2 y) (h1 y);rw[hg]at h3;refine⟨h.v.mem.2 h3.symm,?_⟩;rw[Vc];intro y hy;simp only[ne_eq,decide_not,Wh,V0,UP];exact fun e=>h2 y hy (by rw[e])
   ·rintro(hx |⟨hx,hall⟩)
    ·exact h.v'.mem.2 (h.gi x hx)
    ·rw[Vc]at hall;have hg:=h.v.mem.1 hx;have h2:∀y∈out,aj y≠aj x:=fun y hy e=>by
      have h3:=hout y hy e;rw[hg]at h3;have:=hall y hy;simp[UC h3]at this
     have h1:∀y∈inn,aj y≠aj x:=fun y hy e=>by
      rcases h.new y hy with h3 |⟨z,hz,hk⟩
      ·rw[e,hg]at h3;cases h3
      ·exact h2 z hz (hk.trans e)
     exact h.v'.mem.2 ((h.gr (aj x) fun y hy=>(Px.1 hy).elim (h2 y) (h1 y)).trans hg)
end
theorem F2{L:List (ByteArray×Sp)}(h:aJ L){l:List Sp}(hl:∀x∈l,x.In):kO (cB L) (cB (dn L (nu L l))) (bF (ly L l)) (bF (nu L l)):=by
 have hi:=iL (L:=L) hl;have ho:=xz h hl;have hp:=mQ h hi.vd;have hget:=yl h hl;have hout:∀x∈ly L l,ag oS L (aj x)=some x∧∃y∈nu L l,aj y=aj x:=fun x hx=>by
  obtain⟨y,hy,hg,hn,hk⟩:=rz h hx;exact⟨by rw[hk];exact hg,y,Uz.2 ⟨hy,by rw[hg];exact hn⟩,hk.symm⟩
 have hin:∀x∈nu L l,ag oS L (aj x)=none∨∃y∈ly L l,aj y=aj x:=fun x hx=>by
  obtain⟨h1,h2⟩:=Uz.1 hx;cases hg:ag oS L (aj x)with
  |none=>exact .inl rfl
  |some old=>
   rw[hg]at h2;refine .inr ⟨old,SV.2 ⟨x,h1,by rw[hg];exact Pj h2⟩,(h.get hg).1.symm⟩
 have gi:∀x∈nu L l,ag oS (dn L (nu L l)) (aj x)=some x:=iu h hi;have far:∀k,(∀x∈nu L l,aj x≠k)→ag oS (dn L (nu L l)) k=ag oS L k:=fun k hk=>fj h hi.vd hk;refine⟨vK ho,vK hi,fun x hx=>(bC.1 hx).2,fun x hx=>(bC.1 hx).2,fun x hx hx'=>oq h hl x (bC.1 hx).1 (bC.1 hx').1,fun x hx=>?_,fun x hx=>?_,gW h,gW hp,fun x hx=>?_,fun x hx hn=>?_,fun k hk=>?_⟩
 ·rw[ie h,(hout x (bC.1 hx).1).1];exact pt.2 ⟨rfl,(bC.1 hx).2⟩
 ·rw[ie h];rcases hin x (bC.1 hx).1 with h1 |⟨y,hy,hk⟩
  ·rw[h1];exact .inl rfl
  ·cases hg:y.gn with
   |false=>exact .inr ⟨y,bC.2 ⟨hy,hg⟩,hk⟩
   |true=>
    left;have:=(hout y hy).1;rw[hk]at this;rw[this];simp[mq,hg]
 ·rw[ie hp,gi x (bC.1 hx).1];exact pt.2 ⟨rfl,(bC.1 hx).2⟩
 ·obtain⟨y,hy,hk⟩:=(hout x (bC.1 hx).1).2;rw[ie hp,←hk,gi y hy];cases hg:y.gn with
  |false=>exact absurd hk (hn y (bC.2 ⟨hy,hg⟩))
  |true=>simp[mq,hg]
 ·rw[ie hp,ie h];by_cases hi2:∃x∈nu L l,aj x=k
  ·obtain⟨x,hx,e⟩:=hi2;have hgx:x.gn=true:=by
    cases hg:x.gn with
    |true=>rfl
    |false=>exact absurd e (hk x (Px.2 (.inr (bC.2 ⟨hx,hg⟩))))
   rw[←e,gi x hx,show mq (some x)=none by simp[mq,hgx]];rcases hin x hx with h1 |⟨y,hy,hy2⟩
   ·rw[h1];rfl
   ·have h3:=(hout y hy).1;rw[hy2]at h3;rw[h3];cases hg:y.gn with
    |true=>simp[mq,hg]
    |false=>exact absurd (hy2.trans e) (hk y (Px.2 (.inl (bC.2 ⟨hy,hg⟩))))
  ·rw[far k (fun x hx e=>hi2 ⟨x,hx,e⟩)]
end
section
open AvlP BigP
def iy(a b:List Sp):List Sp:=(aA b).filter (eK (av a))
theorem cm.row0{w:World}{B g:Nat}{l:List Sp}(h:cm w B (some ⟨g,0,none⟩) l){k:Nat}{x:Sp}(hk:l[k]?=some x):
  w.cell? ⟨g,k*9,none⟩=some (.int .i64 x.tr)∧w.cell? ⟨g,k*9+1,none⟩=some (.int .i64 x.id)∧w.cell? ⟨g,k*9+2,none⟩=some (.int .i64 x.pa)∧w.cell? ⟨g,k*9+3,none⟩=some (.int .i64 x.rv)∧w.cell? ⟨g,k*9+4,none⟩=some (.string x.sv)∧w.cell? ⟨g,k*9+5,none⟩=some (.string x.op)∧
   w.cell? ⟨g,k*9+6,none⟩=some (.int .i64 x.st)∧w.cell? ⟨g,k*9+7,none⟩=some (.int .i64 x.du)∧w.cell? ⟨g,k*9+8,none⟩=some (.bool x.gn):=by
 obtain⟨ad,e,_,h0⟩:=h k x hk;cases e;rw[KU]at h0;exact h0
theorem zT{l:List Sp}(hl:∀x∈l,x.In):keyed (aA l)=av l:=xZ (aG hl).key
theorem yi{ys:List Sp}(h:cD ys){d:Nat}{k:ByteArray}(hlow:∀y∈ys.take d,oS.lt (aj y) k=true)(hd:ys.length≤d∨∃y,ys[d]?=some y∧oS.lt k (aj y)=true):ag oS (keyed ys) k=none:=by
 rw[bQ oS h.srt];intro v hv;obtain⟨y,hy,e⟩:=Uu.1 hv;have ek:aj y=k:=congrArg Prod.fst e;obtain⟨i,hi⟩:=Ry.1 hy;rcases Rc i d with hid |hid
 ·have:=hlow y (Pv (i:=i) (by rw[Wg,Pj hid,hi]));rw[ek]at this;exact oS.ne this rfl
 ·rcases hd with hd |⟨z,hz,hlt⟩
  ·have:=(Qh.1 hi).1;omega
  ·rcases Nat.lt_or_eq_of_le hid with hlt' |rfl
   ·have hs:=h.srt;unfold aX keyed at hs;rw[Q9]at hs;obtain⟨h1,e1⟩:=Qh.1 hz;obtain⟨h2,e2⟩:=Qh.1 hi;have:=V4.1 hs d i h1 h2 hlt';rw[e1,e2]at this;have h3:=oS.tr k (aj z) (aj y) hlt this;rw[ek]at h3;exact oS.ne h3 rfl
   ·rw[hz]at hi;cases hi;rw[ek]at hlt;exact oS.ne hlt rfl
def KQ(v:Value):Nat:=match v with | .slice _ n _=>n |_=>0
theorem Hd{ys:List Sp}(h:cD ys){d:Nat}{y:Sp}(hd:ys[d]?=some y):ag oS (keyed ys) (aj y)=some y:=
 (ax oS h.srt).2 (Uu.2 ⟨y,Pv hd,rfl⟩)
theorem vM(Aa Ab:Option Addr)(ca cb:Nat)(a b:List Sp)(ha:∀x∈a,x.In)(hb:∀x∈b,x.In)(hma:a.length≤100000)(hmb:b.length≤100000)(w:World)(hra:cm w w.heap.size Aa a)(hrb:cm w w.heap.size Ab b):
  Calls prog 10 #[.slice Aa a.length ca,.slice Ab b.length cb] w fun e w'=>∃v,e=.returned v∧w'.ownsRow w.heap.size 93 9 v (iy a b).length ((iy a b).flatMap bg)∧Below w.heap.size w w':=by
 obtain⟨i0,hi⟩:=Qm cC;have HI:=zH hi;clear hi;have HSA:=zH (fy Aa ca a ha (by omega) w hra);have HSB:=zH (fun w1 (b1:Below w.heap.size w w1)=>fy Ab cb b hb (by omega) w1 ((hrb.below b1).more b1.size));have hya:=cV ha;have hxb:=cV hb;have hlen:∀{l:List Sp},(∀x∈l,x.In)→(aA l).length≤l.length:=fun hl=>by
  have:=bh hl;unfold aA;rw[Ur];exact this
 have hla:=hlen ha;have hlb:=hlen hb;have HYS:=zH hya;have HXS:=zH hxb;have HMS:=zH (show iy a b=(aA b).filter (eK (keyed (aA a)))by rw[zT ha];rfl);generalize iy a b=ms at HMS⊢;generalize aA a=ys at HSA HYS HMS hla;generalize aA b=xs at HSB HXS HMS hlb;clear hlen hya hxb ha hb hra hrb;go_enter func10,ntmps10;go_wp2_with fail;go_step3;go_wp2_with (first |(go_at_call 26;(with_reducible refine(HSA.out).mono ?_);rintro e w1 ⟨v1,rfl,o1,b1⟩;obtain⟨g,A1,c1,rfl,hg,hc1⟩:∃g A1 c1,v1=.slice A1 ys.length c1∧(0<ys.length→A1=some ⟨g,0,none⟩∧g<w1.heap.size∧cm w1 w1.heap.size (some ⟨g,0,none⟩) ys)∧ys.length≤c1:=(by rcases fq o1 with⟨e,h0⟩ |⟨g,cap,e,h1,h2,h3,h4⟩<;>first |(exact⟨g,_,cap,e,fun _=>⟨rfl,h3,(by obtain⟨A,c,e',hr,_⟩:=bE o1;rw[e]at e';cases e';exact hr)⟩,h1⟩) |(exact⟨0,none,0,(by rw[e,h0]),fun h=>absurd h (by omega),by omega⟩));clear o1 HSA) |(go_at_call 26;(with_reducible refine(HSB.out _ b1).mono ?_);rintro e w2 ⟨v2,rfl,o2,b2⟩;obtain⟨A2,c2,rfl,R2,hc2,_,_⟩:=bE o2;clear o2));go_step3;go_wp2_with (first |(go_at_call 26;(with_reducible refine(HSB.out _ b1).mono ?_);rintro e w2 ⟨v2,rfl,o2,b2⟩;obtain⟨A2,c2,rfl,R2,hc2,_,_⟩:=bE o2;clear o2));have B12:=b1.trans (b2.mono b1.size);have hz2:=b2.size;have hz1:=b1.size;have HGG:=zH hg;clear hg;go_loopw [5,6,16] (fun vo vl i wr=>∃(k d:Nat) (vg:Value) (A':Option Addr) (c':Nat),vg=vo∧.slice A' (ys.length - d) c'=vl∧k≤xs.length∧d≤ys.length∧i=.int .i64 k∧(d<ys.length→A'=some ⟨g,d*9,none⟩)∧ys.length - d≤c'∧(∀y∈ys.take d,∀x∈xs.drop k,oS.lt (aj y) (aj x)=true)∧
  wr.ownsRow w2.heap.size 93 9 vg ((xs.take k).filter (eK (keyed ys))).length (((xs.take k).filter (eK (keyed ys))).flatMap bg)∧Below w2.heap.size w2 wr) (fun _ _ i _=>xs.length - (intOf i).toNat)
 case atStart=>exact⟨0,0,_,A1,c1,rfl,rfl,by omega,by omega,rfl,fun h=>by rw[Nat.zero_mul];exact(HGG.out h).1,by omega,by simp,PS _ _ _ _,Pk _ _⟩
 case round=>
  obtain⟨k,d,vo,A',c',rfl,rfl,hk,hd,rfl,hA',hc',hlow,hrow,hbw⟩:=hrel;obtain⟨wo,rfl⟩:∃wo,wo=wr:=⟨_,rfl⟩;by_cases hlt:k<xs.length
  ·obtain⟨x,hk'⟩:=zg hlt;obtain⟨ad,rfl,hadl,c0,c1,c2,c3,c4,c5,c6,c7,c8⟩:=(R2.below hbw) k x hk';have hx:=HXS.out.vd x (Pv hk');have hi1:(k:Int)< (xs.length:Int):=by omega
   have HFT:=zH (jB hk' (eK (keyed ys)));have hlf:((xs.take k).filter (eK (keyed ys))).length≤100000:=Pt (Qc _ _) (by rw[UD];omega);have hlow2:∀y∈ys.take d,oS.lt (aj y) (aj x)=true:=fun y hy=>hlow y hy x (by
    rw[Ry];exact⟨0,by rw[RS];exact hk'⟩)
   have HRISE:=zH (show ∀z∈xs.drop (k+1),oS.lt (aj x) (aj z)=true from fun z hz=>by
    have hs:=HXS.out.srt;unfold aX keyed at hs;rw[Q9]at hs;obtain⟨j,hj⟩:=Ry.1 hz;rw[RS]at hj;obtain⟨h1,e1⟩:=Qh.1 hk';obtain⟨h2,e2⟩:=Qh.1 hj;have:=V4.1 hs k (k+1+j) h1 h2 (by omega);rw[e1,e2]at this;exact this)
   generalize hlo:(xs.take k).filter (eK (keyed ys))=lo at hrow HFT hlf;clear hlo hlow;have n0:=Up wo (.cells (SA x) 93);have b0:=zB wo (.cells (SA x) 93);have HRW:=zH hrow;have HBW:=zH hbw;have HKX:=zH hk';have HXX:=zH hx;have HLO:=zH hlow2;have hzw:=hbw.size;clear hrow hbw hk' hx hlow2;go_wp2_with fail;generalize wo.alloc (.cells (SA x) 93)=wx at n0 b0⊢;have HN0:=zH n0;have HB0:=zH b0;have hzx:=b0.size;have HEND:=zH (show ∀d,(∀y∈ys.take d,oS.lt (aj y) (aj x)=true)→∀y∈ys.take d,∀z∈xs.drop (k+1),oS.lt (aj y) (aj z)=true from fun d h y hy z hz=>oS.tr _ _ _ (h y hy) (HRISE.out z hz));have HSX:=zH (aL x HXX.out.ok);clear n0 b0;go_loopw [6] (fun vl wi=>∃(d:Nat) (A':Option Addr) (c':Nat),.slice A' (ys.length - d) c'=vl∧d≤ys.length∧(d<ys.length→A'=some ⟨g,d*9,none⟩)∧ys.length - d≤c'∧(∀y∈ys.take d,oS.lt (aj y) (aj x)=true)∧Below wx.heap.size wx wi) (fun vl _=>KQ vl)
   case atStart=>exact⟨d,A',c',rfl,hd,hA',hc',HLO.out,Pk _ _⟩
   case round=>
    obtain⟨wi,rfl⟩:∃wi,wi=wr:=⟨_,rfl⟩;obtain⟨d,A',c',rfl,hd,hA',hc',hlow,hbi⟩:=hrel;have HLW:=zH hlow;have BI:=zH (HB0.out.trans (hbi.mono hzx));have nI:=(hbi.block wo.heap.size (am HN0.out)).trans HN0.out;have hzi:=hbi.size;by_cases hdn:d<ys.length
    ·obtain⟨y,hy⟩:=zg hdn;obtain rfl:=hA' hdn;have hpos:(0:Int)< ((ys.length - d:Nat):Int):=by omega
     have hyv:=HYS.out.vd y (Pv hy);have HSY:=zH (aL y hyv.ok);have HY:=zH hy;have HYV:=zH hyv;have rI:cm wo w1.heap.size (some ⟨g,0,none⟩) ys:=((HGG.out (by omega)).2.2.below b2).below (HBW.out.mono hz2);have HRI:=zH rI;have hrI:=HRI.out.below (show Below w1.heap.size wo wi from BI.out.mono (Pt hz2 hzw));clear hy hyv rI;go_wp2_with fail;refine zr (fun V=>V.heap[wo.heap.size]?=some (.cells (SA x) 93 (0,0))∧cm V w1.heap.size (some ⟨g,0,none⟩) ys) ⟨nI,hrI⟩ fun hS0=>?_;(refine zh hS0 5 3 0 ?_;simp only[zd];((iterate 3 (refine zt (fun W hW=>by obtain⟨hWx,hWr⟩:=hW;have y0:=aa hWx;obtain⟨d0,d1,d2,d3,d4,d5,d6,d7,d8⟩:=hWr.row0 HY.out;exact zq) ?_;simp only[zp]));refine ac ?_));(refine zh hS0 4 1 4 ?_;simp only[zd];((iterate 1 (refine zt (fun W hW=>by obtain⟨hWx,hWr⟩:=hW;have y0:=aa hWx;exact zq) ?_;simp only[zp]));refine ac ?_));(refine zo 3 rfl fun K hK=>?_;go_simp);go_at_call 27;(with_reducible refine(HSY.out _).mono ?_);rintro e3 v3 ⟨rfl,g3⟩;have X3:=hbi.drew.trans (g3.mono hbi.drew.size);have B3:=BI.out.drew.trans (g3.mono BI.out.drew.size);have x3:=af hS0.1 g3;have r3:=hS0.2.below (g3.mono (show w1.heap.size≤wi.drew.heap.size from Pt (Pt hz2 hzw) BI.out.size));go_wp2_with fail;(refine zu hK (Uq x3 r3) ?_;clear hK K;try simp only[zp]);(refine zo 5 rfl fun K hK=>?_;go_simp);go_at_call 27;(with_reducible refine(HSX.out _).mono ?_);rintro e4 v4 ⟨rfl,g4⟩;have X4:=zH (X3.trans (g4.mono X3.size));have B4:=zH (B3.trans (g4.mono B3.size));have x4:=af x3 g4;have r4:=r3.below (g4.mono (Pt (Pt hz2 hzw) B3.size));go_wp2_with fail;(refine zu hK (Uq x4 r4) ?_;clear hK K;try simp only[zp]);(refine zh (Uq x4 r4) 0 2 6 ?_;simp only[zd];((iterate 2 (refine zU ?_;simp only[zp]));refine ac ?_));(refine ze ?_);have HX4:=zH x4;have HR4:=zH r4;clear x3 x4 r3 r4 hS0 g3 g4 B3 X3;rcases hq:Op.bytesLess (kk y.tr y.id).toList (kk x.tr x.id).toList with _ |_
     ·have hnl:oS.lt (aj y) (aj x)=false:=hq;go_wp2_with fail;have w1z:w1.heap.size≤v4.heap.size:=Pt (Pt hz2 hzw) B4.out.size;by_cases hke:kk y.tr y.id=kk x.tr x.id
      ·have hkb:((kk y.tr y.id).toList==(kk x.tr x.id).toList)=true:=by rw[hke];exact beq_self_eq_true _
       have hge:ag oS (keyed ys) (aj x)=some y:=by rw[show aj x=aj y from hke.symm];exact Hd HYS.out HY.out
       have HNW:=mO x y HXX.out.ok HYV.out.ok HXX.out.few HYV.out.few;refine zr (fun V=>V.heap[wo.heap.size]?=some (.cells (SA x) 93 (0,0))∧cm V w1.heap.size (some ⟨g,0,none⟩) ys) ⟨HX4.out,HR4.out⟩ fun hS0=>?_;(refine zh hS0 4 8 0 ?_;simp only[zd];((iterate 8 (refine zt (fun W hW=>by obtain⟨hWx,hWr⟩:=hW;have hkc:=hkb;have y0:=aa hWx;obtain⟨d0,d1,d2,d3,d4,d5,d6,d7,d8⟩:=hWr.row0 HY.out;exact zq) ?_;simp only[zp]));refine ac ?_));(refine zo 8 rfl fun K hK=>?_;go_simp);go_at_call 28;(with_reducible refine(HNW _).mono ?_);rintro e5 v5 ⟨rfl,g5⟩;have B5:=zH (B4.out.drew.trans (g5.mono B4.out.drew.size));have x5:=af hS0.1 g5;have r5:=hS0.2.below (g5.mono (show w1.heap.size≤v4.drew.heap.size from w1z));have HX5:=zH x5;rcases hnw:RankP.eJ (dG x) (dG y)with _ |_
       ·have HPN:=zH (show eK (keyed ys) x=false by unfold eK;rw[hge];exact hnw);go_wp2_with fail;(refine zu hK (Uq x5 r5) ?_;clear hK K;try simp only[zp]);(refine zh (Uq x5 r5) 0 3 9 ?_;simp only[zd];((iterate 3 (refine zU ?_;simp only[zp]));refine ac ?_));(refine ze ?_);clear x5 r5 hS0 g5 HNW;go_wp2_with fail;have rw5:=au HRW.out B5.out;refine⟨⟨k+1,d,vo,_,c',rfl,rfl,by omega,hd,by go_num,fun _=>rfl,hc',HEND.out d HLW.out,?_,HBW.out.trans (B5.out.mono HBW.out.size)⟩,by simp[intOf];omega⟩;rw[HFT.out,HPN.out];simpa using rw5
       ·have HPN:=zH (show eK (keyed ys) x=true by unfold eK;rw[hge];exact hnw);go_wp2_with fail;(refine zu hK (Uq x5 r5) ?_;clear hK K;try simp only[zp]);(refine zh (Uq x5 r5) 0 3 9 ?_;simp only[zd];((iterate 3 (refine zU ?_;simp only[zp]));refine ac ?_));(refine ze ?_);clear x5 r5 hS0 g5 HNW;have x5:=HX5.out;have p0:=aa x5;have hz5:w2.heap.size≤v5.heap.size:=Pt hzw B5.out.size;go_wp2_with (at_builtin;refine aM rfl _ _ 22 rfl w2.heap.size 93 i0 (.agg SZ) 9 88 UF HI.out.1 HI.out.2.1 HI.out.2.2.1 HI.out.2.2.2 rfl (by decide) (vo) _ _ rfl ((au HRW.out B5.out).alloc _) ⟨(v5).heap.size,0,none⟩ 1 1 (bg x) rfl rfl (bj v5 _ _ ((v5).heap.size) (by simp)) (by simp[bg,Value.oneCell']) (by unfold maxLen;omega) (by omega) (by simp;omega) ?_;intro v8 w8 o8 g8 d8;obtain⟨gq,cq,rfl⟩:=Qv o8);have B8:Below w2.heap.size w2 w8:=(ae (.cells (bg x).toArray 93) (HBW.out.trans (B5.out.mono HBW.out.size))).grown g8 (by rw[Pq];have:=B5.out.size;omega) (fun q e=>(HRW.out.lt q e).1);exact Oo
      ·have hkb:((kk y.tr y.id).toList==(kk x.tr x.id).toList)=false:=eh hke;have HPN:=zH (show eK (keyed ys) x=true by
        unfold eK;rw[yi HYS.out HLW.out (.inr ⟨y,HY.out,by
         cases h:oS.lt (aj x) (aj y)with
         |true=>rfl
         |false=>exact absurd (oS.tri _ _ hnl h) hke⟩)])
       go_quiet (fail);have x6:(v4.drewN nq).heap[wo.heap.size]?=_:=HX4.out;have B6:=zH (ig B4.out nq);have p0:=aa x6;have hz6:w2.heap.size≤v4.heap.size:=Pt hzw B4.out.size;go_wp2_with (at_builtin;refine aM rfl _ _ 22 rfl w2.heap.size 93 i0 (.agg SZ) 9 88 UF HI.out.1 HI.out.2.1 HI.out.2.2.1 HI.out.2.2.2 rfl (by decide) (vo) _ _ rfl ((au HRW.out B6.out).alloc _) ⟨((v4.drewN nq)).heap.size,0,none⟩ 1 1 (bg x) rfl rfl (bj (v4.drewN nq) _ _ (((v4.drewN nq)).heap.size) (by simp)) (by simp[bg,Value.oneCell']) (by unfold maxLen;omega) (by omega) (by simp;omega) ?_;intro v8 w8 o8 g8 d8;obtain⟨gq,cq,rfl⟩:=Qv o8);have B8:Below w2.heap.size w2 w8:=(ae (.cells (bg x).toArray 93) (HBW.out.trans (B6.out.mono HBW.out.size))).grown g8 (by rw[Pq];have:=B6.out.size;omega) (fun q e=>(HRW.out.lt q e).1);exact Oo
     ·go_wp2_with fail;refine⟨⟨d+1,_,c' - 1,by rw[Nat.sub_sub],by omega,fun h=>?_,by omega,fun z hz=>?_,X4.out⟩,by unfold KQ;simp only;omega⟩
      ·rw[Pm (by omega),show(d+1)*9=d*9+9 by omega]
      ·rw[PO,HY.out]at hz;rcases Px.1 hz with hz |hz
       ·exact HLW.out z hz
       ·simp at hz;rw[hz];exact hq
    ·have HPN:=zH (show eK (keyed ys) x=true by
      unfold eK;rw[yi HYS.out hlow (.inl (by omega))])
     have hd0:ys.length - d=0:=by omega
     have p0:=aa nI;go_wp2_with (at_builtin;refine aM rfl _ _ 22 rfl w2.heap.size 93 i0 (.agg SZ) 9 88 UF HI.out.1 HI.out.2.1 HI.out.2.2.1 HI.out.2.2.2 rfl (by decide) (vo) _ _ rfl ((au HRW.out BI.out).alloc _) ⟨(wi).heap.size,0,none⟩ 1 1 (bg x) rfl rfl (bj wi _ _ ((wi).heap.size) (by simp)) (by simp[bg,Value.oneCell']) (by unfold maxLen;omega) (by omega) (by simp;omega) ?_;intro v8 w8 o8 g8 d8;obtain⟨gq,cq,rfl⟩:=Qv o8);have B8:Below w2.heap.size w2 w8:=(ae (.cells (bg x).toArray 93) (HBW.out.trans (BI.out.mono HBW.out.size))).grown g8 (by rw[Pq];have:=BI.out.size;omega) (fun q e=>(HRW.out.lt q e).1);refine⟨⟨k+1,d,_,A',c',rfl,by rw[hd0],by omega,hd,by go_num,hA',hc',HEND.out d HLW.out,?_,B8⟩,by simp[intOf];omega⟩;rw[HFT.out,HPN.out];exact iY o8
  ·obtain rfl:k=xs.length:=by omega
   go_wp2_with fail
   try rw[Vp]
   obtain⟨Av,cv,rfl⟩:=an hrow;refine Ux (v:=.slice Av _ cv) (by simp[results,results10,go_sem];rfl) rfl ?_;rw[PM]at hrow;rw[HMS.out];exact⟨_,rfl,aI hrow (Pt hz1 hz2),B12.trans (hbw.mono B12.size)⟩
end
section
open AvlP
section
variable{L:List (ByteArray×Sp)}{a b l r:List Sp}{k:ByteArray}
theorem Iq{xs:List Sp}(h:cD xs)(k:ByteArray):lI xs k=ag oS (keyed xs) k:=by
 have:=zc h k
 rwa [rO]at this
theorem wm{xs:List Sp}(h:cD xs){k:ByteArray}{x:Sp}:lI xs k=some x↔x∈xs∧k=aj x:=by
 rw[Iq h,ax oS h.srt];unfold keyed;rw[Uu];constructor
 ·rintro⟨y,hy,e⟩;cases e;exact⟨hy,rfl⟩
 ·rintro⟨hx,rfl⟩;exact⟨x,hx,rfl⟩
theorem qG{xs:List Sp}(h:cD xs){k:ByteArray}(hk:∀x∈xs,aj x≠k):lI xs k=none:=by
 cases e:lI xs k with
 |none=>rfl
 |some x=>
  obtain⟨hx,rfl⟩:=(wm h).1 e;exact absurd rfl (hk x hx)
theorem vJ(hl:∀x∈l,x.In)(k:ByteArray):oY (ag oS L k) (lI (nu L l) k)=oY (ag oS L k) (lI l k):=by
 have hs:=cV hl;have hi:=iL (L:=L) hl;cases hb:lI l k with
 |none=>
  rw[qG hi fun x hx e=>?_];have:=(gV hl).1 (Uz.1 hx).1;rw[e,hb]at this;cases this
 |some x=>
  have hk:=wn hl hb;subst hk;have hx:=(gV hl).2 hb;cases hp:eK L x with
  |true=>rw[(wm hi).2 ⟨Uz.2 ⟨hx,hp⟩,rfl⟩]
  |false=>
   rw[qG hi fun y hy e=>?_]
   ·unfold eK at hp;cases hg:ag oS L (aj x)with
    |none=>rw[hg]at hp;cases hp
    |some old=>
     rw[hg]at hp;rw[ji,kH hp]
   ·obtain⟨y1,y2⟩:=Uz.1 hy;have:=hs.same y1 hx e;subst this;change eK L y=true at y2;rw[hp]at y2;cases y2
theorem Ag(hl:∀x∈l,x.In)(hr:∀x∈r,x.In):dn (av l) (nu (av l) r)=av (l++r):=by
 have h:=aG hl;have hlr:∀x∈l++r,x.In:=fun x hx=>(Px.1 hx).elim (hl x) (hr x);refine ky oS (mQ h (iL hr).vd).srt (aG hlr).srt fun k=>?_;rw[yl h hr,bz hl,bz hlr,fR]
theorem jS(ha:∀x∈a,x.In)(hb:∀x∈b,x.In):iy (aA a) (aA b)=nu (av a) b:=by
 unfold iy;rw[show av (aA a)=av a from iK (aG ha),show aA (aA b)=aA b from tH (aG hb),vQ]
theorem rX(hl:∀x∈l,x.In):∀x∈nu L l,x.In:=fun x hx=>((iL hl).vd x hx).in
theorem fS(ha:∀x∈a,x.In)(hb:∀x∈b,x.In):∀x∈a++b,x.In:=fun x hx=>(Px.1 hx).elim (ha x) (hb x)
theorem kG(ha:∀x∈a,x.In)(hb:∀x∈b,x.In)(h:∀k,lI a k=lI b k):av a=av b:=
 ky oS (aG ha).srt (aG hb).srt fun k=>by rw[bz ha,bz hb,h]
theorem rY(ha:∀x∈a,x.In)(hb:∀x∈b,x.In):av (a++iy (aA a) (aA b))=av (a++b):=by
 rw[jS ha hb];refine kG (fS ha (rX hb)) (fS ha hb) fun k=>?_;rw[fR,fR];have:=vJ (L:=av a) hb k
 rwa [bz ha]at this
theorem AV(ha:∀x∈a,x.In)(hb:∀x∈b,x.In):av (b++iy (aA b) (aA a))=av (a++b):=by
 rw[rY hb ha];refine kG (fS hb ha) (fS ha hb) fun k=>?_;rw[fR,fR];exact xR (wl hb k) (wl ha k)
theorem DY(ha:∀x∈a,x.In):iy (aA a) (aA a)=[]:=by
 rw[jS ha ha,vQ,List.filter_eq_nil_iff];intro x hx;have hb:=(gV ha).1 hx;unfold eK;rw[bz ha,hb];simp only[xF];decide
theorem vS(ha:∀x∈a,x.In)(hb:∀x∈b,x.In):av ((a++iy (aA a) (aA b))++iy (aA b) (aA a))=av (a++b):=by
 rw[jS ha hb,jS hb ha];refine kG (fS (fS ha (rX hb)) (rX ha)) (fS ha hb) fun k=>?_;rw[fR,fR,fR];have h1:=vJ (L:=av a) hb k;have h2:=vJ (L:=av b) ha k;rw[bz ha]at h1;rw[bz hb]at h2;rw[h1,xR (wl ha k) (wl hb k),←h2,ua,Gq]
end
def eV(x:Sp):Sp:={x with gn:=true,rv:=1000}
section
variable{l late:List Sp}{x y:Sp}{k:ByteArray}
theorem uq(x:Sp):aj (eV x)=aj x:=rfl
theorem G9(h:x.Vd):(eV x).Vd:=by
 obtain⟨h1,h2,h3,h4⟩:=h;refine⟨?_,h2,?_,?_⟩
 ·unfold Sp.Ok at*;exact⟨h1.1,h1.2.1,h1.2.2.1,by show aB 1000;unfold aB;omega,h1.2.2.2.2.1,h1.2.2.2.2.2⟩
 ·unfold CodeP.jh at*;unfold eV dG at*;simp only[UU,P7]at*;simp_all
 ·have h5:x.kept.du=x.du:=by rw[h4]
  unfold Sp.kept at h5⊢;unfold eV;simp only at h5⊢;rw[h5]
theorem yg(h:x.rv<1000):mG (eV x) x=true:=by
 have e:RankP.jd (dG (eV x)) (dG x)=1:=by
  unfold RankP.jd;rw[Pm (show ¬(dG (eV x)).rv< (dG x).rv by show ¬(1000:Int)<x.rv;omega),Pj (show(dG x).rv< (dG (eV x)).rv by show x.rv< (1000:Int);omega)]
 unfold mG RankP.eJ;rw[e];decide
theorem Ex(h:y.rv<1000):mG y (eV x)=false:=by
 have e:RankP.jd (dG y) (dG (eV x))= -1:=by
  unfold RankP.jd;rw[Pj (show(dG y).rv< (dG (eV x)).rv by show y.rv< (1000:Int);omega)]
 unfold mG RankP.eJ;rw[e];decide
theorem Is(l:List Sp)(k:ByteArray):∀(b:Option Sp) {x:Sp},l.foldl (fun b x=>if aj x=k then oY b (some x.kept)else b) b=some x→b=some x∨∃y∈l,x=y.kept:=by
 induction l with
 |nil=>exact fun b x h=>.inl h
 |cons z r ih=>
  intro b x h;rw[UK]at h;rcases ih _ h with e |⟨y,hy,e⟩
  ·split at e
   ·cases b with
    |none=>exact .inr ⟨z,UI ..,(UC e).symm⟩
    |some o=>
     cases hn:mG z.kept o with
     |true=>rw[jy hn]at e;exact .inr ⟨z,UI ..,(UC e).symm⟩
     |false=>rw[kH hn]at e;exact .inl e
   ·exact .inl e
  ·exact .inr ⟨y,Qf _ hy,e⟩
theorem Ir(hl:∀x∈l,x.rv<1000)(h:lI l k=some x):x.rv<1000:=by
 rcases Is l k none h with e |⟨y,hy,rfl⟩
 ·cases e
 ·exact hl y hy
def gZ(l:List Sp):List Sp:=(bF (aA l)).map eV
theorem ur(hl:∀x∈l,x.In):cD (gZ l):=by
 have h:=vK (cV hl);have e:keyed (gZ l)=(keyed (bF (aA l))).map fun z=>(z.1,eV z.2):=by
  unfold keyed gZ;rw[UQ,UQ];rfl
 unfold cD;rw[e];refine⟨h.srt.map _ fun a b hab=>hab,fun z hz=>?_,fun z hz=>?_⟩
 ·obtain⟨y,hy,rfl⟩:=Uu.1 hz;exact h.key y hy
 ·obtain⟨y,hy,rfl⟩:=Uu.1 hz;exact G9 (aJ.vd h y hy)
theorem rZ(hl:∀x∈l,x.In):∀x∈gZ l,x.In:=fun x hx=>((ur hl).vd x hx).in
theorem yf(hl:∀x∈l,x.In)(hr:∀x∈l,x.rv<1000)(k:ByteArray):(lI l k=none∧lI (l++gZ l) k=none)∨(∃x,lI l k=some x∧x.gn=true∧lI (l++gZ l) k=some x)∨∃x,lI l k=some x∧x∈bF (aA l)∧lI (l++gZ l) k=some (eV x):=by
 have hg:=ur hl;have far:∀y∈gZ l,aj y=k→∃x,lI l k=some x∧x.gn=false:=fun y hy e=>by
  obtain⟨x,hx,rfl⟩:=Uu.1 hy;obtain⟨h1,h2⟩:=bC.1 hx;have:=(gV hl).1 h1;rw[uq]at e;rw[e]at this;exact⟨x,this,h2⟩
 rw[fR];cases hb:lI l k with
 |none=>
  refine .inl ⟨rfl,?_⟩;rw[qG hg fun y hy e=>?_]
  ·rfl
  ·obtain⟨x,h1,_⟩:=far y hy e;rw[hb]at h1;cases h1
 |some x=>
  cases hgn:x.gn with
  |true=>
   refine .inr (.inl ⟨x,rfl,hgn,?_⟩);rw[qG hg fun y hy e=>?_,ji];obtain⟨z,h1,h2⟩:=far y hy e;rw[hb]at h1;cases h1;rw[hgn]at h2;cases h2
  |false=>
   have hk:=wn hl hb;subst hk;have hx:x∈bF (aA l):=bC.2 ⟨(gV hl).2 hb,hgn⟩;refine .inr (.inr ⟨x,rfl,hx,?_⟩);rw[show lI (gZ l) (aj x)=some (eV x)from(wm hg).2 ⟨Uu.2 ⟨x,hx,rfl⟩,rfl⟩,jy (yg (Ir hr hb))]
theorem AA{V:Type}{M:List (ByteArray×V)}(hs:aX oS M)(h:∀k,ag oS M k=none):M=[]:=ky oS hs (fH oS) h
theorem Ev(hl:∀x∈l,x.In)(hr:∀x∈l,x.rv<1000):cB (av (l++gZ l))=[]:=by
 have hi:=fS hl (rZ hl);refine AA (gW (aG hi)).srt fun k=>?_;rw[ie (aG hi),bz hi];rcases yf hl hr k with⟨_,e⟩ |⟨x,_,hg,e⟩ |⟨x,_,_,e⟩
 ·rw[e];rfl
 ·rw[e];simp[mq,hg]
 ·rw[e];rfl
theorem Ew(hl:∀x∈l,x.In)(hr:∀x∈l,x.rv<1000)(ht:∀x∈late,x.In)(htr:∀x∈late,x.rv<1000){x:Sp}(hx:x∈gZ l):ag oS (cB (av ((l++gZ l)++late))) (aj x)=none:=by
 have hi:=fS (fS hl (rZ hl)) ht;obtain⟨y,hy,rfl⟩:=Uu.1 hx;have hby:=(gV hl).1 (bC.1 hy).1;rw[ie (aG hi),bz hi,fR,uq];rcases yf hl hr (aj y)with⟨e,_⟩ |⟨z,e,hg,_⟩ |⟨z,e,_,e2⟩
 ·rw[hby]at e;cases e
 ·rw[hby]at e;cases e;rw[(bC.1 hy).2]at hg;cases hg
 ·rw[hby]at e;cases e;rw[e2];cases hb:lI late (aj y)with
  |none=>rw[ji];rfl
  |some u=>rw[kH (Ex (Ir htr hb))];rfl
end
end
section
open Go.Shelf AvlP BigP
attribute [local go_sem] QA
theorem uj:(prog.info? 3).map (fun i=>(i.zero,i.size,i.bytes))=some (some (.int .i64 0),1,8):=by kernel_rfl
theorem AR{A B C:World}{r r':Option Nat}(h:A.grownBy B r)(k:B.grownBy C r')(hr:∀b,r'=some b→r=some b∨A.heap.size≤b):A.grownBy C r:=
 ⟨k.os.trans h.os,k.tape.trans h.tape,k.output.trans h.output,Pt h.size k.size,fun b hb hn=>(k.block b (Ut hb h.size) fun e=>(hr b e.symm).elim (fun e'=>hn e'.symm) fun h'=>by omega).trans (h.block b hb hn)⟩
theorem G8{A B C:World}{r:Option Nat}(h:A.grownBy B r)(k:Below A.heap.size B C):A.grownBy C r:=
 ⟨k.os.trans h.os,k.tape.trans h.tape,k.output.trans h.output,Pt h.size k.size,fun b hb hn=>(k.block b hb).trans (h.block b hb hn)⟩
theorem BB{α:Type}(f:α→Int)(gf:Nat)(lb:Array Value)(F:Nat→Prop)(S Sp:List α→Prop)(N:Nat)(hN:N≤700000)(w:World)(hseq:BH 8 prog gf lb (fun z=>#[.int .i64 (f z)]) F KT S Sp N w)(eg:∀args w,(callFunc gf args).run prog w=.ok (.enter gf args) w)
  (hF:∀b,F b→b<w.heap.size)(base:Nat)(hbase:base≤w.heap.size)(v:Value)(xs:List Value)(hv:gJ w base 3 v xs)(hl:xs.length≤70000000)(hfar:∀b,v.ownBlock=some b→¬F b):
  Calls prog 254 #[v,.func (.func gf) #[] lb] w fun e w'=>∃v' ys,e=.returned v'∧S ys∧gJ w' base 3 v' (xs++ys.map fun z=>.int .i64 (f z))∧w.grownBy w' v.ownBlock∧∀b,v'.ownBlock=some b→v.ownBlock=some b∨w.heap.size≤b:=by
 refine(PE (n:=9)).1 ?_;refine QR func254 rfl trivial ?_ rfl;simp only[ntmps254,UH,PC,Qe,Nat.reduceAdd,Nat.reduceSub,QH,QI,QJ,QK,PQ,PN];obtain⟨i0,hi,hz0,hz1,hz2⟩:=Qm uj;obtain⟨A,c,rfl,hc⟩:=hv.slice;gi_wp2;have b0:=zB w (.cells #[.slice A xs.length c] 176);have n0:Boxed (w.alloc (.cells #[.slice A xs.length c] 176)) w.heap.size 176 (.slice A xs.length c):=Up w (.cells #[.slice A xs.length c] 176);have s0:=Pq w (.cells #[.slice A xs.length c] 176);have hv0:=hv.below b0;generalize w.alloc (.cells #[.slice A xs.length c] 176)=W0 at b0 n0 s0 hv0⊢;have g0:w.grownBy W0 (Value.slice A xs.length c).ownBlock:=⟨b0.os,b0.tape,b0.output,b0.size,fun b hb _=>b0.block b hb⟩;refine pq (by omega) (gf:=gf) (lb:=lb) rfl eg hseq (fun b hb=>by have:=hF b hb;omega) b0 (fun _=>rfl)
  (fun pre W=>∃u,Boxed W w.heap.size 176 u∧gJ W base 3 u (xs++pre.map fun z=>.int .i64 (f z))∧w.grownBy W (Value.slice A xs.length c).ownBlock∧(∀b,u.ownBlock=some b→(Value.slice A xs.length c).ownBlock=some b∨w.heap.size≤b)) (fun _ _ _=>False) ?hI ?hIx ⟨_,n0,by simpa using hv0,g0,fun b hb=>.inl hb⟩
  (fun z=>{tmps:=#[.slice A xs.length c,.func (.func gf) #[] lb,.pointer (some ⟨w.heap.size,0,none⟩),undef,.slice none 0 0,.int .i64 (f z),.func (.func gf) #[] lb,.int .i64 (f z),undef,undef,undef,undef,undef],defers:=[]}) ?assign ?body ?done ?stop
 case assign=>
  intro l z W K hK;gi_wp2;exact hK
 case hIx=>exact fun _=>fun _ _ _ _ hs _ _=>hs
 case stop=>
  exact NT
 case hI=>
  rintro pre X X' row ⟨u,i1,i2,i3,i4⟩ hg hr;refine⟨u,aW i1 hg hr,i2.kept fun b hb=>?_,AR i3 hg fun b e=>.inr (by have:=(hr b e).1;omega),i4⟩;obtain⟨_,h2,cur,h3⟩:=i2.lt hb;refine hg.block b h2 fun e=>?_;obtain⟨_,o,ho,hc⟩:=hr b e.symm;rw[h3]at ho;cases ho;simp[Obj.isCells]at hc
 case body=>
  rintro l pre z X ⟨u,i1,i2,i3,i4⟩ hlen;have hpl:pre.length<700000:=by omega
  have hxl:(xs++pre.map fun z=>Value.int .i64 (f z)).length≤70700000:=by rw[Pu,Ur];omega
  have c0:=i1.cell;have n1:=Up X (.cells #[.int .i64 (f z)] 3);have b1:=zB X (.cells #[.int .i64 (f z)] 3);have i2':=i2.below b1;have i1':=i1.alloc (.cells #[.int .i64 (f z)] 3);have hXs:=i3.size;gi_wp2_with (gi_at_builtin;go_loud (refine mj rfl _ _ 176 rfl base 3 i0 (.int .i64 0) 8 V5 hi hz0 hz1 hz2 rfl u _ rfl i2' ⟨X.heap.size,0,none⟩ (.int .i64 (f z)) rfl (aa n1 0) rfl (by unfold maxLen;omega) (by omega) (by rw[Pq];omega) ?_;intro v' w1 hw hg hd;obtain⟨A',cc,rfl,_⟩:=hw.slice;have hbx:Boxed w1 w.heap.size 176 u:=Boxed.kept i1' hg (fun e=>by obtain⟨_,_,cur,h3⟩:=i2'.lt e.symm;have i9:=i1';unfold Boxed at i9;rw[h3]at i9;cases i9);have hc1:=hbx.cell;have hf1:=hbx.frozen));have G0:X.grownBy (X.alloc (.cells #[.int .i64 (f z)] 3)) u.ownBlock:=⟨b1.os,b1.tape,b1.output,b1.size,fun b hb _=>b1.block b hb⟩;have G:=AR G0 hg fun b e=>.inl e;have hown:∀b,u.ownBlock=some b→b≠w.heap.size:=fun b hb e=>by
   obtain⟨_,_,cur,h3⟩:=i2.lt hb;rw[e,show X.heap[w.heap.size]?=_ from i1]at h3;cases h3
  have hcb:=i1;unfold Boxed at hcb;have key:∀b,b<X.heap.size→u.ownBlock≠some b→b≠w.heap.size→(w1.setCell ⟨w.heap.size,0,none⟩ (.slice A' (xs.length+(pre.length+1)) cc)).heap[b]?=X.heap[b]?:=fun b h1 h2 h3=>(QF _ _ _ _ h3).trans (G.block b h1 (fun e=>h2 e.symm));have hoth:∀b o,X.heap[b]?=some o→o.isCells=false→u.ownBlock≠some b∧b≠w.heap.size:=fun b o hb ho=>⟨fun e=>by
   obtain⟨_,_,cur,h3⟩:=i2.lt e;rw[hb]at h3;cases h3;simp[Obj.isCells]at ho,fun e=>by
   rw[e,hcb]at hb;cases hb;simp[Obj.isCells]at ho⟩
  refine⟨⟨by rw[PK];exact G.size,fun b o _ hb ho=>(key b (am hb) (hoth b o hb ho).1 (hoth b o hb ho).2).trans hb⟩,⟨fun b hb=>key b (by have:=hF b hb;omega) (fun e=>(i4 b e).elim (fun e'=>hfar b e' hb) fun h=>by have:=hF b hb;omega) (by have:=hF b hb;omega),fun b cs ty fr ht _ hb=>(key b (am hb) (fun e=>?_) (fun e=>?_)).trans hb⟩,_,hbx.set _,?_,G8 (AR i3 G i4) ((Pk _ w1).setCell (p:=⟨w.heap.size,0,none⟩) (Po _) _),fun b hb=>?_⟩
  ·obtain⟨_,_,cur,h3⟩:=i2.lt e;rw[hb]at h3;cases h3
   revert ht
   unfold KT;decide
  ·rw[e,hcb]at hb;cases hb
   revert ht
   unfold KT;decide
  ·rw[PU,←Qg];have hwl:(xs++pre.map (fun z=>Value.int .i64 (f z))++[Value.int .i64 (f z)]).length=xs.length+(pre.length+1):=by simp
   rw[show xs++pre.map (fun z=>Value.int .i64 (f z))++[z].map (fun z=>Value.int .i64 (f z))=xs++pre.map (fun z=>Value.int .i64 (f z))++[Value.int .i64 (f z)]from rfl];rw[←hwl];exact hw.kept fun b hb=>QF _ _ _ _ ((hd b hb).elim (fun e=>hown b e) fun h=>by rw[Pq]at h;have h9:b≠w.heap.size:=(by omega);exact h9)
  ·have hb':(Value.slice A' (xs++pre.map (fun z=>Value.int .i64 (f z))++[Value.int .i64 (f z)]).length cc).ownBlock=some b:=by cases A'<;>exact hb
   rcases hd b hb' with e |e
   ·exact i4 b e
   ·rw[Pq]at e;exact .inr (by omega)
 case done=>
  rintro D zs X hD hS ⟨u,i1,i2,i3,i4⟩ hK;have c0:=i1.cell;gi_wp2;refine⟨by simp,.inl ⟨_,_,rfl,UW hK,?_⟩⟩;refine⟨_,VJ rfl _ _ _,?_⟩;refine⟨_,zs,rfl,hS,i2.kept fun b hb=>QP fun e=>?_,G8 i3 (belowK_b (w:=w) (Po _) X D _ _ (by omega) hK rfl rfl),i4⟩;obtain⟨_,_,cur,h3⟩:=i2.lt hb;rw[e,hK]at h3;cases h3
end
