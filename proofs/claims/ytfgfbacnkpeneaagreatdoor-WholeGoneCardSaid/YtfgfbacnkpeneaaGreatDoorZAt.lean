/- For WholeGone: contracts of functions and plain laws. -/
import Derived.Test.YtfgfbacnkpeneaaGreatDoorZAn
import Derived.Test.YtfgfbacnkpeneaaGreatDoorZAl
import Derived.Lib.SlicesS
set_option maxRecDepth 100000
set_option maxHeartbeats 4000000
set_option linter.unusedVariables false
set_option linter.unusedSimpArgs false
namespace Go.Proofs.YtfgfbacnkpeneaaGreatDoor
open Go.Proofs.Tryz Go.ChangeShapes Go.WideShapes Go.ChangeAt Go.RowKit Go.Deep
abbrev UF:=@Go.Proofs.Tryz.underlying22
abbrev QC:=@ByteArray.size_append
abbrev U7:=@Go.Proofs.Tryz.underlying3
abbrev Vc:=@List.all_eq_true
abbrev Vu:=@List.getD_eq_getElem?_getD
abbrev TU:=@Array.toList_append
theorem sh{P:Prop}(h:P:=by
 go_enter func112,ntmps112;go_wp2_with (first
  |(go_at_call 190;with_reducible refine(HS.out _).mono ?_;rintro e w1 ⟨rfl,hb1⟩;have bx:=dq hb1)
  |(go_at_call 190;with_reducible refine(HO.out _).mono ?_;rintro e w2 ⟨rfl,hb2⟩;have b6:=aR (show w1.cell? ⟨w.heap.size,6,none⟩=some (.int .i64 st)by simpa using bx 6) hb2))
 go_ret;exact⟨rfl,zb⟩):P:=h
theorem AI{P:Prop}(h:P:=by
 go_enter func21,ntmps21;go_wp2_with (first
  |(go_at_call 47;with_reducible refine(HS.out _).mono ?_;rintro e w1 ⟨rfl,hb1⟩;have bx:=dq hb1)
  |(go_at_call 47;with_reducible refine(HO.out _).mono ?_;rintro e w2 ⟨rfl,hb2⟩;have b6:=aR (show w1.cell? ⟨w.heap.size,6,none⟩=some (.int .i64 st)by simpa using bx 6) hb2))
 go_ret;exact⟨rfl,zb⟩):P:=h
theorem WA{P:Prop}(h:P:=by
 go_wp2_with fail;go_ret;exact⟨rfl,hb⟩):P:=h
theorem N5{P:Prop}(h:P:=by
 go_wp2_with (first
  |(go_at_call 315;with_reducible refine(HP.out _).mono ?_;rintro e w1 ⟨rfl,hb1⟩)
  |(go_at_call 314;with_reducible refine(HW.out _ hb1).mono ?_;rintro e w2 ⟨rfl,h2⟩))
 go_end0;exact gI.after hlt hb1 ⟨rfl,h2⟩):P:=h
theorem Ol{P:Prop}(h:P:=by
 clear hW h;go_enter func269,ntmps269;go_wp2_with (go_at_call 314;with_reducible refine(HW.out).mono ?_;rintro e w2 ⟨rfl,h2⟩);go_end0;exact⟨rfl,h2⟩):P:=h
theorem On{P:Prop}(h:P:=by
 go_enter func62,ntmps62;go_wp2_with (go_at_call 115;(with_reducible refine(HCM.out _).mono ?_);rintro e w1 ⟨rfl,rfl⟩);go_ret;exact⟨rfl,zb⟩):P:=h
theorem Oy{P:Prop}(h:P:=by
 go_enter func115,ntmps115;go_wp2;go_ret;exact⟨rfl,rfl⟩):P:=h
theorem OY{P:Prop}(h:P:=by
 exact⟨⟨k+1,by omega,by go_num,by simp,HPk.out (by omega) (by omega)⟩,by simp[intOf];omega⟩):P:=h
section
theorem ye{w w':World}(hb:Below w.heap.size w w')(row:Option Nat):w.grownBy w' row:=⟨hb.os,hb.tape,hb.output,hb.size,fun k hk _=>hb.block k hk⟩
theorem vE{e:TypeId}{bo:Option Nat}{w w':World}(hb:Below w.heap.size w w'):Lib.OthersKept e bo w w':=fun k _ hk _ _=>(hb.block k (Rj.1 hk).1).trans hk
theorem Wr.below{b:Nat}{l:List UInt8}{w w':World}(h:Wr b l w)(hb:Below w.heap.size w w'):Wr b l w':=by
 have hk:∀p,Lib.BuilderAtF 311 5 b b p (Lib.byteCells l) w→Lib.BuilderAtF 311 5 b b p (Lib.byteCells l) w':=fun p hp=>by
  have hlt:=hp.lt;obtain⟨hB,v,hbk,hown,hne⟩:=hp;exact⟨hB,v,(hb.block b hlt).trans hbk,hown.kept (ye hb none) (Classical.em _),hne⟩
 rcases h with h |h
 ·exact .inl (hk _ h)
 ·exact .inr (hk _ h)
theorem Wr.lt{b:Nat}{l:List UInt8}{w:World}(h:Wr b l w):b<w.heap.size:=by
 rcases h with h |h
 ·exact h.lt
 ·exact h.lt
theorem gI.after{b:Nat}{l:List UInt8}{v:Value}{w a w':World}{e:Ending}(hlt:b<w.heap.size)(hb:Below w.heap.size w a)(h:gI b l v a e w'):gI b l v w e w':=
 ⟨h.1,h.2.1,(hb.mono (Rw hlt)).trans h.2.2.1,(vE hb).trans h.2.2.2⟩
theorem oo(b:Nat)(l:List UInt8)(n:Int)(hn:aB n)(w:World)(h:Wr b l w)(hlen:l.length≤100000000):
  Calls prog 266 #[.pointer (some ⟨b,0,none⟩),.int .i64 n] w (gI b (l++VariP.cI n) (.tuple #[]) w):=by
 have hp:=wU n hn;have hsz:(oh n).size≤10:=tN n;have HW:=zH (fun w1 (hb:Below w.heap.size w w1)=>(om b l (oh n) w1 (h.below hb) (by omega)));have hlt:=h.lt;have hl:(oh n).data.toList=VariP.cI n:=rfl;rw[hl]at HW;generalize oh n=P at hp HW;have HP:=zH hp;clear hp h hsz hl;go_enter func266,ntmps266;exact N5
theorem pS(b:Nat)(l:List UInt8)(n:Int)(hn:aB n)(w:World)(h:Wr b l w)(hlen:l.length≤100000000):
  Calls prog 268 #[.pointer (some ⟨b,0,none⟩),.int .i64 n] w (gI b (l++VariP.jE (VariP.sN n)) (.tuple #[]) w):=by
 have hp:=qQ n hn;have hsz:(DC n).size≤10:=Dz n;have HW:=zH (fun w1 (hb:Below w.heap.size w w1)=>(om b l (DC n) w1 (h.below hb) (by omega)));have hlt:=h.lt;have hl:(DC n).data.toList=VariP.jE (VariP.sN n):=rfl;rw[hl]at HW;generalize DC n=P at hp HW;have HP:=zH hp;clear hp h hsz hl;go_enter func268,ntmps268;go_wp2_with (first
  |(go_at_call 316;with_reducible refine(HP.out _).mono ?_;rintro e w1 ⟨rfl,hb1⟩)
  |(go_at_call 314;with_reducible refine(HW.out _ hb1).mono ?_;rintro e w2 ⟨rfl,h2⟩))
 go_end0;exact gI.after hlt hb1 ⟨rfl,h2⟩
theorem zD(s:ByteArray):(oh (s.size:Int)++s).data.toList=PackP.jL s.data.toList:=by
 rw[Wc,TU,xu _ (by omega)];rfl
theorem tO(b:Nat)(l:List UInt8)(s:ByteArray)(hs:s.size≤100000000)(w:World)(h:Wr b l w)(hlen:l.length≤100000000):
  Calls prog 267 #[.pointer (some ⟨b,0,none⟩),.string s] w (gI b (l++PackP.jL s.data.toList) (.tuple #[]) w):=by
 have hp:=wU (s.size:Int) (by unfold aB;omega);have hsz:(oh (s.size:Int)).size≤10:=tN _;have HW:=zH (fun w1 (hb:Below w.heap.size w w1)=>(om b l (oh (s.size:Int)++s) w1 (h.below hb) (by rw[QC];omega)));have hlt:=h.lt;rw[zD]at HW;generalize oh (s.size:Int)=P at hp HW hsz;have HP:=zH hp;clear hp h;go_enter func267,ntmps267;exact N5
theorem DQ(b:Nat)(l:List UInt8)(is:Bool)(w:World)(h:Wr b l w)(hlen:l.length≤100000000):
  Calls prog 269 #[.pointer (some ⟨b,0,none⟩),.bool is] w (gI b (l++PackP.Hh is) (.tuple #[]) w):=by
 have hW:=fun(s:ByteArray) (hs:s.size≤1)=>om b l s w h (by omega);cases is with
 |true=>
  have HW:=zH (hW ⟨#[1]⟩ (by decide));exact Ol
 |false=>
  have HW:=zH (hW ⟨#[0]⟩ (by decide));exact Ol
theorem tW(l:List UInt8)(k:Nat)(h:k<l.length)(hb:¬(33≤(l.getD k 0).toNat∧(l.getD k 0).toNat≤126)):CodeP.gU l=false:=by
 unfold CodeP.gU;have hk:l.getD k 0=l[k]:=by rw[Vu,PT h];rfl
 rw[hk]at hb;have ha:l.all (fun c=>decide (33≤c.toNat)&&decide (c.toNat≤126))=false:=by
  rw[List.all_eq_false];exact⟨l[k],List.getElem_mem h,by simpa using hb⟩
 rw[ha];simp
theorem xL(l:List UInt8)(h:∀j,j<l.length→33≤(l.getD j 0).toNat∧(l.getD j 0).toNat≤126):CodeP.gU l=(decide (1≤l.length)&&decide (l.length≤24)):=by
 unfold CodeP.gU;have ha:l.all (fun c=>decide (33≤c.toNat)&&decide (c.toNat≤126))=true:=by
  rw[Vc];intro c hc;obtain⟨j,hj,rfl⟩:=List.getElem_of_mem hc;have:=h j hj;rw[Vu,PT hj]at this;simpa using this
 rw[ha];simp
theorem sx(s:ByteArray)(hs:s.size≤maxLen)(w:World):
  Calls prog 190 #[.string s] w fun e w'=>e=.returned (.bool (CodeP.gU s.data.toList))∧Below w.heap.size w w':=by
 have hl:s.data.toList.length=s.size:=rfl;obtain⟨fc,fb,fz⟩:=kh w 5 s;have HC:=zH fc;unfold maxLen at hs;have HN1:=zH (fun k h hb=>tW s.data.toList k h hb);have HN2:=zH (fun h=>xL s.data.toList h);rw[hl]at HN1 HN2;clear fc;go_enter func190,ntmps190;go_wp2_with fail;generalize hW:Lib.bytesWorld w 5 s=W1 at HC fb fz⊢;clear hW;go_loopw [8] (fun i wr=>∃k:Nat,k≤s.size∧i=.int .i64 k∧wr=W1∧∀j,j<k→33≤(s.data.toList.getD j 0).toNat∧(s.data.toList.getD j 0).toNat≤126) (fun i _=>s.size - (intOf i).toNat)
 case atStart=>exact⟨0,by omega,rfl,rfl,fun j hj=>by omega⟩
 case round=>
  obtain⟨k,hk,rfl,rfl,hpre⟩:=hrel;have HP:=zH hpre;clear hpre;by_cases hlt:k<s.size
  ·have hc:=HC.out k hlt;have HB:=zH (fun hb=>HN1.out k hlt hb);have hbt:=(s.data.toList.getD k 0).toNat_lt;have HPk:=zH (fun(h1:33≤(s.data.toList.getD k 0).toNat) (h2:(s.data.toList.getD k 0).toNat≤126) (j:Nat) (hj:j<k+1)=>(by
    rcases Rc j k with h |h
    ·exact HP.out j h
    ·obtain rfl:j=k:=by omega
     exact⟨h1,h2⟩:33≤(s.data.toList.getD j 0).toNat∧(s.data.toList.getD j 0).toNat≤126))
   generalize (s.data.toList.getD k 0).toNat=x at hc HB hbt HPk;have hi0:(0:Int)≤(k:Int):=by omega
   have hi1:(k:Int)< (s.size:Int):=by omega
   by_cases b1:x≤32
   ·go_wp2_with fail;go_ret;exact⟨by rw[HB.out (by omega)];rfl,fb⟩
   ·by_cases b2:126<x
    ·go_wp2_with fail;go_ret;exact⟨by rw[HB.out (by omega)];rfl,fb⟩
    ·go_wp2_with fail;exact OY
  ·obtain rfl:k=s.size:=by omega
   have hn:=HN2.out HP.out;have HN:=zH hn;clear hn;by_cases h0:s.size=0
   ·have he:s.toList.isEmpty=true:=by
     rw[Rh,List.isEmpty_iff];exact QW h0
    go_wp2_with fail;go_ret;exact⟨by rw[HN.out,h0];rfl,fb⟩
   ·have he:s.toList.isEmpty=false:=by
     rw[Rh];cases hx:s.data.toList with
     |nil=>exact absurd (congrArg List.length hx) (by rw[hl];simpa using h0)
     |cons a b=>rfl
    by_cases h24:s.size≤24
    ·have hd:decide ((s.size:Int)≤24)=true:=by rw[P7];omega
     go_wp2_with fail;go_ret;exact⟨by rw[HN.out,U1 (by omega),U1 h24];rfl,fb⟩
    ·have hd:decide ((s.size:Int)≤24)=false:=by rw[UP];omega
     go_wp2_with fail;go_ret;exact⟨by rw[HN.out,UM h24,Bool.and_false];rfl,fb⟩
theorem tI(s:ByteArray)(hs:s.size≤maxLen)(w:World):
  Calls prog 47 #[.string s] w fun e w'=>e=.returned (.bool (CodeP.gU s.data.toList))∧Below w.heap.size w w':=by
 have hl:s.data.toList.length=s.size:=rfl;unfold maxLen at hs;have HN1:=zH (fun k h hb=>tW s.data.toList k h hb);have HN2:=zH (fun h=>xL s.data.toList h);rw[hl]at HN1 HN2;have HG:=zH (fun(k:Nat) (h:k<s.size)=>(show s[k]=s.data.toList.getD k 0 by
  rw[Vu,PT h];rfl))
 go_enter func47,ntmps47;go_wp2_with fail;go_loopw [3] (fun i wr=>∃k:Nat,k≤s.size∧i=.int .i64 k∧wr=w∧∀j,j<k→33≤(s.data.toList.getD j 0).toNat∧(s.data.toList.getD j 0).toNat≤126) (fun i _=>s.size - (intOf i).toNat)
 case atStart=>exact⟨0,by omega,rfl,rfl,fun j hj=>by omega⟩
 case round=>
  obtain⟨k,hk,rfl,rfl,hpre⟩:=hrel;have HP:=zH hpre;clear hpre;by_cases hlt:k<s.size
  ·have hg:s[k].toNat=(s.data.toList.getD k 0).toNat:=by rw[HG.out k hlt]
   have HB:=zH (fun hb=>HN1.out k hlt hb);have hbt:=(s.data.toList.getD k 0).toNat_lt;have HPk:=zH (fun(h1:33≤(s.data.toList.getD k 0).toNat) (h2:(s.data.toList.getD k 0).toNat≤126) (j:Nat) (hj:j<k+1)=>(by
    rcases Rc j k with h |h
    ·exact HP.out j h
    ·obtain rfl:j=k:=by omega
     exact⟨h1,h2⟩:33≤(s.data.toList.getD j 0).toNat∧(s.data.toList.getD j 0).toNat≤126))
   generalize (s.data.toList.getD k 0).toNat=x at hg HB hbt HPk;have hi0:(0:Int)≤(k:Int):=by omega
   have hi1:(k:Int)< (s.size:Int):=by omega
   by_cases b1:x≤32
   ·go_wp2_with fail;go_ret;exact⟨by rw[HB.out (by omega)];rfl,Pk _ _⟩
   ·by_cases b2:126<x
    ·go_wp2_with fail;go_ret;exact⟨by rw[HB.out (by omega)];rfl,Pk _ _⟩
    ·go_wp2_with fail;exact OY
  ·obtain rfl:k=s.size:=by omega
   have HN:=zH (HN2.out HP.out);by_cases h0:s.size=0
   ·have hd:decide ((1:Int)≤(s.size:Int))=false:=by rw[UP];omega
    go_wp2_with fail;go_ret;exact⟨by rw[HN.out,h0];rfl,Pk _ _⟩
   ·have hd1:decide ((1:Int)≤(s.size:Int))=true:=by rw[P7];omega
    by_cases h24:s.size≤24
    ·have hd:decide ((s.size:Int)≤24)=true:=by rw[P7];omega
     go_wp2_with fail;go_ret;exact⟨by rw[HN.out,U1 (by omega),U1 h24];rfl,Pk _ _⟩
    ·have hd:decide ((s.size:Int)≤24)=false:=by rw[UP];omega
     go_wp2_with fail;go_ret;exact⟨by rw[HN.out,UM h24,Bool.and_false];rfl,Pk _ _⟩
def dG(x:Sp):CodeP.Sp:=⟨x.tr,x.id,x.pa,x.rv,x.sv.data.toList,x.op.data.toList,x.st,x.du,x.gn⟩
theorem Gn(x:Sp)(h:¬(1≤x.tr∧1≤x.id∧0≤x.pa∧0≤x.rv∧CodeP.gU x.sv.data.toList=true∧CodeP.gU x.op.data.toList=true∧ -4611686018427387904≤x.st∧x.st≤4611686018427387903)):CodeP.may (dG x)=1:=by
 unfold CodeP.may;rw[Pm];intro hm;unfold CodeP.jh dG at hm;simp only[UU,P7]at hm;obtain⟨⟨⟨⟨⟨⟨⟨h1,h2⟩,h3⟩,h4⟩,h5⟩,h6⟩,h7⟩,h8⟩:=hm;exact h ⟨h1,h2,h3,h4,h5,h6,h7,h8⟩
theorem Cs(x:Sp)(h:1≤x.tr∧1≤x.id∧0≤x.pa∧0≤x.rv∧CodeP.gU x.sv.data.toList=true∧CodeP.gU x.op.data.toList=true∧ -4611686018427387904≤x.st∧x.st≤4611686018427387903):CodeP.may (dG x)=0:=by
 unfold CodeP.may;rw[Pj];unfold CodeP.jh dG;simp only[UU,P7];obtain⟨h1,h2,h3,h4,h5,h6,h7,h8⟩:=h;exact⟨⟨⟨⟨⟨⟨⟨h1,h2⟩,h3⟩,h4⟩,h5⟩,h6⟩,h7⟩,h8⟩
theorem aR{w w':World}{a:Addr}{u:Value}(h:w.cell? a=some u)(hb:Below w.heap.size w w'):w'.cell? a=some u:=(hb.cell (Uy w a h)).trans h
theorem dq{w W:World}{t:TypeId}{cs:Array Value}(hb:Below (w.alloc (.cells cs t)).heap.size (w.alloc (.cells cs t)) W):∀j,W.cell? ⟨w.heap.size,j,none⟩=cs[j]?:=fun j=>by
 have hk:W.heap[w.heap.size]?=some (.cells cs t (0,0)):=(hb.block w.heap.size (by rw[Pq];omega)).trans (Up w _);rw[Se _ _ _ _ t _ hk]
theorem lH(x:Sp)(hx:x.Ok)(w:World):
  Calls prog 112 #[.agg (SA x)] w fun e w'=>e=.returned (.int .i64 (CodeP.may (dG x)))∧Below w.heap.size w w':=by
 have hs:=sx x.sv hx.2.2.2.2.2.2.1;have ho:=sx x.op hx.2.2.2.2.2.2.2;have hno:=Gn x;have hyes:=Cs x;generalize CodeP.may (dG x)=m at hno hyes⊢;generalize CodeP.gU x.sv.data.toList=b1 at hs hno hyes;generalize CodeP.gU x.op.data.toList=b2 at ho hno hyes;obtain⟨tr,id,pa,rv,sv,op,st,du,gn⟩:=x;simp only at hs ho hno hyes⊢;have HS:=zH hs;have HO:=zH ho;have HNO:=zH hno;have HYES:=zH hyes;clear hs ho hno hyes hx;by_cases c1:1≤tr
 case neg=>
  obtain rfl:m=1:=HNO.out (fun h=>c1 h.1);exact sh
 by_cases c2:1≤id
 case neg=>
  obtain rfl:m=1:=HNO.out (fun h=>c2 h.2.1);exact sh
 by_cases c3:0≤pa
 case neg=>
  obtain rfl:m=1:=HNO.out (fun h=>c3 h.2.2.1);exact sh
 by_cases c4:0≤rv
 case neg=>
  obtain rfl:m=1:=HNO.out (fun h=>c4 h.2.2.2.1);exact sh
 cases b1 with
 |false=>
  obtain rfl:m=1:=HNO.out (by simp);exact sh
 |true=>
 cases b2 with
 |false=>
  obtain rfl:m=1:=HNO.out (by simp);exact sh
 |true=>
 by_cases c7: -4611686018427387904≤st
 case neg=>
  obtain rfl:m=1:=HNO.out (fun h=>c7 h.2.2.2.2.2.2.1);exact sh
 by_cases c8:st≤4611686018427387903
 case neg=>
  obtain rfl:m=1:=HNO.out (fun h=>c8 h.2.2.2.2.2.2.2);exact sh
 obtain rfl:m=0:=HYES.out ⟨c1,c2,c3,c4,rfl,rfl,c7,c8⟩;exact sh
theorem FZ(x:Sp)(hx:x.Ok)(w:World):
  Calls prog 21 #[.agg (SA x)] w fun e w'=>e=.returned (.int .i64 (CodeP.may (dG x)))∧Below w.heap.size w w':=by
 have hs:=tI x.sv hx.2.2.2.2.2.2.1;have ho:=tI x.op hx.2.2.2.2.2.2.2;have hno:=Gn x;have hyes:=Cs x;generalize CodeP.may (dG x)=m at hno hyes⊢;generalize CodeP.gU x.sv.data.toList=b1 at hs hno hyes;generalize CodeP.gU x.op.data.toList=b2 at ho hno hyes;obtain⟨tr,id,pa,rv,sv,op,st,du,gn⟩:=x;simp only at hs ho hno hyes⊢;have HS:=zH hs;have HO:=zH ho;have HNO:=zH hno;have HYES:=zH hyes;clear hs ho hno hyes hx;by_cases c1:1≤tr
 case neg=>
  obtain rfl:m=1:=HNO.out (fun h=>c1 h.1);exact AI
 by_cases c2:1≤id
 case neg=>
  obtain rfl:m=1:=HNO.out (fun h=>c2 h.2.1);exact AI
 by_cases c3:0≤pa
 case neg=>
  obtain rfl:m=1:=HNO.out (fun h=>c3 h.2.2.1);exact AI
 by_cases c4:0≤rv
 case neg=>
  obtain rfl:m=1:=HNO.out (fun h=>c4 h.2.2.2.1);exact AI
 cases b1 with
 |false=>
  obtain rfl:m=1:=HNO.out (by simp);exact AI
 |true=>
 cases b2 with
 |false=>
  obtain rfl:m=1:=HNO.out (by simp);exact AI
 |true=>
 by_cases c7: -4611686018427387904≤st
 case neg=>
  obtain rfl:m=1:=HNO.out (fun h=>c7 h.2.2.2.2.2.2.1);exact AI
 by_cases c8:st≤4611686018427387903
 case neg=>
  obtain rfl:m=1:=HNO.out (fun h=>c8 h.2.2.2.2.2.2.2);exact AI
 obtain rfl:m=0:=HYES.out ⟨c1,c2,c3,c4,rfl,rfl,c7,c8⟩;exact AI
instance:Inhabited PackP.Fb:=⟨PackP.Fb.zero⟩
theorem Ak{α:Type}(l:List α)(k:Nat)(f:α)(h:l[k]?=some f):l.take (k+1)=l.take k++[f]:=by
 obtain⟨h1,rfl⟩:=List.getElem?_eq_some_iff.1 h;exact List.take_succ_eq_append_getElem h1
theorem dp{b B:Nat}{T:TypeId}{cs:Array Value}{w w':World}(h:w.heap[B]?=some (.cells cs T (0,0)))(ho:Lib.OthersKept 5 (some b) w w')(hT:T≠5)(hne:b≠B):w'.heap[B]?=some (.cells cs T (0,0)):=
 ho B _ h (by simpa using fun e=>hne e.symm) (fun c fz e=>by simp at e;exact hT e.2.1)
theorem gG{B:Nat}{T:TypeId}{cs:Array Value}{w:World}(h:w.heap[B]?=some (.cells cs T (0,0))):∀j,w.cell? ⟨B,j,none⟩=cs[j]?:=fun j=>by rw[Se _ _ _ _ T _ h]
@[local go_sem] theorem M8(w:World)(a b c d:Value):(Instr.index 234 (.agg #[a,b,c,d]) (.int .i64 0)).run prog w=.ok a w:=by kernel_rfl
@[local go_sem] theorem M7(w:World)(a b c d:Value):(Instr.index 234 (.agg #[a,b,c,d]) (.int .i64 1)).run prog w=.ok b w:=by kernel_rfl
@[local go_sem] theorem M6(w:World)(a b c d:Value):(Instr.index 234 (.agg #[a,b,c,d]) (.int .i64 2)).run prog w=.ok c w:=by kernel_rfl
@[local go_sem] theorem M5(w:World)(a b c d:Value):(Instr.index 234 (.agg #[a,b,c,d]) (.int .i64 3)).run prog w=.ok d w:=by kernel_rfl
theorem Bp(b:Nat)(l:List UInt8)(x:Sp)(hx:x.Ok)(hs:x.sv.size≤100000∧x.op.size≤100000)(w:World)(h:Wr b l w)(hlen:l.length≤1000000):
  Calls prog 193 #[.pointer (some ⟨b,0,none⟩),.agg (SA x)] w (gI b (l++CodeP.enc (dG x)) (.tuple #[]) w):=by
 obtain⟨tr,id,pa,rv,sv,op,st,du,gn⟩:=x;obtain⟨i1,i2,i3,i4,i5,i6,_,_⟩:=hx;simp only at i1 i2 i3 i4 i5 i6 hs⊢;have hlt:=h.lt;have hne:b≠w.heap.size:=Nat.ne_of_lt hlt;have q:=xt;have q1:=q tr;have q2:=q id;have q3:=q pa;have q4:=q rv;have qs:(PackP.jL sv.data.toList).length≤100020:=by unfold PackP.jL;have:=VariP.kC sv.data.toList.length;rw[Pu];have:sv.data.toList.length=sv.size:=rfl;omega
 have qo:(PackP.jL op.data.toList).length≤100020:=by unfold PackP.jL;have:=VariP.kC op.data.toList.length;rw[Pu];have:op.data.toList.length=op.size:=rfl;omega
 have q5:=VariP.kC (VariP.sN st);have q6:=VariP.kC (VariP.sN du);have H0:=zH (fun o=>h.below ((Pk _ w).alloc (Po _) o));have H1:=zH (fun W (k:Wr b l W)=>oo b l tr i1 W k (by omega));have H2:=zH (fun W (k:Wr b (l++VariP.cI tr) W)=>oo b _ id i2 W k (by simp only[Pu];omega));have H3:=zH (fun W (k:Wr b (l++VariP.cI tr++VariP.cI id) W)=>oo b _ pa i3 W k (by simp only[Pu];omega));have H4:=zH (fun W (k:Wr b (l++VariP.cI tr++VariP.cI id++VariP.cI pa) W)=>oo b _ rv i4 W k (by simp only[Pu];omega));have H5:=zH (fun W (k:Wr b (l++VariP.cI tr++VariP.cI id++VariP.cI pa++VariP.cI rv) W)=>tO b _ sv (by omega) W k (by simp only[Pu];omega));have H6:=zH (fun W (k:Wr b (l++VariP.cI tr++VariP.cI id++VariP.cI pa++VariP.cI rv++PackP.jL sv.data.toList) W)=>tO b _ op (by omega) W k (by simp only[Pu];omega));have H7:=zH (fun W (k:Wr b (l++VariP.cI tr++VariP.cI id++VariP.cI pa++VariP.cI rv++PackP.jL sv.data.toList++PackP.jL op.data.toList) W)=>pS b _ st i5 W k (by simp only[Pu];omega));have H8:=zH (fun W (k:Wr b (l++VariP.cI tr++VariP.cI id++VariP.cI pa++VariP.cI rv++PackP.jL sv.data.toList++PackP.jL op.data.toList++VariP.jE (VariP.sN st)) W)=>pS b _ du i6 W k (by simp only[Pu];omega));have H9:=zH (fun W (k:Wr b (l++VariP.cI tr++VariP.cI id++VariP.cI pa++VariP.cI rv++PackP.jL sv.data.toList++PackP.jL op.data.toList++VariP.jE (VariP.sN st)++VariP.jE (VariP.sN du)) W)=>DQ b _ gn W k (by simp only[Pu];omega));clear q q1 q2 q3 q4 qs qo q5 q6 h;go_enter func193,ntmps193;go_wp2_with fail;refine U8 5 ?_;rw[UB];go_wp2_with (go_at_call 266;with_reducible refine(H1.out _ (H0.out _)).mono ?_;rintro e w1 ⟨rfl,r1,b1,o1⟩);have k1:=dp (Up w _) o1 (by decide) hne;rw[UB];go_wp2_with (go_at_call 266;with_reducible refine(H2.out _ r1).mono ?_;rintro e w2 ⟨rfl,r2,b2,o2⟩);have k2:=dp k1 o2 (by decide) hne;rw[UB];go_wp2_with (go_at_call 266;with_reducible refine(H3.out _ r2).mono ?_;rintro e w3 ⟨rfl,r3,b3,o3⟩);have k3:=dp k2 o3 (by decide) hne;rw[UB];go_wp2_with (go_at_call 266;with_reducible refine(H4.out _ r3).mono ?_;rintro e w4 ⟨rfl,r4,b4,o4⟩);have k4:=dp k3 o4 (by decide) hne;have f4:=gG k4;rw[UB];go_wp2_with (first
  |(go_at_call 267;with_reducible refine(H5.out _ r4).mono ?_;rintro e w5 ⟨rfl,r5,b5,o5⟩;have k5:=dp k4 o5 (by decide) hne;have f5:=gG k5)
  |(go_at_call 267;with_reducible refine(H6.out _ r5).mono ?_;rintro e w6 ⟨rfl,r6,b6,o6⟩;have k6:=dp k5 o6 (by decide) hne;have f6:=gG k6)
  |(go_at_call 268;with_reducible refine(H7.out _ r6).mono ?_;rintro e w7 ⟨rfl,r7,b7,o7⟩;have k7:=dp k6 o7 (by decide) hne;have f7:=gG k7)
  |(go_at_call 268;with_reducible refine(H8.out _ r7).mono ?_;rintro e w8 ⟨rfl,r8,b8,o8⟩;have k8:=dp k7 o8 (by decide) hne;have f8:=gG k8)
  |(go_at_call 269;with_reducible refine(H9.out _ r8).mono ?_;rintro e w9 ⟨rfl,r9,b9,o9⟩;have k9:=dp k8 o9 (by decide) hne;have f9:=gG k9))
 go_end0;have e:CodeP.enc (dG ⟨tr,id,pa,rv,sv,op,st,du,gn⟩)=VariP.cI tr++(VariP.cI id++(VariP.cI pa++(VariP.cI rv++(PackP.jL sv.data.toList++(PackP.jL op.data.toList++(VariP.jE (VariP.sN st)++(VariP.jE (VariP.sN du)++PackP.Hh gn))))))):=rfl;refine⟨rfl,?_,?_,?_⟩
 ·rw[e];simpa only[Qg]using r9
 ·exact((((((((((Pk b w).alloc (Rw hlt) _).trans b1).trans b2).trans b3).trans b4).trans b5).trans b6).trans b7).trans b8).trans b9
 ·exact(((((((((Sj _ _ w).alloc _).trans o1).trans o2).trans o3).trans o4).trans o5).trans o6).trans o7).trans o8|>.trans o9
theorem yR(x:Sp)(hx:x.Ok)(hs:x.sv.size≤100000∧x.op.size≤100000)(w:World):
  Calls prog 116 #[.agg (SA x)] w fun e w'=>e=.returned (.tuple #[.string ⟨(CodeP.mo (dG x)).1.toArray⟩,.int .i64 (CodeP.mo (dG x)).2])∧Below w.heap.size w w':=by
 have HM:=zH (lH x hx);have HW:=zH (fun b W (h:Wr b [] W)=>Bp b [] x hx hs W h (by simp));have HB:=zH (fun b W (h:Wr b ([]++CodeP.enc (dG x)) W)=>Am b _ W h);rw[PQ]at HB;simp only[PQ]at HW;unfold CodeP.mo;unfold CodeP.may at HM;by_cases hm:CodeP.jh (dG x)=true
 ·rw[Pj hm]at HM⊢;clear hm;generalize CodeP.enc (dG x)=E at HW HB⊢;go_enter func116,ntmps116;go_wp2_with (first
   |(go_at_call 112;(with_reducible refine(HM.out _).mono ?_);rintro e w1 ⟨rfl,b1⟩;have f1:=dq b1;have r1:=Wr.new w1;have hl1:w.heap.size<w1.heap.size:=(by have:=b1.size;rw[Pq]at this;omega);have f2:=fun j=>(((Pk w1.heap.size w1).alloc (Po _) (.cells #[.pointer none,.slice none 0 0] 311)).cell (p:=⟨w.heap.size,j,none⟩) hl1).trans (f1 j))
   |(go_at_call 193;with_reducible refine(HW.out _ _ r1).mono ?_;rintro e w2 ⟨rfl,r2,b2,_⟩)
   |(go_at_call 194;with_reducible refine(HB.out _ _ r2).mono ?_;rintro e w3 ⟨rfl,r3,b3,_⟩))
  go_ret2;have B1:Below w.heap.size w w1:=ah b1 (ae _ (Pk _ _));exact⟨rfl,((ae _ B1).trans (b2.mono B1.size)).trans (b3.mono B1.size)⟩
 ·rw[Pm hm]at HM⊢;clear hm;go_enter func116,ntmps116;go_wp2_with (go_at_call 112;with_reducible refine(HM.out _).mono ?_;rintro e w1 ⟨rfl,b1⟩);go_ret2;exact⟨rfl,zb⟩
theorem LW{w:World}{B:Nat}{o:Obj}(h:w.heap[B]?=some o):B<w.heap.size:=(Rj.1 h).1
theorem lx(x:Sp)(h:x.sv.size≤100∧x.op.size≤100)(w:World):
  Calls prog 20 #[.agg (SA x)] w fun e w'=>e=.returned (.bool true)∧Below w.heap.size w w':=by
 obtain⟨h1,h2⟩:=h;have hd:decide ((x.op.size:Int)≤100)=true:=by rw[P7];omega
 go_enter func20,ntmps20;go_wp2_with fail;go_ret;exact⟨rfl,zb⟩
theorem sY(x:Sp)(hx:x.Ok)(h:¬(x.sv.size≤100∧x.op.size≤100))(w:World):
  Calls prog 20 #[.agg (SA x)] w fun e w'=>e=.returned (.bool false)∧Below w.heap.size w w':=by
 obtain⟨_,_,_,_,_,_,h7,h8⟩:=hx;unfold maxLen at h7 h8;by_cases h1:x.sv.size≤100
 ·have h2:¬x.op.size≤100:=fun h2=>h ⟨h1,h2⟩;clear h;go_enter func20,ntmps20;go_wp2_with fail;go_ret;exact⟨by simp;omega,zb⟩
 ·clear h;go_enter func20,ntmps20;go_wp2_with fail;go_ret;exact⟨by simp,zb⟩
theorem LB{w w':World}{b:Nat}{o:Obj}(h:w.heap[b]?=some o)(hb:Below w.heap.size w w'):w'.heap[b]?=some o:=(hb.block b (LW h)).trans h
def cm(w:World)(B:Nat)(A:Option Addr)(l:List Sp):Prop:=
 ∀k x,l[k]?=some x→∃ad,A=some ad∧ad.block<B∧w.cell? (ad.add (k*9))=some (.int .i64 x.tr)∧w.cell? ⟨(ad.add (k*9)).block,(ad.add (k*9)).off+1,none⟩=some (.int .i64 x.id)∧w.cell? ⟨(ad.add (k*9)).block,(ad.add (k*9)).off+2,none⟩=some (.int .i64 x.pa)
  ∧w.cell? ⟨(ad.add (k*9)).block,(ad.add (k*9)).off+3,none⟩=some (.int .i64 x.rv)∧w.cell? ⟨(ad.add (k*9)).block,(ad.add (k*9)).off+4,none⟩=some (.string x.sv)∧w.cell? ⟨(ad.add (k*9)).block,(ad.add (k*9)).off+5,none⟩=some (.string x.op)
  ∧w.cell? ⟨(ad.add (k*9)).block,(ad.add (k*9)).off+6,none⟩=some (.int .i64 x.st)∧w.cell? ⟨(ad.add (k*9)).block,(ad.add (k*9)).off+7,none⟩=some (.int .i64 x.du)∧w.cell? ⟨(ad.add (k*9)).block,(ad.add (k*9)).off+8,none⟩=some (.bool x.gn)
theorem cm.below{w w':World}{B:Nat}{A:Option Addr}{l:List Sp}(h:cm w B A l)(hb:Below B w w'):cm w' B A l:=fun k x hk=>by
 obtain⟨ad,e,hlt,h0,h1,h2,h3,h4,h5,h6,h7,h8⟩:=h k x hk;have hb':∀a:Addr,a.block=ad.block→w'.cell? a=w.cell? a:=fun a ha=>hb.cell (p:=a) (by rw[ha];exact hlt);have hj:∀j,w'.cell? ⟨(ad.add (k*9)).block,(ad.add (k*9)).off+j,none⟩=w.cell? ⟨(ad.add (k*9)).block,(ad.add (k*9)).off+j,none⟩:=fun j=>hb' _ (dW ad (k*9));exact⟨ad,e,hlt,(hb' _ (dW ad (k*9))).trans h0,(hj 1).trans h1,(hj 2).trans h2,(hj 3).trans h3,(hj 4).trans h4,(hj 5).trans h5,(hj 6).trans h6,(hj 7).trans h7,(hj 8).trans h8⟩
theorem cm.more{w:World}{B B':Nat}{A:Option Addr}{l:List Sp}(h:cm w B A l)(hB:B≤B'):cm w B' A l:=fun k x hk=>by
 obtain⟨ad,e,hlt,h0⟩:=h k x hk;exact⟨ad,e,Ut hlt hB,h0⟩
structure BG where
 A:Option Addr
 c:Nat
 l:List Sp
def BG.Ok(a:BG)(w:World):Prop:=a.l.length≤maxLen∧a.l.length≤a.c∧a.c≤maxLen∧(∀x∈a.l,x.Ok)∧cm w w.heap.size a.A a.l
instance:Inhabited Sp:=⟨⟨0,0,0,0,⟨#[]⟩,⟨#[]⟩,0,0,false⟩⟩
theorem Au{H:Type}{enc:TypeId×Value→H}{w:World}{base:Nat}{spare:Nat→Bool}{held:Bool}{r:Reach}{b0:Nat}{v:Value}{d:DataW H}{p:List MemPlace}
  (hv:Value.okWide prog w r b0 22 v)(h:DataW.Trod enc prog w base spare held 22 v d p)(hl:∀x∈p,x.block<w.heap.size):
  ∃a:BG,v=.slice a.A a.l.length a.c∧a.Ok w:=by
 rcases vF UF underlying93 (by kernel_rfl) Tryz.cells_span (by simp) (xf UF hv) h hl with h1 |⟨a,len,cap,hc,hlc,hm,hall⟩
 ·exact⟨⟨none,0,[]⟩,by simpa using h1,by simp,by simp,by simp,by simp,fun j f hj=>by simp at hj⟩
 ·have hch:∀i,i<len→∃x:Sp,x.Ok∧w.cell? (a.add (i*9))=some (.int .i64 x.tr)∧w.cell? (a.add (i*9+1))=some (.int .i64 x.id)∧w.cell? (a.add (i*9+2))=some (.int .i64 x.pa)∧w.cell? (a.add (i*9+3))=some (.int .i64 x.rv)
    ∧w.cell? (a.add (i*9+4))=some (.string x.sv)∧w.cell? (a.add (i*9+5))=some (.string x.op)∧w.cell? (a.add (i*9+6))=some (.int .i64 x.st)∧w.cell? (a.add (i*9+7))=some (.int .i64 x.du)∧w.cell? (a.add (i*9+8))=some (.bool x.gn):=fun i hi=>by
   obtain⟨_,cs,hlen,hcell,hg⟩:=hall i hi;obtain⟨c0,y0,n0,e0,t0⟩:=hg 0 _ rfl;obtain⟨c1,y1,n1,e1,t1⟩:=hg 1 _ rfl;obtain⟨c2,y2,n2,e2,t2⟩:=hg 2 _ rfl;obtain⟨c3,y3,n3,e3,t3⟩:=hg 3 _ rfl;obtain⟨c4,y4,n4,e4,t4⟩:=hg 4 _ rfl;obtain⟨c5,y5,n5,e5,t5⟩:=hg 5 _ rfl;obtain⟨c6,y6,n6,e6,t6⟩:=hg 6 _ rfl;obtain⟨c7,y7,n7,e7,t7⟩:=hg 7 _ rfl;obtain⟨c8,y8,n8,e8,t8⟩:=hg 8 _ rfl;obtain⟨z0,rfl,w0⟩:=kf U7 t0;obtain⟨z1,rfl,w1⟩:=kf U7 t1;obtain⟨z2,rfl,w2⟩:=kf U7 t2;obtain⟨z3,rfl,w3⟩:=kf U7 t3;obtain⟨z4,rfl,w4⟩:=qk UZ t4;obtain⟨z5,rfl,w5⟩:=qk UZ t5;obtain⟨z6,rfl,w6⟩:=kf U7 t6;obtain⟨z7,rfl,w7⟩:=kf U7 t7;obtain⟨z8,rfl⟩:=EW underlying4 t8;exact⟨⟨z0,z1,z2,z3,z4,z5,z6,z7,z8⟩,⟨iQ w0,iQ w1,iQ w2,iQ w3,iQ w6,iQ w7,w4,w5⟩,(hcell 0 (by simp)).trans e0,(hcell 1 (by simp)).trans e1,(hcell 2 (by simp)).trans e2,(hcell 3 (by simp)).trans e3,(hcell 4 (by simp)).trans e4,(hcell 5 (by simp)).trans e5,(hcell 6 (by simp)).trans e6,(hcell 7 (by simp)).trans e7,(hcell 8 (by simp)).trans e8⟩
  obtain⟨q,hq⟩:=choose_lt hch;refine⟨⟨some a,cap,(List.range len).map q⟩,by simpa using hc,by simp;omega,by simpa using hlc,hm,fun f hf=>?_,fun j f hj=>?_⟩
  ·obtain⟨i,hi,rfl⟩:=Uu.1 hf;exact(hq i (List.mem_range.1 hi)).1
  ·obtain⟨i,hi,rfl⟩:∃i,(List.range len)[j]?=some i∧q i=f:=by rw[UT]at hj;exact TR.1 hj
   obtain⟨hj1,hj2⟩:=List.getElem?_eq_some_iff.1 hi;rw[List.length_range]at hj1;obtain rfl:j=i:=by simpa using hj2
   obtain⟨_,c0,c1,c2,c3,c4,c5,c6,c7,c8⟩:=hq j hj1;refine⟨a,rfl,(hall j hj1).1,c0,?_,?_,?_,?_,?_,?_,?_,?_⟩
   ·rw[←c1,show(1:Nat)=0+1 from rfl,at_next]
   ·rw[←c2,show(2:Nat)=1+1 from rfl,at_next]
   ·rw[←c3,show(3:Nat)=2+1 from rfl,at_next]
   ·rw[←c4,show(4:Nat)=3+1 from rfl,at_next]
   ·rw[←c5,show(5:Nat)=4+1 from rfl,at_next]
   ·rw[←c6,show(6:Nat)=5+1 from rfl,at_next]
   ·rw[←c7,show(7:Nat)=6+1 from rfl,at_next]
   ·rw[←c8,show(8:Nat)=7+1 from rfl,at_next]
def Hj(most:Nat)(l:List Sp):Prop:=l.length≤most∧∀x∈l,x.sv.size≤100∧x.op.size≤100
theorem vC(A:Option Addr)(c:Nat)(l:List Sp)(most:Nat)(hmost:most≤1000)(hf:Hj most l)(w:World)(hr:cm w w.heap.size A l):
  Calls prog 5 #[.slice A l.length c,.int .i64 (most:Int)] w fun e w'=>e=.returned (.bool true)∧Below w.heap.size w w':=by
 have HR:=zH hr;have HF:=zH hf;have h20:=hf.1;clear hr hf;go_enter func5,ntmps5;go_wp2_with fail;go_loopw [5] (fun i wr=>∃k:Nat,k≤l.length∧i=.int .i64 k∧Below w.heap.size w wr) (fun i _=>l.length - (intOf i).toNat)
 case atStart=>exact⟨0,by omega,rfl,Pk _ _⟩
 case round=>
  obtain⟨k,hk,rfl,hb⟩:=hrel;by_cases hlt:k<l.length
  ·obtain⟨f,hk'⟩:=zg hlt;obtain⟨ad,rfl,hadl,c0,c1,c2,c3,c4,c5,c6,c7,c8⟩:=HR.out.below hb k f hk';have HS:=zH (lx f (HF.out.2 f (List.mem_of_getElem? hk')));have hi1:(k:Int)< (l.length:Int):=by omega
   have hi2:(k:Int)< (most:Int):=by omega
   clear hk';go_wp2_with (go_at_call 20;(with_reducible refine(HS.out _).mono ?_);rintro e w1 ⟨rfl,b1⟩);exact⟨⟨k+1,by omega,by go_num,hb.trans (b1.mono hb.size)⟩,by simp[intOf];omega⟩
  ·have hd:decide (l.length≤most)=true:=by rw[P7];omega
   exact WA
theorem xo(A:Option Addr)(c:Nat)(l:List Sp)(hm:l.length≤maxLen)(hok:∀x∈l,x.Ok)(most:Nat)(hmost:most≤1000)(hf:¬Hj most l)(w:World)(hr:cm w w.heap.size A l):
  Calls prog 5 #[.slice A l.length c,.int .i64 (most:Int)] w fun e w'=>e=.returned (.bool false)∧Below w.heap.size w w':=by
 have HR:=zH hr;have HF:=zH hf;have HK:=zH hok;unfold maxLen at hm;clear hr hf hok;go_enter func5,ntmps5;go_wp2_with fail;go_loopw [5] (fun i wr=>∃k:Nat,k≤l.length∧k≤most∧i=.int .i64 k∧Below w.heap.size w wr∧∀x∈l.take k,x.sv.size≤100∧x.op.size≤100) (fun i _=>l.length - (intOf i).toNat)
 case atStart=>exact⟨0,by omega,by omega,rfl,Pk _ _,by simp⟩
 case round=>
  obtain⟨k,hk,hk20,rfl,hb,hpre⟩:=hrel;have HPRE:=zH hpre;clear hpre;by_cases hlt:k<l.length
  ·by_cases hlt2:k<most
   ·obtain⟨f,hk'⟩:=zg hlt;obtain⟨ad,rfl,hadl,c0,c1,c2,c3,c4,c5,c6,c7,c8⟩:=HR.out.below hb k f hk';have HS:=zH (Ak l k f hk');have hi1:(k:Int)< (l.length:Int):=by omega
    have hi2:(k:Int)< (most:Int):=by omega
    have hfok:=HK.out f (List.mem_of_getElem? hk');clear hk';by_cases hle:f.sv.size≤100∧f.op.size≤100
    ·have HSY:=zH (lx f hle);have HLE:=zH hle;clear hle hfok;go_wp2_with (go_at_call 20;(with_reducible refine(HSY.out _).mono ?_);rintro e w1 ⟨rfl,b1⟩);refine⟨⟨k+1,by omega,by omega,by go_num,hb.trans (b1.mono hb.size),?_⟩,by simp[intOf];omega⟩;rw[HS.out];intro x hx;rcases Px.1 hx with hx |hx
     ·exact HPRE.out x hx
     ·obtain rfl:x=f:=by simpa using hx
      exact HLE.out
    ·have HSN:=zH (sY f hfok hle);clear hle hfok;go_wp2_with (go_at_call 20;(with_reducible refine(HSN.out _).mono ?_);rintro e w1 ⟨rfl,b1⟩);go_ret;exact⟨rfl,hb.trans (b1.mono hb.size)⟩
   ·have hd:decide (l.length≤most)=false:=by rw[UP];omega
    exact WA
  ·have hgt:¬l.length≤most:=fun h=>HF.out ⟨h,fun f hf=>HPRE.out f (by rwa [VW (by omega)])⟩;have hd:decide (l.length≤most)=false:=by rw[UP];omega
   exact WA
theorem yT(x y:Int)(w:World):
  Calls prog 115 #[.int .i64 x,.int .i64 y] w fun e w'=>e=.returned (.int .i64 (if x<y then -1 else if y<x then 1 else 0))∧w=w':=by
 by_cases h:x<y
 ·rw[Pj h];exact Oy
 ·rw[Pm h];by_cases h2:y<x
  ·rw[Pj h2];exact Oy
  ·rw[Pm h2];exact Oy
theorem kX(a b:ByteArray)(w:World):
  Calls prog 195 #[.string a,.string b] w fun e w'=>e=.returned (.int .i64 (Lib.compareBytes a.data.toList b.data.toList))∧w=w':=by
 go_enter func195,ntmps195;go_wp2;rw[run_callFunc_extern func271 (by kernel_rfl) (by kernel_rfl) (by kernel_rfl) (e:=Extern.BytealgCompare.compare) (by kernel_rfl),Lib.run_compareString];simp only[Result.andThen];rw[TA];go_wp2;go_ret;exact⟨rfl,rfl⟩
theorem qn(a b:ByteArray)(w:World):
  Calls prog 117 #[.string a,.string b] w fun e w'=>e=.returned (.int .i64 (Lib.compareBytes a.data.toList b.data.toList))∧w=w':=by
 go_enter func117,ntmps117;go_wp2_with (go_at_call 195;refine(kX _ _ _).mono ?_;rintro e w' ⟨rfl,rfl⟩);go_ret;exact⟨rfl,rfl⟩
theorem Sp.kept_Ok(x:Sp)(hx:x.Ok):x.kept.Ok:=⟨hx.1,hx.2.1,hx.2.2.1,hx.2.2.2.1,hx.2.2.2.2.1,uN _ _ _ hx.2.2.2.2.2.1 wH rH,hx.2.2.2.2.2.2.1,hx.2.2.2.2.2.2.2⟩
theorem lq(x:Sp):dG x.kept=RankP.pX (dG x):=rfl
def Sp.few(x:Sp):Prop:=x.sv.size≤100∧x.op.size≤100
theorem Ad(x y:Sp)(hx:x.Ok)(hy:y.Ok)(hxs:x.few)(hys:y.few)(w:World):
  Calls prog 62 #[.agg (SA x),.agg (SA y)] w fun e w'=>e=.returned (.int .i64 (RankP.jd (dG x) (dG y)))∧Below w.heap.size w w':=by
 have P1:=yR x.kept (Sp.kept_Ok x hx) ⟨Pt hxs.1 (by omega),Pt hxs.2 (by omega)⟩;have P2:=yR y.kept (Sp.kept_Ok y hy) ⟨Pt hys.1 (by omega),Pt hys.2 (by omega)⟩;have K1:=nQ x;have K2:=nQ y;have C:=qn ⟨(CodeP.mo (dG x.kept)).1.toArray⟩ ⟨(CodeP.mo (dG y.kept)).1.toArray⟩;have ho:RankP.jd (dG x) (dG y)=if x.rv<y.rv then -1 else if y.rv<x.rv then 1 else Lib.compareBytes (CodeP.mo (dG x.kept)).1 (CodeP.mo (dG y.kept)).1:=rfl
 rw[ho];clear ho;simp only at C;generalize (CodeP.mo (dG x.kept)).2=e1 at P1;generalize (CodeP.mo (dG y.kept)).2=e2 at P2;generalize Lib.compareBytes (CodeP.mo (dG x.kept)).1 (CodeP.mo (dG y.kept)).1=cv at C⊢;generalize (⟨(CodeP.mo (dG x.kept)).1.toArray⟩:ByteArray)=PAq at P1 C;generalize (⟨(CodeP.mo (dG y.kept)).1.toArray⟩:ByteArray)=PB at P2 C;obtain⟨xtr,xid,xpa,xrv,xsv,xop,xst,xdu,xgn⟩:=x;obtain⟨ytr,yid,ypa,yrv,ysv,yop,yst,ydu,ygn⟩:=y;simp only[Sp.kept]at P1 P2 K1 K2⊢;generalize cj xdu 0 4611686018427387904=xk at P1 K1;generalize cj ydu 0 4611686018427387904=yk at P2 K2;have CM:=yT xrv yrv;have HP1:=zH P1;have HP2:=zH P2;have HK1:=zH K1;have HK2:=zH K2;have HC:=zH C;have KX:=zH (fun o=>Iz w (.cells #[.int .i64 xtr,.int .i64 xid,.int .i64 xpa,.int .i64 xrv,.string xsv,.string xop,.int .i64 xst,.int .i64 xdu,.bool xgn] 93) o);have KY:=zH (fun o=>Iy w o (.cells #[.int .i64 ytr,.int .i64 yid,.int .i64 ypa,.int .i64 yrv,.string ysv,.string yop,.int .i64 yst,.int .i64 ydu,.bool ygn] 93));clear P1 P2 K1 K2 C hx hy hxs hys;by_cases h:xrv<yrv
 ·rw[Pj h]at CM⊢;have HCM:=zH CM;clear CM h;exact On
 ·rw[Pm h]at CM⊢;by_cases h2:yrv<xrv
  ·rw[Pj h2]at CM⊢;have HCM:=zH CM;clear CM h h2;exact On
  ·rw[Pm h2]at CM⊢;have HCM:=zH CM;clear CM h h2;go_enter func62,ntmps62;go_wp2_with (first
    |(go_at_call 115;(with_reducible refine(HCM.out _).mono ?_);rintro e w1 ⟨rfl,rfl⟩)
    |(go_at_call 113;(with_reducible refine(HK1.out _).mono ?_);rintro e w2 ⟨rfl,b2⟩;have k2:=LB (KX.out _) b2;have m2:=LB (KY.out _) b2)
    |(go_at_call 116;(with_reducible refine(HP1.out _).mono ?_);rintro e w3 ⟨rfl,b3⟩;have m3:=LB m2 b3;have f3:=gG m3)
    |(go_at_call 113;(with_reducible refine(HK2.out _).mono ?_);rintro e w4 ⟨rfl,b4⟩)
    |(go_at_call 116;(with_reducible refine(HP2.out _).mono ?_);rintro e w5 ⟨rfl,b5⟩)
    |(go_at_call 117;(with_reducible refine(HC.out _).mono ?_);rintro e w6 ⟨rfl,rfl⟩))
   go_ret;exact⟨rfl,zb⟩
theorem mO(x y:Sp)(hx:x.Ok)(hy:y.Ok)(hxs:x.few)(hys:y.few)(w:World):
  Calls prog 28 #[.agg (SA x),.agg (SA y)] w fun e w'=>e=.returned (.bool (RankP.eJ (dG x) (dG y)))∧Below w.heap.size w w':=by
 have O:=Ad x y hx hy hxs hys;unfold RankP.eJ;generalize RankP.jd (dG x) (dG y)=n at O⊢;have HO:=zH O;clear O hx hy hxs hys;go_enter func28,ntmps28;go_wp2_with (go_at_call 62;(with_reducible refine(HO.out _).mono ?_);rintro e w1 ⟨rfl,b1⟩);go_ret;exact⟨rfl,zb⟩
end
