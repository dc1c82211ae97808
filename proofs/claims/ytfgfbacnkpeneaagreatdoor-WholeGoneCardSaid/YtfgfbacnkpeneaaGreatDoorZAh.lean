/- For WholeGone: contracts of functions and plain laws. -/
import Derived.Test.YtfgfbacnkpeneaaGreatDoorZAg
import Derived.Test.YtfgfbacnkpeneaaGreatDoorZAc
import Derived.Test.YtfgfbacnkpeneaaGreatDoorZAa
import Derived.SliceStrings
import Derived.ChangeSlices
set_option maxRecDepth 100000
set_option maxHeartbeats 4000000
set_option linter.unusedVariables false
set_option linter.unusedSimpArgs false
namespace Go.Proofs.YtfgfbacnkpeneaaGreatDoor
open Go.Proofs.Tryz Go.ChangeShapes Go.WideShapes Go.ChangeAt Go.RowKit Go.Deep
abbrev Uu:=@List.mem_map
abbrev UB:=@Go.rounds_succ
abbrev UD:=@List.length_take
abbrev UH:=@List.size_toArray
abbrev UN:=@List.take_zero
abbrev QZ:=@Nat.zero_le
abbrev UV:=@List.map_nil
abbrev U0:=@List.mem_append_left
abbrev U1:=@decide_eq_true
abbrev U8:=@Go.wp_loop_rounds
abbrev Vt:=@Go.wpQuiet_nil
abbrev VB:=@ByteArray.size_extract
abbrev VC:=@Bool.eq_iff_iff
abbrev VD:=@List.take_append_drop
abbrev VW:=@List.take_of_length_le
section
def cj(n a b:Int):Int:=max a (min n b)
def IA(a b:Int):Int:=cj (a+b) (-9223372036854775808) 9223372036854775807
def Dp(a b:Int):Int:=cj (a - b) (-9223372036854775808) 9223372036854775807
theorem tx(n:Int)(h: -18446744073709551616≤n∧n<18446744073709551616):(wrap64 n=n∧ -9223372036854775808≤n∧n≤9223372036854775807)∨(9223372036854775807<n∧wrap64 n=n - 18446744073709551616)∨(n< -9223372036854775808∧wrap64 n=n+18446744073709551616):=by
 unfold wrap64;omega
@[go_sem] theorem KG(a b c d e f g h i:Value)(w:World):(Instr.field 93 (.agg #[a,b,c,d,e,f,g,h,i]) 0).run prog w=.ok a w:=by kernel_rfl
@[go_sem] theorem KF(a b c d e f g h i:Value)(w:World):(Instr.field 93 (.agg #[a,b,c,d,e,f,g,h,i]) 1).run prog w=.ok b w:=by kernel_rfl
@[go_sem] theorem KE(a b c d e f g h i:Value)(w:World):(Instr.field 93 (.agg #[a,b,c,d,e,f,g,h,i]) 2).run prog w=.ok c w:=by kernel_rfl
@[go_sem] theorem KD(a b c d e f g h i:Value)(w:World):(Instr.field 93 (.agg #[a,b,c,d,e,f,g,h,i]) 3).run prog w=.ok d w:=by kernel_rfl
@[go_sem] theorem KC(a b c d e f g h i:Value)(w:World):(Instr.field 93 (.agg #[a,b,c,d,e,f,g,h,i]) 4).run prog w=.ok e w:=by kernel_rfl
@[go_sem] theorem KB(a b c d e f g h i:Value)(w:World):(Instr.field 93 (.agg #[a,b,c,d,e,f,g,h,i]) 5).run prog w=.ok f w:=by kernel_rfl
@[go_sem] theorem KA(a b c d e f g h i:Value)(w:World):(Instr.field 93 (.agg #[a,b,c,d,e,f,g,h,i]) 6).run prog w=.ok g w:=by kernel_rfl
@[go_sem] theorem Kz(a b c d e f g h i:Value)(w:World):(Instr.field 93 (.agg #[a,b,c,d,e,f,g,h,i]) 7).run prog w=.ok h w:=by kernel_rfl
@[go_sem] theorem Ky(a b c d e f g h i:Value)(w:World):(Instr.field 93 (.agg #[a,b,c,d,e,f,g,h,i]) 8).run prog w=.ok i w:=by kernel_rfl
def Sp.kept(x:Sp):Sp:={x with du:=cj x.du 0 4611686018427387904}
theorem pk(n a b:Int)(w:World):
  Calls prog 191 #[.int .i64 n,.int .i64 a,.int .i64 b] w fun e w'=>e=.returned (.int .i64 (cj n a b))∧w=w':=by
 go_enter func191,ntmps191;go_wp2
 all_goals
  go_ret;exact⟨nT (by simp only[cj];omega),rfl⟩
theorem Jt(a b:Int)(ha:aB a)(hb:aB b)(w:World):
  Calls prog 171 #[.int .i64 a,.int .i64 b] w fun e w'=>e=.returned (.int .i64 (IA a b))∧w=w':=by
 have hw:=zH (tx (a+b) (by unfold aB at ha hb;omega));have hi:=zH (And.intro ha hb);clear ha hb;go_enter func171,ntmps171;go_wp2
 all_goals
  go_ret;exact⟨nT (by have:=hw.out;have:=hi.out;unfold aB at this;unfold IA cj;omega),rfl⟩
theorem nQ(x:Sp)(w:World):
  Calls prog 113 #[.agg (SA x)] w
   fun e w'=>e=.returned (.agg #[.int .i64 x.tr,.int .i64 x.id,.int .i64 x.pa,.int .i64 x.rv,.string x.sv,.string x.op,.int .i64 x.st,.int .i64 (cj x.du 0 4611686018427387904),.bool x.gn])∧Below w.heap.size w w':=by
 go_enter func113,ntmps113;go_wp2_with (first |(go_at_call 191;refine(pk _ _ _ _).mono ?_;rintro e w' ⟨rfl,rfl⟩));refine bodyPost_ret (v:=.agg #[.int .i64 x.tr,.int .i64 x.id,.int .i64 x.pa,.int .i64 x.rv,.string x.sv,.string x.op,.int .i64 x.st,.int .i64 (cj x.du 0 4611686018427387904),.bool x.gn]) (by simp[results,results113,go_sem]) rfl ⟨rfl,?_⟩;exact((Pk _ _).alloc (Po _) _).alloc (by simp) _
theorem Cf(a b:Int)(ha:aB a)(hb:aB b)(w:World):
  Calls prog 299 #[.int .i64 a,.int .i64 b] w fun e w'=>e=.returned (.int .i64 (Dp a b))∧w=w':=by
 have hw:=zH (tx (a - b) (by unfold aB at ha hb;omega));have hi:=zH (And.intro ha hb);clear ha hb;go_enter func299,ntmps299;go_wp2
 all_goals
  go_ret;exact⟨nT (by have:=hw.out;have:=hi.out;unfold aB at this;unfold Dp cj;omega),rfl⟩
def vX(x:Sp):Int:=IA x.st (cj x.du 0 4611686018427387904)
theorem uN(n a b:Int)(hn:aB n)(ha:aB a)(hb:aB b):aB (cj n a b):=by unfold aB cj at*;omega
theorem rH:aB 4611686018427387904:=by unfold aB;omega
theorem wH:aB 0:=by unfold aB;omega
theorem Cg(x:Sp)(hx:x.Ok)(w:World):
  Calls prog 99 #[.agg (SA x)] w
   fun e w'=>e=.returned (.int .i64 (vX x))∧Below w.heap.size w w':=by
 have ha:=zH (Jt x.st (cj x.du 0 4611686018427387904) hx.2.2.2.2.1 (uN _ _ _ hx.2.2.2.2.2.1 wH rH));clear hx;go_enter func99,ntmps99;go_wp2;have hcell:=fun(u:df (w.heap.size+1) (w.alloc (.cells x.cells 93))) j=>Ee u j;unfold Sp.cells at hcell;refine im (w.heap.size+1) (by kernel_rfl) (by kernel_rfl) ?_
 repeat(go_big_quiet_step ((first |(go_at_call 113;exact jV _ (by simp) (nQ x _)) |(go_at_call 171;exact tj _ (ha.out _)))))
 refine Vt ?_;intro _ hw';obtain⟨u,hw''⟩:=hw';subst hw'';go_wp2;go_ret;exact⟨rfl,((Pk _ _).alloc (Po _) _).trans (u.h.mono (by omega))⟩
def sW(x y:Sp):Bool:=x.tr==y.tr&&(x.id==y.id&&(x.pa==y.pa&&(x.rv==y.rv&&(x.sv.toList==y.sv.toList&&(x.op.toList==y.op.toList&&(x.st==y.st&&(x.du==y.du&&(x.gn==y.gn))))))))
theorem jO(w:World)(n:Nat)(a b c d:Int)(e f:ByteArray)(g h:Int)(i:Bool)(a' b' c' d':Int)(e' f':ByteArray)(g' h':Int)(i':Bool):
  (Op.equalIn (n+2) 93 (.agg #[.int .i64 a,.int .i64 b,.int .i64 c,.int .i64 d,.string e,.string f,.int .i64 g,.int .i64 h,.bool i]) (.agg #[.int .i64 a',.int .i64 b',.int .i64 c',.int .i64 d',.string e',.string f',.int .i64 g',.int .i64 h',.bool i'])).run prog w
   =.ok (sW ⟨a,b,c,d,e,f,g,h,i⟩ ⟨a',b',c',d',e',f',g',h',i'⟩) w:=by
 unfold sW;by_cases q1:a=a'
 case neg=>simp[go_sem,q1]
 by_cases q2:b=b'
 case neg=>simp[go_sem,q1,q2]
 by_cases q3:c=c'
 case neg=>simp[go_sem,q1,q2,q3]
 by_cases q4:d=d'
 case neg=>simp[go_sem,q1,q2,q3,q4]
 by_cases q5:e.toList=e'.toList
 case neg=>simp[go_sem,q1,q2,q3,q4,q5]
 by_cases q6:f.toList=f'.toList
 case neg=>simp[go_sem,q1,q2,q3,q4,q5,q6]
 by_cases q7:g=g'
 case neg=>simp[go_sem,q1,q2,q3,q4,q5,q6,q7]
 by_cases q8:h=h'
 case neg=>simp[go_sem,q1,q2,q3,q4,q5,q6,q7,q8]
 by_cases q9:i=i'
 ·simp[go_sem,q1,q2,q3,q4,q5,q6,q7,q8,q9]
 ·have q9':(i==i')=false:=by rw[Qz];exact q9
  simp[go_sem,q1,q2,q3,q4,q5,q6,q7,q8,q9']
@[go_sem high] theorem KM(w:World)(a b c d:Int)(e f:ByteArray)(g h:Int)(i:Bool)(a' b' c' d':Int)(e' f':ByteArray)(g' h':Int)(i':Bool):
  (binOp .eql 93 (.agg #[.int .i64 a,.int .i64 b,.int .i64 c,.int .i64 d,.string e,.string f,.int .i64 g,.int .i64 h,.bool i]) (.agg #[.int .i64 a',.int .i64 b',.int .i64 c',.int .i64 d',.string e',.string f',.int .i64 g',.int .i64 h',.bool i'])).run prog w
   =.ok (.bool (sW ⟨a,b,c,d,e,f,g,h,i⟩ ⟨a',b',c',d',e',f',g',h',i'⟩)) w:=by
 rw[run_eql_struct,jO w 9998];rfl
@[go_sem high] theorem KL(w:World)(a b c d:Int)(e f:ByteArray)(g h:Int)(i:Bool)(a' b' c' d':Int)(e' f':ByteArray)(g' h':Int)(i':Bool):
  (binOp .neq 93 (.agg #[.int .i64 a,.int .i64 b,.int .i64 c,.int .i64 d,.string e,.string f,.int .i64 g,.int .i64 h,.bool i]) (.agg #[.int .i64 a',.int .i64 b',.int .i64 c',.int .i64 d',.string e',.string f',.int .i64 g',.int .i64 h',.bool i'])).run prog w
   =.ok (.bool (!sW ⟨a,b,c,d,e,f,g,h,i⟩ ⟨a',b',c',d',e',f',g',h',i'⟩)) w:=by
 rw[run_neq_struct,jO w 9998];rfl
@[simp,go_sem] theorem Ma(x:Sp):sW x x=true:=by simp[sW]
theorem Jm{x y:Sp}(h:x≠y):sW x y=false:=by
 rcases hb:sW x y with _ |_
 ·rfl
 ·refine absurd ?_ h;obtain⟨a,b,c,d,e,f,g,k,i⟩:=x;obtain⟨a',b',c',d',e',f',g',k',i'⟩:=y;simp only[sW,UU,beq_iff_eq]at hb;obtain⟨rfl,rfl,rfl,rfl,h5,h6,rfl,rfl,rfl⟩:=hb;rw[ByteArray.toList_eq,ByteArray.toList_eq]at h5 h6;obtain⟨⟨e⟩⟩:=e;obtain⟨⟨e'⟩⟩:=e';obtain⟨⟨f⟩⟩:=f;obtain⟨⟨f'⟩⟩:=f';simp only at h5 h6;rw[h5,h6]
end
section
open BucketP
def kU(d:Int):Nat:=(cj d 0 4611686018427387904).toNat
theorem CC(d:Int):kU d≤4611686018427387904:=by unfold kU cj;omega
theorem Et(d:Int):cj d 0 4611686018427387904=(kU d:Int):=by unfold kU cj;omega
theorem EZ(d:Int):ix (kU d)≤63:=EY _ (CC d)
theorem uO(d:Int)(w:World):
  Calls prog 225 #[.int .i64 d] w fun e w'=>e=.returned (.int .i64 (ix (kU d):Nat))∧w=w':=by
 have h63:=EZ d;have hle:=CC d;have hz:=zH (qW (kU d));have hc:=zH (Et d);go_enter func225,ntmps225;go_wp2_with (first |go_step3 |(go_at_call 191;refine(pk _ _ _ _).mono ?_;rintro e w' ⟨rfl,rfl⟩;rw[hc.out]));go_loop [3] (fun i=>∃k:Nat,k≤ix (kU d)∧i=.int .i64 k) (fun i=>64 - (intOf i).toNat)
 case atStart=>exact⟨0,QZ _,rfl⟩
 case round=>
  obtain⟨k,hk,rfl⟩:=hrel;have hs:=zH (xg (kU d) k);go_wp2
  ·go_ret;have h1:((kU d:Int) / 2 ^ k==0)=true:=by assumption
   rw[hs.out,P7]at h1;exact⟨nT (by omega),rfl⟩
  ·have h1:((kU d:Int) / 2 ^ k==0)=false:=by assumption
   rw[hs.out,UP]at h1;exact⟨⟨k+1,by omega,by go_num⟩,by simp[intOf];omega⟩
end
section
theorem dW(a:Addr)(n:Nat):(a.add n).block=a.block:=by unfold Addr.add;split<;>rfl
section
variable{H:Type}{enc:TypeId×Value→H}{P:Program}{w:World}{base:Nat}{spare:Nat→Bool}{held:Bool}
theorem DH{a:Addr}{n:Nat}(hn:0<n){B:Nat}(h:∀x∈MemPlace.row a n,x.block<B):a.block<B:=by
 have:=h (.cell a.block (a.off+0)) (by unfold MemPlace.row;exact Uu.2 ⟨0,by simpa using hn,rfl⟩);exact this
theorem xf{t e:TypeId}{r:Reach}{b0:Nat}{v:Value}(ht:P.underlying t=some (.slice e))(hv:Value.okWide P w r b0 t v):v.cells=#[v]:=by
 cases v<;>first |rfl |simp_all [Value.okWide,Cell.okWide,Cell.ok]
end
section
variable{H:Type}{enc:TypeId×Value→H}{P:Program}{w:World}{base:Nat}{spare:Nat→Bool}{held:Bool}
theorem vF{t e:TypeId}{fs:Array Field}{v:Value}{d:DataW H}{p:List MemPlace}(ht:P.underlying t=some (.slice e))(he:P.underlying e=some (.struct fs))(hone:oneCellFields P fs=true)
  (hC:P.cellsOf e=fs.size)(hpos:0<fs.size)(hcs:v.cells=#[v])(h:DataW.Trod enc P w base spare held t v d p)(hl:∀x∈p,x.block<w.heap.size):
  v=.slice none 0 0∨∃a len cap,v=.slice (some a) len cap∧len≤cap∧cap≤maxLen∧∀i,i<len→a.block<w.heap.size∧
   ∃cs:List Value,cs.length=fs.size∧(∀j,j<fs.size→w.cell? (a.add (i*fs.size+j))=cs[j]?)∧
    ∀(j:Nat) (f:Field),fs[j]?=some f→∃(c:Value) (y:DataW H×List MemPlace) (n:Nat),cs[j]?=some c∧DataW.trod enc P w base spare held n f.type [c]=some y:=by
 obtain⟨fuel,hf⟩:=h;rw[hcs]at hf;rcases open_slice ht hf with⟨h0,_⟩ |⟨a,len,cap,m,n,D,Pl,h0,hb,hlc,hm,hmm,hx,hall⟩
 ·exact .inl (by simpa using h0)
 ·right;have hlm:len≤m:=by rw[hmm];split<;>omega
  refine⟨a,len,cap,by simpa using h0,hlc,hm,fun i hi=>⟨?_,?_⟩⟩
  ·have hmp:0<m*P.cellsOf e:=Nat.mul_pos (by omega) (by rw[hC];exact hpos);refine DH hmp (fun x hx'=>hl x ?_);rw[(Prod.mk.inj hx).2];exact U0 _ hx'
  ·obtain⟨cs',h1,h2⟩:=hall i (by omega);obtain⟨_,hlen,hcell⟩:=World.cells?_some h1;obtain⟨xs,k,_,_,_,hxl,hg⟩:=DataW.trod_struct he h2;rw[hC]at hlen hcell;refine⟨cs',hlen,fun j hj=>(congrArg w.cell? (add_add a (i*fs.size) j).symm).trans (hcell j hj),fun j f hf=>?_⟩;obtain⟨o,q⟩:=hone_of hone j f hf;have hj:j<fs.size:=(Array.getElem?_eq_some_iff.1 hf).1;have h3:=hg j f hf;rw[o,q]at h3;have e1:(cs'.drop j).take 1=[cs'[j]'(by omega)]:=by
    rw[Vr (show j<cs'.length by omega),UJ,UN]
   rw[e1,PT (by omega)]at h3;exact⟨cs'[j]'(by omega),_,k,PT (by omega),h3⟩
end
theorem LY(a:Addr)(n:Nat):(a.add n).off=a.off+n:=by unfold Addr.add;split<;>simp_all
theorem at_next(a:Addr)(n j:Nat):a.add (n+(j+1))=⟨(a.add n).block,(a.add n).off+(j+1),none⟩:=by
 rw[show n+(j+1)=(n+j)+1 by omega,Addr.add_succ',dW,LY];simp
end
section
open BigP
theorem Na(u:Nat):fE 8 u=[UInt8.ofNat (u / 72057594037927936 % 256),UInt8.ofNat (u / 281474976710656 % 256),UInt8.ofNat (u / 1099511627776 % 256),UInt8.ofNat (u / 4294967296 % 256),UInt8.ofNat (u / 16777216 % 256),UInt8.ofNat (u / 65536 % 256),UInt8.ofNat (u / 256 % 256),UInt8.ofNat (u % 256)]:=by
 simp only[fE,PQ,PN,Nat.div_div_eq_div_mul]
theorem Bt(u:Nat)(hu:u<256 ^ 8):(#[.int .u8 ((u:Int) / 72057594037927936),.int .u8 ((u:Int) / 281474976710656 % 256),.int .u8 ((u:Int) / 1099511627776 % 256),.int .u8 ((u:Int) / 4294967296 % 256),
  .int .u8 ((u:Int) / 16777216 % 256),.int .u8 ((u:Int) / 65536 % 256),.int .u8 ((u:Int) / 256 % 256),.int .u8 ((u:Int) % 256)]:Array Value)=sF (fE 8 u):=by
 rw[Na];have h:∀n:Nat,(UInt8.ofNat (n % 256)).toNat=n % 256:=fun n=>Rz (show n % 256<256 by omega);simp only[sF,UA,UV,h];have e:(u:Int) / 72057594037927936=((u / 72057594037927936 % 256:Nat):Int):=by omega
 rw[e];rfl
theorem py(n:Int)(hn:aB n)(w:World):
  Calls prog 114 #[.int .i64 n] w fun e w'=>e=.returned (.string ⟨(fE 8 (up n)).toArray⟩)∧Below w.heap.size w w':=by
 unfold aB at hn;go_enter func114,ntmps114;go_wp2;rw[IW n hn];have hu:=mw n hn;generalize hg:up n=u at hu⊢;have HG:=zH hg;clear hg;clear hn;refine U8 9 ?_;rw[UB];go_wp2;rw[UB];go_wp2;rw[UB];go_wp2;rw[UB];go_wp2;rw[UB];go_wp2;rw[UB];go_wp2;rw[UB];go_wp2;rw[UB];go_wp2;rw[UB];go_wp2;have e:=Bt u hu;rw[e,re _ Vf VA UZ 8 8 (fE 8 u) (dt 8 u).symm];go_wp2;go_ret;exact⟨by rw[HG.out];rfl,(Pk _ _).alloc (Po _) _⟩
theorem Dn(l:List UInt8)(k:Nat)(h:k<l.length):l.take (k+1)=l.take k++[l.getD k 0]:=by
 rw[List.take_succ_eq_append_getElem h];simp[List.getD,h]
theorem Gg(l:List UInt8)(k:Nat)(h:k<l.length):kD 0 (l.take (k+1))=kD 0 (l.take k)*256+(l.getD k 0).toNat:=by
 rw[Dn l k h,mU];rfl
theorem xG(l:List UInt8)(k:Nat)(h:k<l.length)(h8:l.length≤8):kD 0 (l.take k)<256 ^ 7:=by
 have h1:=Gh (l.take k);have h2:256 ^ (l.take k).length≤256 ^ 7:=VS (by omega) (by rw[UD];omega);omega
theorem Cp(l:List UInt8)(h8:l.length≤8):kD 0 l<18446744073709551616:=by
 have h1:=Gh l;have h2:256 ^ l.length≤256 ^ 8:=VS (by omega) h8;omega
theorem Lc(u c:Nat)(hu:u<256 ^ 7)(hc:c<256):bits .or .u64 ((u:Int)*256) (c:Int)=((u*256+c:Nat):Int):=by
 rw[show(u:Int)*256=((u*256:Nat):Int)by omega,u64_or_nat _ _ (by omega) (by omega),nat_join 8 _ _ (by omega) (by omega)]
theorem mX(s:ByteArray)(hs:s.size≤8)(w:World):
  Calls prog 216 #[.string s] w fun e w'=>e=.returned (.int .i64 (nj (kD 0 s.data.toList)))∧Below w.heap.size w w':=by
 go_enter func216,ntmps216;go_wp2;obtain⟨hc,hb,hz⟩:=kh w 5 s;generalize Lib.bytesWorld w 5 s=w1 at hc hb hz⊢;have HZ:=zH hz;clear hz;go_loop [3,9] (fun uu i=>∃k:Nat,k≤s.size∧i=.int .i64 k∧uu=.int .u64 (kD 0 (s.data.toList.take k):Nat)) (fun _ i=>s.size - (intOf i).toNat)
 case atStart=>exact⟨0,by omega,rfl,rfl⟩
 case round=>
  obtain⟨k,hk,rfl,rfl⟩:=hrel;have hck:=hc k;clear hc;by_cases hlt:k<s.size
  ·have hu:=xG s.data.toList k (by simpa using hlt) (by simpa using hs);have hn:=zH (Gg s.data.toList k (by simpa using hlt));have hcc:=hck hlt;have hb8:=(s.data.toList.getD k 0).toNat_lt;have ho:=zH (Lc (kD 0 (s.data.toList.take k)) (s.data.toList.getD k 0).toNat hu hb8);generalize (s.data.toList.getD k 0).toNat=c at hcc hb8 ho hn;generalize kD 0 (s.data.toList.take k)=v at hu ho hn⊢;clear hck;go_wp2;exact⟨⟨k+1,by omega,by go_num,by rw[ho.out,hn.out]⟩,by simp[intOf];omega⟩
  ·clear hck;go_wp2;go_ret;obtain rfl:k=s.size:=by omega
   have hl:s.data.toList.take s.size=s.data.toList:=VW (by simp);have hn:=Cp s.data.toList (by simpa using hs);refine⟨?_,hb⟩;rw[hl,Fs _ hn];rfl
theorem x8(a b:Int)(ha:aB a)(hb:aB b)(w:World):
  Calls prog 61 #[.int .i64 a,.int .i64 b] w fun e w'=>e=.returned (.string ⟨(fE 8 (up a)++fE 8 (up b)).toArray⟩)∧Below w.heap.size w w':=by
 have h1:=zH (py a ha);have h2:=zH (py b hb);have l1:(fE 8 (up a)).length≤8:=by rw[dt];omega
 have l2:(fE 8 (up b)).length≤8:=by rw[dt];omega
 clear ha hb;go_enter func61,ntmps61;go_wp2_with fail;refine(h1.out _).mono ?_;rintro e w1 ⟨rfl,hb1⟩;go_wp2_with fail;refine(h2.out _).mono ?_;rintro e w2 ⟨rfl,hb2⟩;go_wp2_with fail;go_ret;exact⟨Ci (uP _ _),zb⟩
theorem Eh(a:Int)(s:ByteArray)(ha:aB a)(hs:s.size≤1000)(w:World):
  Calls prog 170 #[.int .i64 a,.string s] w fun e w'=>e=.returned (.string ⟨(fE 8 (up a)++s.data.toList).toArray⟩)∧Below w.heap.size w w':=by
 have h1:=zH (py a ha);have l1:(fE 8 (up a)).length≤8:=by rw[dt];omega
 clear ha;go_enter func170,ntmps170;go_wp2_with fail;refine(h1.out _).mono ?_;rintro e w1 ⟨rfl,hb1⟩;go_wp2_with fail;go_ret;exact⟨Ci (Bv _ s),zb⟩
def tk(s:ByteArray):Int:=if s.size=16 then nj (kD 0 (s.extract 0 8).data.toList)else 0
def wE(s:ByteArray):Int:=if s.size=16 then nj (kD 0 (s.extract 8 s.size).data.toList)else 0
def sX(s:ByteArray):Int:=if s.size=24 then nj (kD 0 (s.extract 0 8).data.toList)else 0
def mC(s:ByteArray):ByteArray:=if s.size=24 then s.extract 8 s.size else⟨#[]⟩
theorem lD(s:ByteArray)(w:World):
  Calls prog 140 #[.string s] w fun e w'=>e=.returned (.tuple #[.int .i64 (tk s),.int .i64 (wE s),.bool (decide (s.size=16))])∧Below w.heap.size w w':=by
 by_cases h:s.size=16
 ·have hn:((s.size:Int)!=16)=false:=by simp;omega
  have h1:=zH (mX (s.extract 0 8) (by simp[VB];omega));have h2:=zH (mX (s.extract 8 s.size) (by simp[VB];omega));have hle:8≤s.size:=by omega
  have H:=zH h;clear h;go_enter func140,ntmps140;go_wp2;refine im w.heap.size (by kernel_rfl) (by kernel_rfl) ?_
  repeat(go_big_quiet_step ((first
   |(go_at_call 216;with_reducible exact jV _ (Po _) (h1.out _))
   |(go_at_call 216;with_reducible exact jV _ (Po _) (h2.out _)))))
  refine Vt ?_;intro _ hw';obtain⟨u,hw''⟩:=hw';subst hw'';go_wp2;go_ret3;exact⟨qy (by unfold tk wE;rw[Pj H.out,Pj H.out,U1 H.out];rfl),u.h⟩
 ·have hn:((s.size:Int)!=16)=true:=by simp;omega
  have H:=zH h;clear h;go_enter func140,ntmps140;go_wp2;go_ret3;exact⟨qy (by unfold tk wE;rw[Pm H.out,Pm H.out,UM H.out];rfl),Pk _ _⟩
theorem rP(s:ByteArray)(w:World):
  Calls prog 292 #[.string s] w fun e w'=>e=.returned (.tuple #[.int .i64 (sX s),.string (mC s),.bool (decide (s.size=24))])∧Below w.heap.size w w':=by
 by_cases h:s.size=24
 ·have hn:((s.size:Int)!=24)=false:=by simp;omega
  have h1:=zH (mX (s.extract 0 8) (by simp[VB];omega));have hle:8≤s.size:=by omega
  have H:=zH h;clear h;go_enter func292,ntmps292;go_wp2;refine im w.heap.size (by kernel_rfl) (by kernel_rfl) ?_
  repeat(go_big_quiet_step ((first
   |(go_at_call 216;with_reducible exact jV _ (Po _) (h1.out _)))))
  refine Vt ?_;intro _ hw';obtain⟨u,hw''⟩:=hw';subst hw'';go_wp2;go_ret3;exact⟨qy (by unfold sX mC;rw[Pj H.out,Pj H.out,U1 H.out];rfl),u.h⟩
 ·have hn:((s.size:Int)!=24)=true:=by simp;omega
  have H:=zH h;clear h;go_enter func292,ntmps292;go_wp2;go_ret3;exact⟨qy (by unfold sX mC;rw[Pm H.out,Pm H.out,UM H.out];rfl),Pk _ _⟩
theorem AG(x:Sp)(hx:x.Ok)(w:World):
  Calls prog 27 #[.agg (SA x)] w fun e w'=>e=.returned (.string ⟨(fE 8 (up x.tr)++fE 8 (up x.id)).toArray⟩)∧Below w.heap.size w w':=by
 have h1:=zH (x8 x.tr x.id hx.1 hx.2.1);clear hx;go_enter func27,ntmps27;go_wp2_with (go_at_call 61;refine(h1.out _).mono ?_;rintro e w1 ⟨rfl,hb1⟩);go_ret;exact⟨rfl,zb⟩
def Ef(x y:Sp):Bool:=decide (x.tr=y.tr∧x.id=y.id)
theorem Jw(x y:Sp)(w:World):
  Calls prog 93 #[.agg (SA x),.agg (SA y)] w fun e w'=>e=.returned (.bool (Ef x y))∧Below w.heap.size w w':=by
 go_enter func93,ntmps93;go_wp2
 all_goals
  go_ret;refine⟨FY ?_,zb⟩;unfold Ef;rw[VC];simp[*]
def kA:ByteArray:=⟨(fE 8 (up 5)++fE 8 (up (-7))).toArray⟩
def kB:ByteArray:=⟨(fE 8 (up 5)++fE 8 (up 6)).toArray⟩
theorem rK(n u v:Nat)(s t:List UInt8)(hu:u<256 ^ n)(hv:v<256 ^ n):Op.bytesLess (fE n u++s) (fE n v++t)=(decide (u<v)||(decide (u=v)&&Op.bytesLess s t)):=
 Iv Op.bytesLess (fun x y a b=>by simp only[Op.bytesLess];rfl) n u v s t hu hv
theorem vh(a b:Int)(ha:aB a)(hb:aB b):decide (up a<up b)=decide (a<b):=by unfold aB at ha hb;unfold up;rw[VC];simp;omega
theorem FJ(a b:Int)(ha:aB a)(hb:aB b):decide (up a=up b)=decide (a=b):=by unfold aB at ha hb;unfold up;rw[VC];simp;omega
def kk(a b:Int):ByteArray:=⟨(fE 8 (up a)++fE 8 (up b)).toArray⟩
def ee(n:Int)(s:ByteArray):ByteArray:=⟨(fE 8 (up n)++s.data.toList).toArray⟩
theorem uz(s:ByteArray):(s.extract 0 8).data.toList=s.data.toList.take 8:=by
 rw[ByteArray.data_extract,Array.toList_extract];simp[List.extract]
theorem yt(s:ByteArray):(s.extract 8 s.size).data.toList=s.data.toList.drop 8:=by
 rw[ByteArray.data_extract,Array.toList_extract];have:s.size=s.data.toList.length:=rfl;rw[this,List.extract];exact VW (by simp)
theorem aY(a b:Int):(kk a b).size=16:=by
 show(fE 8 (up a)++fE 8 (up b)).toArray.size=16;rw[UH,Pu,dt,dt]
theorem oK(n:Int)(s:ByteArray):(ee n s).size=8+s.size:=by
 show(fE 8 (up n)++s.data.toList).toArray.size=8+s.size;rw[UH,Pu,dt];rfl
theorem Nl(a:Nat)(l:List UInt8):(fE 8 a++l).take 8=fE 8 a:=by
 have:=List.take_left (l₁:=fE 8 a) (l₂:=l)
 rwa [dt]at this
theorem Nr(a:Nat)(l:List UInt8):(fE 8 a++l).drop 8=l:=by
 have:=List.drop_left (l₁:=fE 8 a) (l₂:=l)
 rwa [dt]at this
theorem jj(a b:Int)(ha:aB a):tk (kk a b)=a:=by
 unfold tk;rw[Pj (aY a b),uz];show nj (kD 0 ((fE 8 (up a)++fE 8 (up b)).take 8))=a;rw[Nl,mT 8 _ (mw _ ha),wb _ ha]
theorem gB(a b:Int)(hb:aB b):wE (kk a b)=b:=by
 unfold wE;rw[Pj (aY a b),yt];show nj (kD 0 ((fE 8 (up a)++fE 8 (up b)).drop 8))=b;rw[Nr,mT 8 _ (mw _ hb),wb _ hb]
theorem jb(n:Int)(s:ByteArray)(hn:aB n)(hs:s.size=16):sX (ee n s)=n:=by
 unfold sX;rw[Pj (by rw[oK];omega),uz];show nj (kD 0 ((fE 8 (up n)++s.data.toList).take 8))=n;rw[Nl,mT 8 _ (mw _ hn),wb _ hn]
theorem Bu{a b:ByteArray}(h:a.data.toList=b.data.toList):a=b:=by
 cases a;cases b;simp only[ByteArray.mk.injEq];exact Array.toList_inj.1 h
theorem ja(n:Int)(s:ByteArray)(hs:s.size=16):mC (ee n s)=s:=by
 unfold mC;rw[Pj (by rw[oK];omega)];apply Bu;rw[yt];show(fE 8 (up n)++s.data.toList).drop 8=_;rw[Nr]
theorem oz(s:ByteArray)(hs:s.size=16):kk (tk s) (wE s)=s:=by
 apply Bu;have hl:s.data.toList.length=16:=hs;show fE 8 (up (tk s))++fE 8 (up (wE s))=_;unfold tk wE;rw[Pj hs,Pj hs,vq,vq,uz,yt,sE 8 _ (by simp;omega),sE 8 _ (by simp;omega),VD]
theorem oJ(s:ByteArray)(hs:s.size=24):ee (sX s) (mC s)=s:=by
 apply Bu;have hl:s.data.toList.length=24:=hs;show fE 8 (up (sX s))++(mC s).data.toList=_;unfold sX mC;rw[Pj hs,Pj hs,vq,uz,yt,sE 8 _ (by simp;omega),VD]
theorem vG(l:List UInt8)(h:l.length≤8):aB (nj (kD 0 l)):=by
 have:=Cp l h;unfold aB nj;omega
theorem Cd(s:ByteArray):aB (tk s):=by
 unfold tk;split
 ·exact vG _ (by rw[uz];simp;omega)
 ·unfold aB;omega
theorem qx(s:ByteArray):aB (wE s):=by
 unfold wE;split
 ·rename_i h;have hl:s.data.toList.length=16:=h;exact vG _ (by rw[yt];simp;omega)
 ·unfold aB;omega
theorem Ce(s:ByteArray):aB (sX s):=by
 unfold sX;split
 ·exact vG _ (by rw[uz];simp;omega)
 ·unfold aB;omega
end
