/- For WholeGossip: contracts of functions and plain laws. -/
import Derived.Test.YtfgfbacnkpeneaaGreatDoorVAk
set_option maxRecDepth 100000
set_option maxHeartbeats 4000000
set_option linter.unusedVariables false
set_option linter.unusedSimpArgs false
namespace Go.Proofs.YtfgfbacnkpeneaaGreatDoor
open Go.Proofs.Tryz Go.ChangeShapes Go.WideShapes Go.ChangeAt Go.RowKit Go.Deep
abbrev Uz:=@List.mem_filter
abbrev PU:=@List.map_append
abbrev PS:=@Go.World.ownsRow_nil
abbrev Ru:=@Nat.add_zero
abbrev U4:=@List.filter_sublist
abbrev Vj:=@List.filterMap_append
abbrev VI:=@List.filterMap_cons
abbrev Wd:=@of_decide_eq_true
theorem Ox{P:Prop}(h:P:=by
 go_wp2_with fail;(refine zu hK hS0 ?_;clear hK K;try simp only[zp]);(refine ze ?_);go_wp2_with fail;go_end0;exact⟨_,_,_,_,⟨_,rfl⟩,k5⟩):P:=h
theorem Oz{P:Prop}(h:P:=by
 exact⟨own',cs3,p',_,he,(k1.trans (cn.of_below k1.st b)).trans k⟩):P:=h
theorem Pd{P:Prop}(h:P:=by
 split
 ·exact⟨Po _,Po _⟩
 ·exact⟨fC oS A _,fC oS C _⟩):P:=h
section
theorem DN(u:Nat)(h:u<128):VariP.jE u=[UInt8.ofNat u]:=by
 unfold VariP.jE;rw[show(10:Nat)=9+1 from rfl,VariP.oe,Pj h]
theorem Jz(u:Nat)(h:128≤u)(hu:u<18446744073709551616):VariP.jE u=UInt8.ofNat (u % 128+128)::VariP.jE (u / 128):=by
 have hd:u / 128<128 ^ 9:=by omega
 have:=VariP.tL 9 (u / 128) hd (by omega) 1;unfold VariP.jE;rw[this];show(if u<128 then[UInt8.ofNat u]else UInt8.ofNat (u % 128+128)::VariP.oe 9 (u / 128))=_;rw[Pm (by omega)]
abbrev B8(b:UInt8):Value:=.int .u8 (b.toNat:Int)
theorem Lm(u:Nat):bits .or .u8 ((u:Int) % 256) 128=((u % 128+128:Nat):Int):=by
 have e:(u:Int) % 256=((u % 256:Nat):Int):=by omega
 rw[e,show(128:Int)=((128:Nat):Int)from rfl,u8_or_nat _ _ (by omega) (by omega)];have h:u % 256=u % 128+128*(u / 128 % 2):=by omega
 have h7:u % 128<2 ^ 7:=by omega
 rcases Nat.mod_two_eq_zero_or_one (u / 128)with h0 |h0
 ·rw[h0]at h;rw[h,Nat.mul_zero,Ru,Nat.or_comm,nat_join 7 128 (u % 128) (by omega) h7,Tt]
 ·rw[h0]at h;have e3:u % 256=128|||(u % 128):=by rw[nat_join 7 128 (u % 128) (by omega) h7];omega
  rw[e3,Nat.or_comm,←Nat.or_assoc,Nat.or_self,nat_join 7 128 (u % 128) (by omega) h7,Tt]
theorem JU:(prog.info? 5).map (fun i=>(i.zero,i.size,i.bytes))=some (some (.int .u8 0),1,1):=by kernel_rfl
theorem tQ{w:World}{base:Nat}{t:TypeId}{g n cap:Nat}{l:List UInt8}{x:Int}{b:UInt8}(h:w.ownsRow base t 1 (.slice (some ⟨g,0,none⟩) n cap) n (l.map B8++(#[Value.int .u8 x]:Array Value).toList))(hx:x=(b.toNat:Int)):
  w.ownsRow base t 1 (.slice (some ⟨g,0,none⟩) n cap) n ((l++[b]).map B8):=by
 rw[PU,List.map_singleton];unfold B8 at*;rw[←hx];exact h
theorem tV(u:Nat)(h:u<256):(u:Int)=((UInt8.ofNat u).toNat:Int):=by rw[Rz (by show _<256;omega)]
theorem ra{w:World}{base:Nat}{t:TypeId}{g n cap:Nat}(L:List UInt8)(hn:n=L.length)(h:w.ownsRow base t 1 (.slice (some ⟨g,0,none⟩) n cap) n (L.map B8)):
  (convert 305 9 (.slice (some ⟨g,0,none⟩) n cap)).run prog w=.ok (.string ⟨L.toArray⟩) w:=by
 subst hn;refine mE _ Vf VA UZ _ _ L (fun j b hj=>?_);exact h.cells (g:=g) rfl j _ (by rw[UT,hj];rfl)
theorem wR(u0:Nat)(h0:u0<18446744073709551616)(w:World):
  Calls prog 359 #[.int .u64 (u0:Int)] w fun e w'=>e=.returned (.string ⟨(VariP.jE u0).toArray⟩)∧Below w.heap.size w w':=by
 obtain⟨i0,hi,hz0,hz1,hz2⟩:=qa JU;have HI:=zH (Uq hi (Uq hz0 (Uq hz1 hz2)));clear hi hz0 hz1 hz2;go_enter func359,ntmps359;go_wp2;go_loopw [0,3] (fun uu v wr=>∃(u:Nat) (l:List UInt8),uu=.int .u64 (u:Int)∧VariP.jE u0=l++VariP.jE u∧u<18446744073709551616∧wr.ownsRow w.heap.size 5 1 v l.length (l.map B8)∧Below w.heap.size w wr) (fun uu _ _=>(intOf uu).toNat)
 case atStart=>exact⟨u0,[],rfl,rfl,h0,PS _ _ _ _,Pk _ _⟩
 case round=>
  obtain⟨u,l,rfl,hp,hu,hown,hb⟩:=hrel;have hl10:l.length≤10:=by
   have h1:=VariP.kC u0;rw[hp,Pu]at h1;omega
  have HP:=zH hp;have HO:=zH hown;clear hp hown;by_cases hlt:u<128
  ·go_wp2_with (at_builtin;go_must (refine jv rfl _ _ _ (by rfl) w.heap.size 5 i0 _ 1 1 Vf HI.out.1 HI.out.2.1 HI.out.2.2.1 HI.out.2.2.2 rfl (by decide) (by decide) _ _ _ (by rfl) wr HO.out _ _ rfl (by rfl) (by rfl) (by simp[Value.oneCell']) (by omega) hb.size ?_;intro g cap w1 hA);have hcv:=ra (n:=l.length+1) (l++[UInt8.ofNat u]) (by simp) (tQ hA.own (tV u (by omega)));clear HO);go_ret;exact⟨by rw[HP.out,DN u hlt];rfl,hA.below _ hb⟩
  ·have ho:=Lm u;go_wp2_with (at_builtin;go_must (refine jv rfl _ _ _ (by rfl) w.heap.size 5 i0 _ 1 1 Vf HI.out.1 HI.out.2.1 HI.out.2.2.1 HI.out.2.2.2 rfl (by decide) (by decide) _ _ _ (by rfl) wr HO.out _ _ rfl (by rfl) (by rfl) (by simp[Value.oneCell']) (by omega) hb.size ?_;intro g cap w1 hA));refine⟨⟨u / 128,l++[UInt8.ofNat (u % 128+128)],by go_num,?_,by omega,?_,hA.below _ hb⟩,by simp[intOf];omega⟩
   ·rw[HP.out,Jz u (by omega) hu,Qg];rfl
   ·rw[Pu];exact tQ hA.own (by rw[←tV _ (by omega)];omega)
theorem u9(n:Int)(h0:0≤n)(h1:aB n)(w:World):
  Calls prog 315 #[.int .i64 n] w fun e w'=>e=.returned (.string ⟨(VariP.jE n.toNat).toArray⟩)∧Below w.heap.size w w':=by
 obtain⟨m,rfl⟩:=Int.eq_ofNat_of_zero_le h0;have hm:m<9223372036854775808:=by unfold aB at h1;omega
 have H:=zH (wR m (by omega));clear h1 h0;rw[Int.toNat_natCast];go_enter func315,ntmps315;go_wp2_with (go_at_call 359;with_reducible refine(H.out _).mono ?_;rintro e w1 ⟨rfl,hb1⟩);go_ret;exact⟨rfl,zb⟩
theorem va(n:Int)(h0:n<0)(w:World):
  Calls prog 315 #[.int .i64 n] w fun e w'=>e=.returned (.string ⟨#[]⟩)∧Below w.heap.size w w':=by
 go_enter func315,ntmps315;go_wp2_with fail;go_ret;exact⟨rfl,zb⟩
def oh(n:Int):ByteArray:=⟨(VariP.cI n).toArray⟩
theorem xu(n:Int)(h:0≤n):oh n=⟨(VariP.jE n.toNat).toArray⟩:=by unfold oh VariP.cI;rw[Pm (by omega)]
theorem F6(n:Int)(h:n<0):oh n=⟨#[]⟩:=by unfold oh VariP.cI;rw[Pj h]
theorem wU(n:Int)(h1:aB n)(w:World):
  Calls prog 315 #[.int .i64 n] w fun e w'=>e=.returned (.string (oh n))∧Below w.heap.size w w':=by
 by_cases h:n<0
 ·rw[F6 n h];exact va n h w
 ·rw[xu n (by omega)];exact u9 n (by omega) h1 w
theorem Fq(x:Nat)(h:x<18446744073709551616):x ^^^ 18446744073709551615=18446744073709551615 - x:=by
 have e:=BitVec.xor_allOnes (x:=BitVec.ofNat 64 x);have e2:=congrArg BitVec.toNat e;rw[BitVec.toNat_xor,BitVec.toNat_not,BitVec.toNat_ofNat,BitVec.toNat_allOnes,Tr (by omega)]at e2;exact e2
theorem Fm(n:Int)(h: -9223372036854775808≤n∧n≤9223372036854775807):bits .xor .u64 (IntKind.u64.wrap (IntKind.u64.wrap n*2)) (IntKind.u64.wrap (n / 9223372036854775808))=(VariP.sN n:Int):=by
 rw[nC,nC,nC];unfold VariP.sN;by_cases h0:0≤n
 ·rw[Pj h0];have e1:n % 18446744073709551616*2 % 18446744073709551616=(((2*n).toNat:Nat):Int):=by omega
  have e2:n / 9223372036854775808 % 18446744073709551616=((0:Nat):Int):=by omega
  rw[e1,e2,u64_xor_nat _ _ (by omega) (by omega),Nat.xor_zero]
 ·rw[Pm h0];have e1:n % 18446744073709551616*2 % 18446744073709551616=(((2*n+18446744073709551616).toNat:Nat):Int):=by omega
  have e2:n / 9223372036854775808 % 18446744073709551616=((18446744073709551615:Nat):Int):=by omega
  rw[e1,e2,u64_xor_nat _ _ (by omega) (by omega),Fq _ (by omega)];omega
def DC(n:Int):ByteArray:=⟨(VariP.jE (VariP.sN n)).toArray⟩
theorem qQ(n:Int)(h1:aB n)(w:World):
  Calls prog 316 #[.int .i64 n] w fun e w'=>e=.returned (.string (DC n))∧Below w.heap.size w w':=by
 have H:=zH (wR (VariP.sN n) (VariP.Fl n h1));have HZ:=zH (Fm n h1);clear h1;go_enter func316,ntmps316;go_wp2_with fail;rw[HZ.out];refine(H.out _).mono ?_;rintro e w1 ⟨rfl,hb1⟩;go_wp2_with fail;go_ret;exact⟨rfl,hb1⟩
theorem xt(n:Int):(VariP.cI n).length≤10:=by
 unfold VariP.cI;split
 ·simp
 ·exact VariP.kC _
theorem tN(n:Int):(oh n).size≤10:=xt n
theorem Dz(n:Int):(DC n).size≤10:=VariP.kC _
end
section
open AvlP BigP
theorem cz(a b:Int)(ha:aB a)(hb:aB b)(w:World):Calls prog 61 #[.int .i64 a,.int .i64 b] w fun e w'=>e=.returned (.string (kk a b))∧Below w.heap.size w w':=x8 a b ha hb w
theorem mY(a:Int)(s:ByteArray)(ha:aB a)(hs:s.size≤1000)(w:World):Calls prog 170 #[.int .i64 a,.string s] w fun e w'=>e=.returned (.string (ee a s))∧Below w.heap.size w w':=Eh a s ha hs w
theorem aL(x:Sp)(hx:x.Ok)(w:World):Calls prog 27 #[.agg (SA x)] w fun e w'=>e=.returned (.string (kk x.tr x.id))∧Below w.heap.size w w':=AG x hx w
section
variable{t t1 t2:Nat}{own:Nat→Nat}
theorem pu(a b c:Int)(ha:aB a)(hb:aB b)(hc:aB c)(w:World):
  Calls prog 234 #[.int .i64 a,.int .i64 b,.int .i64 c] w fun e w'=>e=.returned (.string (ee a (kk b c)))∧Below w.heap.size w w':=by
 have H1:=zH (cz b c hb hc);have H2:=zH (mY a (kk b c) ha (by rw[aY];omega));clear ha hb hc;go_enter func234,ntmps234;go_wp2_with (first |(go_at_call 61;(with_reducible refine(H1.out _).mono ?_);rintro e w1 ⟨rfl,b1⟩) |(go_at_call 170;(with_reducible refine(H2.out _).mono ?_);rintro e w2 ⟨rfl,b2⟩));go_ret;exact⟨rfl,b1.trans (b2.mono b1.size)⟩
theorem jz(B q:Nat)(p:Option Addr)(A:List (ByteArray×Int))(tr id:Int)(h1:aB tr)(h2:aB id)(w:World)(hc:w.cell? ⟨B,q,none⟩=some (.pointer p))(hT:dm AvI.nd oS own t w p A)(r:Option Int)(hr:ag oS A (kk tr id)=r):
  Calls prog 228 #[.pointer (some ⟨B,q,none⟩),.int .i64 tr,.int .i64 id] w fun e w'=>e=.returned (.tuple #[AvI.vo r,.bool r.isSome])∧Below w.heap.size w w':=by
 have H1:=zH (cz tr id h1 h2);have H2:=zH (fun w1 (hb:Below w.heap.size w w1)=>Cq (own:=own) (t:=t) B q p A (kk tr id) w1 ((hb.cell (Uy w _ hc)).trans hc) (hT.below hb) r hr);clear h1 h2 hT hr hc;go_enter func228,ntmps228;go_wp2_with fail;refine zr (fun _=>True) trivial fun hS0=>?_;(refine zh hS0 6 5 0 ?_;simp only[zd];((iterate 5 (refine zU ?_;simp only[zp]));refine ac ?_));(refine zo 5 rfl fun K hK=>?_;go_simp);go_at_call 61;(with_reducible refine(H1.out _).mono ?_);rintro e1 w1 ⟨rfl,b1⟩;have b1':Below w.heap.size w w1:=((Pk _ w).drew).trans b1;go_wp2_with fail;(refine zu hK hS0 ?_;clear hK K;try simp only[zp]);(refine zo 6 rfl fun K hK=>?_;go_simp);go_at_call 239;(with_reducible refine(H2.out _ b1').mono ?_);rintro e2 w2 ⟨rfl,rfl⟩;go_wp2_with fail;(refine zu hK hS0 ?_;clear hK K;try simp only[zp]);(refine zh hS0 0 4 7 ?_;simp only[zd];((iterate 4 (refine zU ?_;simp only[zp]));refine ac ?_));(refine ze ?_);go_wp2_with fail;go_ret2;exact⟨rfl,b1'⟩
def cp(A:List (ByteArray×Int))(C:List (ByteArray×Unit))(tr id:Int):List (ByteArray×Int)×List (ByteArray×Unit):=
 match ag oS A (kk tr id)with
 |none=>(A,C)
 |some par=>(aK oS A (kk tr id),aK oS C (ee tr (kk par id)))
abbrev ww:=@ID ByteArray Int ByteArray Unit AvI.nd oS AvK.nd oS
abbrev bJ:=@cn ByteArray Int ByteArray Unit AvI.nd oS AvK.nd oS
theorem px(B q:Nat)(cs:Array Value)(ty:TypeId)(p1 p2:Option Addr)(A:List (ByteArray×Int))(C:List (ByteArray×Unit))(tr id:Int)(h1:aB tr)(h2:aB id)(w:World)(hX:ww own t1 t2 w B q cs ty p1 p2 A C)
  (hA:∀z∈A,aB z.2)(hl1:A.length≤700000)(hl2:C.length≤700000):
  Calls prog 155 #[.pointer (some ⟨B,q,none⟩),.int .i64 tr,.int .i64 id] w fun e w'=>∃own' cs' r1 r2,e=.returned (.bool (ag oS A (kk tr id)).isSome)∧bJ own t1 t2 w w' B q cs ty (cp A C tr id).1 (cp A C tr id).2 own' cs' r1 r2:=by
 have HP0:=jz (own:=own) (t:=t1) B q p1 A tr id h1 h2 w (aa hX.box q|>.trans hX.c0) hX.a _ rfl;rcases hr:ag oS A (kk tr id)with _ |par
 ·rw[hr]at HP0;have HP:=zH HP0;have HF:=zH (fun w1 (b:Below w.heap.size w w1)=>(show bJ own t1 t2 w w1 B q cs ty (cp A C tr id).1 (cp A C tr id).2 own cs p1 p2 by unfold cp;rw[hr];exact cn.of_below hX b));clear HP0 hX hA h1 h2;go_enter func155,ntmps155;go_wp2_with (go_at_call 228;(with_reducible refine(HP.out).mono ?_);rintro e1 w1 ⟨rfl,b1⟩);go_ret;exact⟨_,_,_,_,rfl,HF.out _ b1⟩
 ·rw[hr]at HP0;simp only[AvI.vo]at HP0;have HP:=zH HP0;have hpar:aB par:=hA _ ((ax oS hX.a.srt).1 hr);have HOF:=zH (cz tr id h1 h2);have HLN:=zH (pu tr par id h1 hpar h2);have HD1:∀w2,Below w.heap.size w w2→Calls prog 232 #[.pointer (some ⟨B,q,none⟩),.string (kk tr id)] w2 fun e w3=>∃cs3 r1 b,e=.returned (.bool b)∧bJ own t1 t2 w w3 B q cs ty (aK oS A (kk tr id)) C own cs3 r1 p2:=fun w2 b=>by
   have x2:=hX.below b;refine(AC B q cs ty p1 A (kk tr id) w2 x2.ow x2.box x2.c0 x2.c1 x2.n1 x2.a hl1).mono ?_;rintro e w3 ⟨p',he,m⟩;obtain⟨cs3,k⟩:=x2.first m
   exact⟨cs3,p',_,he,(cn.of_below hX b).trans k⟩
  have HD2:∀w3 cs3 r1,bJ own t1 t2 w w3 B q cs ty (aK oS A (kk tr id)) C own cs3 r1 p2→∀w5,Below w3.heap.size w3 w5→Calls prog 233 #[.pointer (some ⟨B,q+2,none⟩),.string (ee tr (kk par id))] w5 fun e w6=>∃cs6 r2 b,e=.returned (.bool b)∧bJ own t1 t2 w w6 B q cs ty (cp A C tr id).1 (cp A C tr id).2 own cs6 r1 r2:=fun w3 cs3 r1 k3 w5 b=>by
   have x5:=k3.st.below b;refine(Lw B (q+2) cs3 ty p2 C (ee tr (kk par id)) w5 x5.ow x5.box x5.c2 x5.c3 x5.n2 x5.c hl2).mono ?_;rintro e w6 ⟨p',he,m⟩;obtain⟨cs6,k⟩:=x5.second m;refine⟨cs6,p',_,he,?_⟩;unfold cp;rw[hr];exact(k3.trans (cn.of_below k3.st b)).trans k
  have H1:=zH HD1;have H2:=zH HD2;clear HP0 hX hA h1 h2 HD1 HD2 hpar hl1 hl2;go_enter func155,ntmps155;go_wp2_with (go_at_call 228;(with_reducible refine(HP.out).mono ?_);rintro e1 w1 ⟨rfl,b1⟩);refine zr (fun _=>True) trivial fun hS0=>?_;(refine zh hS0 2 5 0 ?_;simp only[zd];((iterate 5 (refine zU ?_;simp only[zp]));refine ac ?_));(refine zo 5 rfl fun K hK=>?_;go_simp);go_at_call 61;(with_reducible refine(HOF.out _).mono ?_);rintro e2 w2 ⟨rfl,b2⟩;have b2':Below w.heap.size w w2:=b1.drew.trans (b2.mono b1.size);go_wp2_with fail;(refine zu hK hS0 ?_;clear hK K;try simp only[zp]);(refine zo 6 rfl fun K hK=>?_;go_simp);go_at_call 232;(with_reducible refine(H1.out _ b2').mono ?_);rintro e3 w3 ⟨cs3,r1,_,rfl,k3⟩;go_wp2_with fail;(refine zu hK hS0 ?_;clear hK K;try simp only[zp]);(refine ze ?_);go_wp2_with fail;refine zr (fun _=>True) trivial fun hS0=>?_;(refine zh hS0 2 6 0 ?_;simp only[zd];((iterate 6 (refine zU ?_;simp only[zp]));refine ac ?_));(refine zo 6 rfl fun K hK=>?_;go_simp);go_at_call 234;(with_reducible refine(HLN.out _).mono ?_);rintro e4 w4 ⟨rfl,b4⟩;have b4':Below w3.heap.size w3 w4:=((Pk _ w3).drew).trans b4;go_wp2_with fail;(refine zu hK hS0 ?_;clear hK K;try simp only[zp]);(refine zo 7 rfl fun K hK=>?_;go_simp);go_at_call 233;(with_reducible refine(H2.out _ _ _ k3 _ b4').mono ?_);rintro e5 w5 ⟨cs5,r2,_,rfl,k5⟩;go_wp2_with fail;(refine zu hK hS0 ?_;clear hK K;try simp only[zp]);(refine ze ?_);go_wp2_with fail;go_ret;exact⟨_,_,_,_,rfl,k5⟩
theorem EM(A:List (ByteArray×Int))(C:List (ByteArray×Unit))(tr id:Int):(cp A C tr id).1.length≤A.length∧(cp A C tr id).2.length≤C.length:=by
 unfold cp;exact Pd
def gp(A:List (ByteArray×Int))(C:List (ByteArray×Unit))(x:Sp):List (ByteArray×Int)×List (ByteArray×Unit):=
 (ay oS (cp A C x.tr x.id).1 (kk x.tr x.id) x.pa,ay oS (cp A C x.tr x.id).2 (ee x.tr (kk x.pa x.id)) ())
theorem xY(B q:Nat)(cs:Array Value)(ty:TypeId)(p1 p2:Option Addr)(A:List (ByteArray×Int))(C:List (ByteArray×Unit))(x:Sp)(hx:x.Ok)(w:World)(hX:ww own t1 t2 w B q cs ty p1 p2 A C)
  (hA:∀z∈A,aB z.2)(hl1:A.length≤700000)(hl2:C.length≤700000)(ht1:t1≠0)(ht2:t2≠0):
  Calls prog 157 #[.pointer (some ⟨B,q,none⟩),.agg (SA x)] w fun e w'=>∃own' cs' r1 r2,(∃v,e=.returned v)∧bJ own t1 t2 w w' B q cs ty (gp A C x).1 (gp A C x).2 own' cs' r1 r2:=by
 have hB0:=zB w (.cells (SA x) 93);have hBw:=am hX.box;have hX0:=hX.below hB0;have how:=hX.ow w.heap.size (Po _);have hnew:=Up w (.cells (SA x) 93);have hlens:=EM A C x.tr x.id;have HD:=zH (px (own:=own) (t1:=t1) (t2:=t2) B q cs ty p1 p2 A C x.tr x.id hx.1 hx.2.1 _ hX0 hA hl1 hl2);have HSP:=zH (aL x hx);have HLN:=zH (pu x.tr x.pa x.id hx.1 hx.2.2.1 hx.2.1);obtain⟨w0,hw0⟩:∃w0,w0=w.alloc (.cells (SA x) 93):=⟨_,rfl⟩;rw[←hw0]at hB0 hX0 hnew HD;have HK:=zH (fun(w1:World) (A':List (ByteArray×Int)) (C':List (ByteArray×Unit)) own1 cs1 r1 r2 (k:bJ own t1 t2 w0 w1 B q cs ty A' C' own1 cs1 r1 r2)=>k.kp.at hnew (fun h=>by
  rcases h with h |h |h
  ·omega
  ·exact ht1 (h.symm.trans how)
  ·exact ht2 (h.symm.trans how)))
 have HD1:∀own1 cs1 r1 r2 w1,bJ own t1 t2 w0 w1 B q cs ty (cp A C x.tr x.id).1 (cp A C x.tr x.id).2 own1 cs1 r1 r2→∀w2,Below w1.heap.size w1 w2→Calls prog 168 #[.pointer (some ⟨B,q,none⟩),.string (kk x.tr x.id),.int .i64 x.pa] w2 fun e w3=>∃own3 cs3 r3 b,e=.returned (.bool b)∧bJ own t1 t2 w0 w3 B q cs ty (gp A C x).1 (cp A C x.tr x.id).2 own3 cs3 r3 r2:=fun own1 cs1 r1 r2 w1 k1 w2 b=>by
  have x2:=k1.st.below b;refine(xM B q cs1 ty r1 _ (kk x.tr x.id) x.pa w2 x2.ow x2.box x2.c0 x2.c1 x2.n1 x2.a (Pt hlens.1 hl1)).mono ?_;rintro e w3 ⟨own',p',he,m⟩;obtain⟨cs3,k⟩:=x2.first m
  exact Oz
 have HD2:∀own1 cs1 r1 r2 w1,bJ own t1 t2 w0 w1 B q cs ty (gp A C x).1 (cp A C x.tr x.id).2 own1 cs1 r1 r2→∀w2,Below w1.heap.size w1 w2→Calls prog 236 #[.pointer (some ⟨B,q+2,none⟩),.string (ee x.tr (kk x.pa x.id)),.agg #[]] w2 fun e w3=>∃own3 cs3 r3 b,e=.returned (.bool b)∧bJ own t1 t2 w0 w3 B q cs ty (gp A C x).1 (gp A C x).2 own3 cs3 r1 r3:=fun own1 cs1 r1 r2 w1 k1 w2 b=>by
  have x2:=k1.st.below b;refine(Mt B (q+2) cs1 ty r2 _ (ee x.tr (kk x.pa x.id)) () w2 x2.ow x2.box x2.c2 x2.c3 x2.n2 x2.c (Pt hlens.2 hl2)).mono ?_;rintro e w3 ⟨own',p',he,m⟩;obtain⟨cs3,k⟩:=x2.second m;exact Oz
 have HF:=zH (fun(w1:World) (A':List (ByteArray×Int)) (C':List (ByteArray×Unit)) own1 cs1 r1 r2 (k:bJ own t1 t2 w0 w1 B q cs ty A' C' own1 cs1 r1 r2)=>(cn.of_below hX hB0).trans k);have H1:=zH HD1;have H2:=zH HD2;have n0:w0.cell? ⟨w.heap.size,0,none⟩=some (.int .i64 x.tr):=aa hnew 0;have n1:w0.cell? ⟨w.heap.size,1,none⟩=some (.int .i64 x.id):=aa hnew 1;clear hX hX0 hA hl1 hl2 ht1 ht2 HD1 HD2 hx hB0 hnew hlens how hBw;go_enter func157,ntmps157;go_wp2_with fail;rw[←hw0];go_wp2_with (go_at_call 155;(with_reducible refine(HD.out).mono ?_);rintro e1 w1 ⟨own1,cs1,r1,r2,rfl,k1⟩);have hS1:=HK.out _ _ _ _ _ _ _ k1;refine zr (fun V=>V.heap[w.heap.size]?=some (.cells (SA x) 93 (0,0))) hS1 fun hS0=>?_;(refine zh hS0 4 4 0 ?_;simp only[zd];((iterate 4 (refine zt (fun W hW=>by have y0:W.cell? ⟨w.heap.size,0,none⟩=some (.int .i64 x.tr):=aa hW 0;have y1:W.cell? ⟨w.heap.size,1,none⟩=some (.int .i64 x.id):=aa hW 1;have y2:W.cell? ⟨w.heap.size,2,none⟩=some (.int .i64 x.pa):=aa hW 2;have y3:W.cell? ⟨w.heap.size,3,none⟩=some (.int .i64 x.rv):=aa hW 3;have y4:W.cell? ⟨w.heap.size,4,none⟩=some (.string x.sv):=aa hW 4;have y5:W.cell? ⟨w.heap.size,5,none⟩=some (.string x.op):=aa hW 5;have y6:W.cell? ⟨w.heap.size,6,none⟩=some (.int .i64 x.st):=aa hW 6;have y7:W.cell? ⟨w.heap.size,7,none⟩=some (.int .i64 x.du):=aa hW 7;have y8:W.cell? ⟨w.heap.size,8,none⟩=some (.bool x.gn):=aa hW 8;exact zq) ?_;simp only[zp]));refine ac ?_));(refine zh hS0 2 2 5 ?_;simp only[zd];((iterate 2 (refine zt (fun W hW=>by have y2:W.cell? ⟨w.heap.size,2,none⟩=some (.int .i64 x.pa):=aa hW 2;exact zq) ?_;simp only[zp]));refine ac ?_));(refine zo 4 rfl fun K hK=>?_;go_simp);go_at_call 27;(with_reducible refine(HSP.out _).mono ?_);rintro e2 w2 ⟨rfl,b2⟩;have b2':Below w1.heap.size w1 w2:=((Pk _ w1).drew).trans b2;have hS2:=(b2'.block w.heap.size (am hS1)).trans hS1;go_wp2_with fail;(refine zu hK hS2 ?_;clear hK K;try simp only[zp]);(refine zo 7 rfl fun K hK=>?_;go_simp);go_at_call 168;(with_reducible refine(H1.out _ _ _ _ _ k1 _ b2').mono ?_);rintro e3 w3 ⟨own3,cs3,r3,_,rfl,k3⟩;have hS3:=HK.out _ _ _ _ _ _ _ k3;go_wp2_with fail;(refine zu hK hS3 ?_;clear hK K;try simp only[zp]);(refine ze ?_);go_wp2_with fail;refine zr (fun V=>V.heap[w.heap.size]?=some (.cells (SA x) 93 (0,0))) hS3 fun hS0=>?_;(refine zh hS0 3 9 0 ?_;simp only[zd];((iterate 9 (refine zt (fun W hW=>by have y0:W.cell? ⟨w.heap.size,0,none⟩=some (.int .i64 x.tr):=aa hW 0;have y1:W.cell? ⟨w.heap.size,1,none⟩=some (.int .i64 x.id):=aa hW 1;have y2:W.cell? ⟨w.heap.size,2,none⟩=some (.int .i64 x.pa):=aa hW 2;exact zq) ?_;simp only[zp]));refine ac ?_));(refine zh hS0 2 1 10 ?_;simp only[zd];((iterate 1 (refine zU ?_;simp only[zp]));refine ac ?_));(refine zo 9 rfl fun K hK=>?_;go_simp);go_at_call 234;(with_reducible refine(HLN.out _).mono ?_);rintro e4 w4 ⟨rfl,b4⟩;have b4':Below w3.heap.size w3 w4:=((Pk _ w3).drew).trans b4;have hS4:=(b4'.block w.heap.size (am hS3)).trans hS3;go_wp2_with fail;(refine zu hK hS4 ?_;clear hK K;try simp only[zp]);(refine zo 11 rfl fun K hK=>?_;go_simp);go_at_call 236;(with_reducible refine(H2.out _ _ _ _ _ k3 _ b4').mono ?_);rintro e5 w5 ⟨own5,cs5,r5,_,rfl,k5⟩;have hS5:=HK.out _ _ _ _ _ _ _ k5;go_wp2_with fail;(refine zu hK hS5 ?_;clear hK K;try simp only[zp]);(refine ze ?_);go_wp2_with fail;go_end0;exact⟨_,_,_,_,⟨_,rfl⟩,HF.out _ _ _ _ _ _ _ k5⟩
end
theorem JN(a b:Int)(s t:ByteArray)(ha:aB a)(hb:aB b):oS.lt (ee a s) (ee b t)=(decide (a<b)||(decide (a=b)&&oS.lt s t)):=by
 show Op.bytesLess (ee a s).toList (ee b t).toList=_;unfold ee;rw[Rh,Rh];show Op.bytesLess (fE 8 (up a)++s.data.toList) (fE 8 (up b)++t.data.toList)=_;rw[rK 8 _ _ _ _ (mw _ ha) (mw _ hb),vh _ _ ha hb,FJ _ _ ha hb];show _=(decide (a<b)||(decide (a=b)&&Op.bytesLess s.toList t.toList));rw[Rh,Rh]
theorem JM(a b c d:Int)(ha:aB a)(hb:aB b)(hc:aB c)(hd:aB d):oS.lt (kk a b) (kk c d)=decide (a<c∨a=c∧b<d):=by
 show Op.bytesLess (kk a b).toList (kk c d).toList=_;unfold kk;rw[Rh,Rh];show Op.bytesLess (fE 8 (up a)++fE 8 (up b)) (fE 8 (up c)++fE 8 (up d))=_;have h:=rK 8 (up b) (up d) [] [] (mw _ hb) (mw _ hd);rw[Q7,Q7]at h;rw[rK 8 _ _ _ _ (mw _ ha) (mw _ hc),h,vh _ _ ha hc,FJ _ _ ha hc,vh _ _ hb hd,FJ _ _ hb hd,VC];simp[Op.bytesLess]
theorem AE{s t:ByteArray}(hs:s.size=24)(ht:t.size=24):
  oS.lt s t=decide (sX s<sX t∨sX s=sX t∧(tk (mC s)<tk (mC t)∨tk (mC s)=tk (mC t)∧wE (mC s)<wE (mC t))):=by
 have z:∀{s:ByteArray},s.size=24→(mC s).size=16:=fun hs=>by
  unfold mC;rw[Pj hs,VB];omega
 rw[←oJ s hs,←oJ t ht,JN _ _ _ _ (Ce s) (Ce t),←oz (mC s) (z hs),←oz (mC t) (z ht),JM _ _ _ _ (Cd _) (qx _) (Cd _) (qx _)];rw[oz (mC s) (z hs),oz (mC t) (z ht),oJ s hs,oJ t ht,VC];simp
def gY(tr id:Int)(s:ByteArray):Option Int:=if sX s=tr∧tk (mC s)=id then some (wE (mC s))else none
def aH(C:List (ByteArray×Unit))(tr id:Int):List Int:=C.filterMap fun z=>gY tr id z.1
def tc:Int:= -9223372036854775808
theorem rE:aB tc:=by unfold aB tc;omega
section
variable{C:List (ByteArray×Unit)}{tr id:Int}
theorem fP{α β:Type}{f g:α→Option β}:∀{l:List α},(∀x∈l,f x=g x)→l.filterMap f=l.filterMap g
 |[],_=>rfl
 |x::r,h=>by
  rw[VI,VI,h x (by simp),fP fun y hy=>h y (by simp[hy])]
theorem xW(hsz:∀z∈C,z.1.size=24)(h1:aB tr)(h2:aB id):aH C tr id=aH (aQ oS (some (ee tr (kk id tc))) C) tr id:=by
 unfold aH aQ;rw[List.filterMap_filter];refine fP fun z hz=>?_;simp only;split
 ·rfl
 ·rename_i hlt;unfold gY;rw[Pm];rintro⟨e1,e2⟩;refine hlt ?_;rw[AE (hsz z hz) (by rw[oK,aY])];rw[jb _ _ h1 (aY _ _),ja _ _ (aY _ _),jj _ _ h2,gB _ _ rE,e1,e2];have:=(qx (mC z.1)).1;unfold tc;simp;omega
theorem Eg(hs:aX oS C)(hsz:∀z∈C,z.1.size=24)(h1:aB tr)(h2:aB id){p:List (ByteArray×Unit)}{z:ByteArray×Unit}(hp:p++[z]<+:aQ oS (some (ee tr (kk id tc))) C)(hz:gY tr id z.1=none):
  aH C tr id=aH p tr id:=by
 obtain⟨r,hr⟩:=hp;rw[xW hsz h1 h2,←hr];have hsub:(p++[z]++r).Sublist C:=by rw[hr];exact U4
 have hso:=hs.sublist hsub;have hmem:∀y,y∈p++[z]++r→y.1.size=24:=fun y hy=>hsz y (hsub.subset hy);have hzs:=hmem z (by simp);have hge:oS.lt z.1 (ee tr (kk id tc))=false:=by
  have hin:z∈aQ oS (some (ee tr (kk id tc))) C:=by rw[←hr];simp
  unfold aQ at hin;simpa using(Uz.1 hin).2
 rw[AE hzs (by rw[oK,aY]),jb _ _ h1 (aY _ _),ja _ _ (aY _ _),jj _ _ h2,gB _ _ rE]at hge;have hge:=of_decide_eq_false hge;have hnk:¬(sX z.1=tr∧tk (mC z.1)=id):=fun h=>by unfold gY at hz;rw[Pj h]at hz;cases hz
 unfold aH;rw[Vj,Vj,show([z]:List (ByteArray×Unit)).filterMap (fun z=>gY tr id z.1)=[]by simp[hz],Q7];have hr0:r.filterMap (fun z=>gY tr id z.1)=[]:=?_
 ·rw[hr0,Q7]
 refine List.filterMap_eq_nil_iff.2 fun y hy=>?_;unfold gY;rw[Pm];rintro⟨e1,e2⟩;have hlt:oS.lt z.1 y.1=true:=by
  unfold aX at hso;rw[Qg]at hso;exact(QL.1 (Sc.1 hso).2.1).1 y hy
 rw[AE hzs (hmem y (by simp[hy])),e1,e2]at hlt;have hlt:=Wd hlt;have:=(qx (mC z.1)).1;unfold tc at hge;omega
end
section
variable{t t1 t2:Nat}{own:Nat→Nat}
def jk(now window:Int):Int:=Dp now (max window 0)
theorem sf(a b:Int)(ha:aB a)(hb:aB b)(w:World):
  Calls prog 241 #[.int .i64 a,.int .i64 b] w fun e w'=>e=.returned (.int .i64 (jk a b))∧w=w':=by
 have H0:=zH (Cf a 0 ha (by unfold aB;omega));have H1:=zH (Cf a b ha hb);have HQ:=zH (show(b<0→jk a b=Dp a 0)∧(0≤b→jk a b=Dp a b)from⟨fun h=>by unfold jk;rw[show max b 0=0 by omega],fun h=>by unfold jk;rw[show max b 0=b by omega]⟩);clear ha hb;go_enter func241,ntmps241;go_wp2_with fail
 ·rename_i h;go_wp2_with (go_at_call 299;(with_reducible refine(H0.out _).mono ?_);rintro e w1 ⟨rfl,rfl⟩);go_ret;exact⟨by rw[HQ.out.1 h];rfl,rfl⟩
 ·rename_i h;go_wp2_with (go_at_call 299;(with_reducible refine(H1.out _).mono ?_);rintro e w1 ⟨rfl,rfl⟩);go_ret;exact⟨by rw[HQ.out.2 h];rfl,rfl⟩
theorem yo(x:Sp)(hx:x.Ok)(h:Int)(w:World):
  Calls prog 165 #[.agg (SA x),.int .i64 h] w fun e w'=>e=.returned (.bool (decide (vX x<h)))∧Below w.heap.size w w':=by
 have H:=zH (Cg x hx);clear hx;go_enter func165,ntmps165;go_wp2_with (go_at_call 99;(with_reducible refine(H.out _).mono ?_);rintro e w1 ⟨rfl,b1⟩);go_ret;exact⟨rfl,zb⟩
theorem Bc(B q:Nat)(p:Option Addr)(A:List (ByteArray×Int))(k:ByteArray)(w:World)(hc:w.cell? ⟨B,q,none⟩=some (.pointer p))(hT:dm AvI.nd oS own t w p A)(r:Option Int)(hr:ag oS A k=r):
  Calls prog 242 #[.pointer (some ⟨B,q,none⟩),.string k] w fun e w'=>e=.returned (.tuple #[AvI.vo r,.bool r.isSome])∧w=w':=by
 have H2:=zH (Cq (own:=own) (t:=t) B q p A k w hc hT r hr);clear hT hr hc;go_enter func242,ntmps242;go_wp2_with (go_at_call 239;(with_reducible refine(H2.out).mono ?_);rintro e2 w2 ⟨rfl,rfl⟩);go_ret2;exact⟨rfl,rfl⟩
abbrev BJ:=@ID ByteArray Int ByteArray Unit AvI.nd oS AvE.nd oS
abbrev ef:=@cn ByteArray Int ByteArray Unit AvI.nd oS AvE.nd oS
def jQ(A:List (ByteArray×Int))(C:List (ByteArray×Unit))(k:ByteArray):List (ByteArray×Int)×List (ByteArray×Unit):=
 match ag oS A k with
 |none=>(A,C)
 |some n=>(aK oS A k,aK oS C (ee n k))
theorem xE(A:List (ByteArray×Int))(C:List (ByteArray×Unit))(k:ByteArray):(jQ A C k).1.length≤A.length∧(jQ A C k).2.length≤C.length:=by
 unfold jQ;exact Pd
def IK(A:List (ByteArray×Int))(C:List (ByteArray×Unit))(k:ByteArray)(n:Int):List (ByteArray×Int)×List (ByteArray×Unit):=
 (ay oS (jQ A C k).1 k n,ay oS (jQ A C k).2 (ee n k) ())
theorem yq(B q:Nat)(cs:Array Value)(ty:TypeId)(p1 p2:Option Addr)(A:List (ByteArray×Int))(C:List (ByteArray×Unit))(k:ByteArray)(hk:k.size=16)(w:World)(hX:BJ own t1 t2 w B q cs ty p1 p2 A C)
  (hA:∀z∈A,aB z.2)(hl1:A.length≤700000)(hl2:C.length≤700000):
  Calls prog 167 #[.pointer (some ⟨B,q,none⟩),.string k] w fun e w'=>∃own' cs' r1 r2,(∃v,e=.returned v)∧ef own t1 t2 w w' B q cs ty (jQ A C k).1 (jQ A C k).2 own' cs' r1 r2:=by
 have HP0:=Bc (own:=own) (t:=t1) B q p1 A k w (aa hX.box q|>.trans hX.c0) hX.a _ rfl;rcases hr:ag oS A k with _ |n
 ·rw[hr]at HP0;have HP:=zH HP0;have HF:=zH (show ef own t1 t2 w w B q cs ty (jQ A C k).1 (jQ A C k).2 own cs p1 p2 by unfold jQ;rw[hr];exact cn.of_below hX (Pk _ _));clear HP0 hX hA;go_enter func167,ntmps167;go_wp2_with (go_at_call 242;(with_reducible refine(HP.out).mono ?_);rintro e1 w1 ⟨rfl,rfl⟩);go_end0;exact⟨_,_,_,_,⟨_,rfl⟩,HF.out⟩
 ·rw[hr]at HP0;simp only[AvI.vo]at HP0;have HP:=zH HP0;have hn:aB n:=hA _ ((ax oS hX.a.srt).1 hr);have HLN:=zH (mY n k hn (by omega));have HD1:Calls prog 232 #[.pointer (some ⟨B,q,none⟩),.string k] w fun e w3=>∃cs3 r1 b,e=.returned (.bool b)∧ef own t1 t2 w w3 B q cs ty (aK oS A k) C own cs3 r1 p2:=by
   refine(AC B q cs ty p1 A k w hX.ow hX.box hX.c0 hX.c1 hX.n1 hX.a hl1).mono ?_;rintro e w3 ⟨p',he,m⟩;obtain⟨cs3,k⟩:=hX.first m
   exact⟨cs3,p',_,he,k⟩
  have HD2:∀w3 cs3 r1,ef own t1 t2 w w3 B q cs ty (aK oS A k) C own cs3 r1 p2→∀w5,Below w3.heap.size w3 w5→Calls prog 243 #[.pointer (some ⟨B,q+2,none⟩),.string (ee n k)] w5 fun e w6=>∃cs6 r2 b,e=.returned (.bool b)∧ef own t1 t2 w w6 B q cs ty (jQ A C k).1 (jQ A C k).2 own cs6 r1 r2:=fun w3 cs3 r1 k3 w5 b=>by
   have x5:=k3.st.below b;refine(Ly B (q+2) cs3 ty p2 C (ee n k) w5 x5.ow x5.box x5.c2 x5.c3 x5.n2 x5.c hl2).mono ?_;rintro e w6 ⟨p',he,m⟩;obtain⟨cs6,k⟩:=x5.second m;refine⟨cs6,p',_,he,?_⟩;unfold jQ;rw[hr];exact(k3.trans (cn.of_below k3.st b)).trans k
  have H1:=zH HD1;have H2:=zH HD2;clear HP0 hX hA HD1 HD2 hn hl1 hl2;go_enter func167,ntmps167;go_wp2_with (first |(go_at_call 242;(with_reducible refine(HP.out).mono ?_);rintro e1 w1 ⟨rfl,rfl⟩) |(go_at_call 232;(with_reducible refine(H1.out).mono ?_);rintro e3 w3 ⟨cs3,r1,_,rfl,k3⟩));refine zr (fun _=>True) trivial fun hS0=>?_;(refine zh hS0 2 5 0 ?_;simp only[zd];((iterate 5 (refine zU ?_;simp only[zp]));refine ac ?_));(refine zo 5 rfl fun K hK=>?_;go_simp);go_at_call 170;(with_reducible refine(HLN.out _).mono ?_);rintro e4 w4 ⟨rfl,b4⟩;have b4':Below w3.heap.size w3 w4:=((Pk _ w3).drew).trans b4;go_wp2_with fail;(refine zu hK hS0 ?_;clear hK K;try simp only[zp]);(refine zo 6 rfl fun K hK=>?_;go_simp);go_at_call 243;(with_reducible refine(H2.out _ _ _ k3 _ b4').mono ?_);rintro e5 w5 ⟨cs5,r2,_,rfl,k5⟩;exact Ox
theorem Bb(B q:Nat)(cs:Array Value)(ty:TypeId)(p1 p2:Option Addr)(A:List (ByteArray×Int))(C:List (ByteArray×Unit))(k:ByteArray)(n:Int)(hk:k.size=16)(hn:aB n)(w:World)(hX:BJ own t1 t2 w B q cs ty p1 p2 A C)
  (hA:∀z∈A,aB z.2)(hl1:A.length≤700000)(hl2:C.length≤700000):
  Calls prog 98 #[.pointer (some ⟨B,q,none⟩),.string k,.int .i64 n] w fun e w'=>∃own' cs' r1 r2,(∃v,e=.returned v)∧ef own t1 t2 w w' B q cs ty (IK A C k n).1 (IK A C k n).2 own' cs' r1 r2:=by
 have hlens:=xE A C k;have HD:=zH (yq (own:=own) (t1:=t1) (t2:=t2) B q cs ty p1 p2 A C k hk w hX hA hl1 hl2);have HLN:=zH (mY n k hn (by omega));have HD1:∀own1 cs1 r1 r2 w1,ef own t1 t2 w w1 B q cs ty (jQ A C k).1 (jQ A C k).2 own1 cs1 r1 r2→Calls prog 168 #[.pointer (some ⟨B,q,none⟩),.string k,.int .i64 n] w1 fun e w3=>∃own3 cs3 r3 b,e=.returned (.bool b)∧ef own t1 t2 w w3 B q cs ty (IK A C k n).1 (jQ A C k).2 own3 cs3 r3 r2:=fun own1 cs1 r1 r2 w1 k1=>by
  have x2:=k1.st;refine(xM B q cs1 ty r1 _ k n w1 x2.ow x2.box x2.c0 x2.c1 x2.n1 x2.a (Pt hlens.1 hl1)).mono ?_;rintro e w3 ⟨own',p',he,m⟩;obtain⟨cs3,k⟩:=x2.first m
  exact⟨own',cs3,p',_,he,k1.trans k⟩
 have HD2:∀own1 cs1 r1 r2 w1,ef own t1 t2 w w1 B q cs ty (IK A C k n).1 (jQ A C k).2 own1 cs1 r1 r2→∀w2,Below w1.heap.size w1 w2→Calls prog 169 #[.pointer (some ⟨B,q+2,none⟩),.string (ee n k),.agg #[]] w2 fun e w3=>∃own3 cs3 r3 b,e=.returned (.bool b)∧ef own t1 t2 w w3 B q cs ty (IK A C k n).1 (IK A C k n).2 own3 cs3 r1 r3:=fun own1 cs1 r1 r2 w1 k1 w2 b=>by
  have x2:=k1.st.below b;refine(Mv B (q+2) cs1 ty r2 _ (ee n k) () w2 x2.ow x2.box x2.c2 x2.c3 x2.n2 x2.c (Pt hlens.2 hl2)).mono ?_;rintro e w3 ⟨own',p',he,m⟩;obtain⟨cs3,k⟩:=x2.second m;exact Oz
 have H1:=zH HD1;have H2:=zH HD2;have hk2:((k.size:Nat):Int)=16:=by omega
 clear hX hA hl1 hl2 HD1 HD2 hn hlens hk;go_enter func98,ntmps98;go_wp2_with (first |(go_at_call 167;(with_reducible refine(HD.out).mono ?_);rintro e1 w1 ⟨own1,cs1,r1,r2,⟨_,rfl⟩,k1⟩) |(go_at_call 168;(with_reducible refine(H1.out _ _ _ _ _ k1).mono ?_);rintro e3 w3 ⟨own3,cs3,r3,_,rfl,k3⟩));refine zr (fun _=>True) trivial fun hS0=>?_;(refine zh hS0 3 5 0 ?_;simp only[zd];((iterate 5 (refine zU ?_;simp only[zp]));refine ac ?_));(refine zh hS0 2 1 6 ?_;simp only[zd];((iterate 1 (refine zU ?_;simp only[zp]));refine ac ?_));(refine zo 5 rfl fun K hK=>?_;go_simp);go_at_call 170;(with_reducible refine(HLN.out _).mono ?_);rintro e4 w4 ⟨rfl,b4⟩;have b4':Below w3.heap.size w3 w4:=((Pk _ w3).drew).trans b4;go_wp2_with fail;(refine zu hK hS0 ?_;clear hK K;try simp only[zp]);(refine zo 7 rfl fun K hK=>?_;go_simp);go_at_call 169;(with_reducible refine(H2.out _ _ _ _ _ k3 _ b4').mono ?_);rintro e5 w5 ⟨own5,cs5,r5,_,rfl,k5⟩;exact Ox
end
end
