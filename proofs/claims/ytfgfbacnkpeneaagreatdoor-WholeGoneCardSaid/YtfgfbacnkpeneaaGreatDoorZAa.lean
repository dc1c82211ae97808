/- For WholeGone: contracts of functions and plain laws. -/
import Derived.Lib.Bytealg
import Derived.Deep.RegionHeld3
import Derived.WalkKit
set_option maxRecDepth 100000
set_option maxHeartbeats 4000000
set_option linter.unusedVariables false
set_option linter.unusedSimpArgs false
namespace Go.Proofs.YtfgfbacnkpeneaaGreatDoor
abbrev Pj:=@if_pos
abbrev Pm:=@if_neg
abbrev Po:=@Nat.le_refl
abbrev Pu:=@List.length_append
abbrev Pz:=@List.mem_cons
abbrev Ut:=@Nat.lt_of_lt_of_le
abbrev PC:=@List.length_cons
abbrev PN:=@List.cons_append
abbrev PQ:=@List.nil_append
abbrev P7:=@decide_eq_true_eq
abbrev UC:=@Option.some.inj
abbrev Qf:=@List.mem_cons_of_mem
abbrev Qg:=@List.append_assoc
abbrev UJ:=@List.take_succ_cons
abbrev Qz:=@beq_eq_false_iff_ne
abbrev UM:=@decide_eq_false
abbrev UP:=@decide_eq_false_iff_not
abbrev QL:=@List.pairwise_cons
abbrev QW:=@List.eq_nil_of_length_eq_zero
abbrev UU:=@Bool.and_eq_true
abbrev UY:=@List.setIfInBounds_toArray
abbrev Ro:=@Nat.pow_succ
abbrev Rz:=@UInt8.toNat_ofNat_of_lt'
abbrev Va:=@UInt8.not_lt
abbrev Vb:=@List.head?_drop
abbrev RO:=@List.foldl_append
abbrev RQ:=@Nat.mul_comm
abbrev Sc:=@List.pairwise_append
abbrev Vr:=@List.drop_eq_getElem_cons
abbrev Sx:=@Nat.add_mul
abbrev Sy:=@Nat.div_lt_of_lt_mul
abbrev Vz:=@Go.NoPanic.normal
abbrev Tq:=@Nat.mul_le_mul_right
abbrev Tr:=@Nat.mod_eq_of_lt
abbrev Tt:=@Nat.add_comm
abbrev VS:=@Nat.pow_le_pow_right
abbrev VU:=@UInt8.le_antisymm
abbrev VV:=@Go.wp_region_noPanic
theorem NV{P:Prop}(h:P:=by
 rw[Pm (by rw[o.asym h1];decide),Pj h1,ih fun y hy=>hA y (Qf _ hy)]):P:=h
theorem OC{P:Prop}(h:P:=by
 simp only[PN,ag];rw[Pm (by rw[o.asym h1];decide),Pj h1];exact ih fun y hy=>hA y (Qf _ hy)):P:=h
theorem OS{P:Prop}(h:P:=by
 refine⟨by simp only[ag];rw[Pm h,Pj h2];exact i1,fun k' hk=>?_⟩;simp only[ag];rw[i2 k' hk]):P:=h
theorem O5{P:Prop}(h:P:=by
 rw[Pm (by rw[o.asym hk];decide),Pj hk]):P:=h
section
namespace AvlP
structure eN(K:Type) where
 lt:K→K→Bool
 irr:∀a,lt a a=false
 tri:∀a b,lt a b=false→lt b a=false→a=b
 tr:∀a b c,lt a b=true→lt b c=true→lt a c=true
section
variable{K V:Type}(o:eN K)
include o
theorem eN.asym{a b:K}(h:o.lt a b=true):o.lt b a=false:=by
 rcases hb:o.lt b a with _ |_
 ·rfl
 ·have:=o.tr a b a h hb;rw[o.irr]at this;cases this
theorem eN.ne{a b:K}(h:o.lt a b=true):a≠b:=fun e=>by
 rw[e,o.irr]at h;cases h
def ag:List (K×V)→K→Option V
 |[],_=>none
 |(a,x)::r,k=>if o.lt k a=true then none else if o.lt a k=true then ag r k else some x
def ay:List (K×V)→K→V→List (K×V)
 |[],k,v=>[(k,v)]
 |(a,x)::r,k,v=>if o.lt k a=true then(k,v)::(a,x)::r else if o.lt a k=true then(a,x)::ay r k v else(k,v)::r
def aK:List (K×V)→K→List (K×V)
 |[],_=>[]
 |(a,x)::r,k=>if o.lt k a=true then(a,x)::r else if o.lt a k=true then(a,x)::aK r k else r
def aX(L:List (K×V)):Prop:=L.Pairwise fun a b=>o.lt a.1 b.1=true
theorem fH:aX o ([]:List (K×V)):=List.Pairwise.nil
theorem aX.tail{x:K×V}{L:List (K×V)}(h:aX o (x::L)):aX o L:=(QL.1 h).2
theorem aX.head{x:K×V}{L:List (K×V)}(h:aX o (x::L)):∀y∈L,o.lt x.1 y.1=true:=(QL.1 h).1
theorem Jk{A B:List (K×V)}:aX o (A++B)↔aX o A∧aX o B∧∀a∈A,∀b∈B,o.lt a.1 b.1=true:=Sc
theorem ut{L:List (K×V)}{k:K}(h:∀y∈L,o.lt k y.1=true):ag o L k=none:=by
 cases L with
 |nil=>rfl
 |cons y r=>
  obtain⟨a,x⟩:=y;simp only[ag];rw[Pj (h (a,x) (by simp))]
theorem ax{L:List (K×V)}(hs:aX o L):∀{k:K} {v:V},ag o L k=some v↔(k,v)∈L:=by
 induction L with
 |nil=>intro k v;simp[ag]
 |cons y r ih=>
  obtain⟨a,x⟩:=y;intro k v;simp only[ag];split
  ·rename_i h;refine⟨fun e=>by simp at e,fun hm=>?_⟩;rcases Pz.1 hm with e |hm
   ·injection e with e1 _;rw[e1,o.irr]at h;cases h
   ·have:=o.tr _ _ _ h (aX.head o hs _ hm);rw[o.irr]at this;cases this
  ·rename_i h;split
   ·rename_i h2;rw[ih (aX.tail o hs)];refine⟨fun hm=>Qf _ hm,fun hm=>?_⟩;rcases Pz.1 hm with e |hm
    ·injection e with e1 _;rw[e1,o.irr]at h2;cases h2
    ·exact hm
   ·rename_i h2;have e:k=a:=o.tri _ _ (by simpa using h) (by simpa using h2);subst e;refine⟨fun e=>by injection e with e;rw[e];simp,fun hm=>?_⟩;rcases Pz.1 hm with e |hm
    ·injection e with _ e2;rw[e2]
    ·have:=aX.head o hs _ hm;rw[o.irr]at this;cases this
theorem bQ{L:List (K×V)}(hs:aX o L){k:K}:ag o L k=none↔∀v,(k,v)∉L:=by
 refine⟨fun h v hm=>?_,fun h=>?_⟩
 ·rw[(ax o hs).2 hm]at h;cases h
 ·rcases hg:ag o L k with _ |v
  ·rfl
  ·exact absurd ((ax o hs).1 hg) (h v)
theorem qw{L:List (K×V)}:∀{L':List (K×V)},aX o L→aX o L'→(∀k v,(k,v)∈L↔(k,v)∈L')→L=L':=by
 induction L with
 |nil=>
  intro L' _ _ h;cases L' with
  |nil=>rfl
  |cons y r=>have:=(h y.1 y.2).2 (by simp);simp at this
 |cons x l ih=>
  intro L' hs hs' h;cases L' with
  |nil=>have:=(h x.1 x.2).1 (by simp);simp at this
  |cons y r=>
   have e:x=y:=by
    rcases Pz.1 ((h x.1 x.2).1 (by simp))with e |hm
    ·exact e
    ·rcases Pz.1 ((h y.1 y.2).2 (by simp))with e |hm2
     ·exact e.symm
     ·have h1:=aX.head o hs' _ hm;have h2:=aX.head o hs _ hm2;have:=o.asym h1;rw[h2]at this;cases this
   subst e;rw[ih (aX.tail o hs) (aX.tail o hs') fun k v=>?_];have hh:=h k v;refine⟨fun hm=>?_,fun hm=>?_⟩
   ·rcases Pz.1 (hh.1 (Qf _ hm))with e |hm'
    ·have:=aX.head o hs _ hm;rw[←e,o.irr]at this;cases this
    ·exact hm'
   ·rcases Pz.1 (hh.2 (Qf _ hm))with e |hm'
    ·have:=aX.head o hs' _ hm;rw[←e,o.irr]at this;cases this
    ·exact hm'
theorem ky{L L':List (K×V)}(hs:aX o L)(hs':aX o L')(h:∀k,ag o L k=ag o L' k):L=L':=
 qw o hs hs' fun k v=>by rw[←ax o hs,←ax o hs',h]
theorem lY{L:List (K×V)}{k:K}{v:V}:∀{y:K×V},y∈ay o L k v→y=(k,v)∨y∈L:=by
 induction L with
 |nil=>intro y h;simpa[ay]using h
 |cons z r ih=>
  obtain⟨a,x⟩:=z;intro y h;simp only[ay]at h;split at h
  ·rcases Pz.1 h with e |h
   ·exact .inl e
   ·exact .inr h
  ·split at h
   ·rcases Pz.1 h with e |h
    ·exact .inr (by simp[e])
    ·rcases ih h with e |h
     ·exact .inl e
     ·exact .inr (Qf _ h)
   ·rcases Pz.1 h with e |h
    ·exact .inl e
    ·exact .inr (Qf _ h)
theorem dR{L:List (K×V)}(hs:aX o L)(k:K)(v:V):aX o (ay o L k v):=by
 induction L with
 |nil=>exact List.pairwise_singleton _ _
 |cons z r ih=>
  obtain⟨a,x⟩:=z;simp only[ay];split
  ·rename_i h;refine QL.2 ⟨fun y hy=>?_,hs⟩;rcases Pz.1 hy with e |hy
   ·rw[e];exact h
   ·exact o.tr _ _ _ h (aX.head o hs _ hy)
  ·rename_i h;split
   ·rename_i h2;refine QL.2 ⟨fun y hy=>?_,ih (aX.tail o hs)⟩;rcases lY o hy with e |hy
    ·rw[e];exact h2
    ·exact aX.head o hs _ hy
   ·rename_i h2;have e:k=a:=o.tri _ _ (by simpa using h) (by simpa using h2);subst e;exact QL.2 ⟨fun y hy=>aX.head o hs _ hy,aX.tail o hs⟩
theorem bm{L:List (K×V)}(hs:aX o L)(k:K)(v:V):ag o (ay o L k v) k=some v∧∀k',k'≠k→ag o (ay o L k v) k'=ag o L k':=by
 induction L with
 |nil=>
  refine⟨by simp[ay,ag,o.irr],fun k' h=>?_⟩;simp only[ay,ag];split
  ·rfl
  ·rename_i h1;split
   ·rfl
   ·rename_i h2;exact absurd (o.tri _ _ (by simpa using h1) (by simpa using h2)) h
 |cons z r ih=>
  obtain⟨a,x⟩:=z;obtain⟨i1,i2⟩:=ih (aX.tail o hs);simp only[ay];by_cases h:o.lt k a=true
  ·rw[Pj h];refine⟨by simp[ag,o.irr],fun k' hk=>?_⟩
   conv=>lhs;unfold ag
   by_cases h1:o.lt k' k=true
   ·rw[Pj h1];simp only[ag];rw[Pj (o.tr _ _ _ h1 h)]
   ·rw[Pm h1];by_cases h2:o.lt k k'=true
    ·rw[Pj h2]
    ·exact absurd (o.tri _ _ (by simpa using h1) (by simpa using h2)) hk
  ·rw[Pm h];by_cases h2:o.lt a k=true
   ·rw[Pj h2];exact OS
   ·rw[Pm h2];have e:k=a:=o.tri _ _ (by simpa using h) (by simpa using h2);subst e;refine⟨by simp[ag,o.irr],fun k' hk=>?_⟩;simp only[ag];by_cases h3:o.lt k' k=true
    ·rw[Pj h3,Pj h3]
    ·rw[Pm h3,Pm h3];by_cases h4:o.lt k k'=true
     ·rw[Pj h4,Pj h4]
     ·exact absurd (o.tri _ _ (by simpa using h3) (by simpa using h4)) hk
theorem lF(L:List (K×V))(k:K):(aK o L k).Sublist L:=by
 induction L with
 |nil=>exact List.Sublist.refl _
 |cons z r ih=>
  obtain⟨a,x⟩:=z;simp only[aK];split
  ·exact List.Sublist.refl _
  ·split
   ·exact ih.cons_cons _
   ·exact List.sublist_cons_self _ _
theorem lG{L:List (K×V)}(hs:aX o L)(k:K):aX o (aK o L k):=hs.sublist (lF o L k)
theorem dC{L:List (K×V)}(hs:aX o L)(k:K):ag o (aK o L k) k=none∧∀k',k'≠k→ag o (aK o L k) k'=ag o L k':=by
 induction L with
 |nil=>exact⟨rfl,fun _ _=>rfl⟩
 |cons z r ih=>
  obtain⟨a,x⟩:=z;obtain⟨i1,i2⟩:=ih (aX.tail o hs);simp only[aK];by_cases h:o.lt k a=true
  ·rw[Pj h];exact⟨by simp only[ag];rw[Pj h],fun _ _=>rfl⟩
  ·rw[Pm h];by_cases h2:o.lt a k=true
   ·rw[Pj h2];exact OS
   ·rw[Pm h2];have e:k=a:=o.tri _ _ (by simpa using h) (by simpa using h2);subst e;refine⟨ut o fun y hy=>aX.head o hs y hy,fun k' hk=>?_⟩
    conv=>rhs;unfold ag
    by_cases h3:o.lt k' k=true
    ·rw[Pj h3];exact ut o fun y hy=>o.tr _ _ _ h3 (aX.head o hs y hy)
    ·rw[Pm h3];by_cases h4:o.lt k k'=true
     ·rw[Pj h4]
     ·exact absurd (o.tri _ _ (by simpa using h3) (by simpa using h4)) hk
theorem dO{A B:List (K×V)}{a:K}{x:V}(hs:aX o (A++(a,x)::B)):(∀y∈A,o.lt y.1 a=true)∧(∀y∈B,o.lt a y.1=true)∧aX o A∧aX o B:=by
 obtain⟨h1,h2,h3⟩:=(Jk o).1 hs;exact⟨fun y hy=>h3 y hy (a,x) (by simp),aX.head o h2,h1,aX.tail o h2⟩
theorem jl{A B:List (K×V)}{a k:K}{x:V}(hB:o.lt k a=true):ag o (A++(a,x)::B) k=ag o A k:=by
 induction A with
 |nil=>simp only[PQ,ag];rw[Pj hB]
 |cons y r ih=>
  obtain⟨b,z⟩:=y;simp only[PN,ag,ih]
theorem gD{A B:List (K×V)}{a k:K}{x:V}(hA:∀y∈A,o.lt y.1 a=true)(hk:o.lt a k=true):ag o (A++(a,x)::B) k=ag o B k:=by
 induction A with
 |nil=>
  simp only[PQ,ag];exact O5
 |cons y r ih=>
  obtain⟨b,z⟩:=y;have h1:o.lt b k=true:=o.tr _ _ _ (hA (b,z) (by simp)) hk;exact OC
theorem mc{A B:List (K×V)}{a:K}{x:V}(hA:∀y∈A,o.lt y.1 a=true):ag o (A++(a,x)::B) a=some x:=by
 induction A with
 |nil=>simp[ag,o.irr]
 |cons y r ih=>
  obtain⟨b,z⟩:=y;have h1:o.lt b a=true:=hA (b,z) (by simp);exact OC
theorem GL{A B:List (K×V)}{a k:K}{x v:V}(hk:o.lt k a=true):ay o (A++(a,x)::B) k v=ay o A k v++(a,x)::B:=by
 induction A with
 |nil=>simp only[PQ,ay];rw[Pj hk];rfl
 |cons y r ih=>
  obtain⟨b,z⟩:=y;simp only[PN,ay,ih];split
  ·rfl
  ·split<;>rfl
theorem Ek{A B:List (K×V)}{a k:K}{x v:V}(hA:∀y∈A,o.lt y.1 a=true)(hk:o.lt a k=true):ay o (A++(a,x)::B) k v=A++(a,x)::ay o B k v:=by
 induction A with
 |nil=>
  simp only[PQ,ay];exact O5
 |cons y r ih=>
  obtain⟨b,z⟩:=y;have h1:o.lt b k=true:=o.tr _ _ _ (hA (b,z) (by simp)) hk;simp only[PN,ay];exact NV
theorem Cz{A B:List (K×V)}{a:K}{x v:V}(hA:∀y∈A,o.lt y.1 a=true):ay o (A++(a,x)::B) a v=A++(a,v)::B:=by
 induction A with
 |nil=>simp[ay,o.irr]
 |cons y r ih=>
  obtain⟨b,z⟩:=y;have h1:o.lt b a=true:=hA (b,z) (by simp);simp only[PN,ay];exact NV
theorem Ic{A B:List (K×V)}{a k:K}{x:V}(hk:o.lt k a=true):aK o (A++(a,x)::B) k=aK o A k++(a,x)::B:=by
 induction A with
 |nil=>simp only[PQ,aK];rw[Pj hk]
 |cons y r ih=>
  obtain⟨b,z⟩:=y;simp only[PN,aK,ih];split
  ·rfl
  ·split<;>rfl
theorem EN{A B:List (K×V)}{a k:K}{x:V}(hA:∀y∈A,o.lt y.1 a=true)(hk:o.lt a k=true):aK o (A++(a,x)::B) k=A++(a,x)::aK o B k:=by
 induction A with
 |nil=>
  simp only[PQ,aK];exact O5
 |cons y r ih=>
  obtain⟨b,z⟩:=y;have h1:o.lt b k=true:=o.tr _ _ _ (hA (b,z) (by simp)) hk;simp only[PN,aK];exact NV
theorem CP{A B:List (K×V)}{a:K}{x:V}(hA:∀y∈A,o.lt y.1 a=true):aK o (A++(a,x)::B) a=A++B:=by
 induction A with
 |nil=>simp[aK,o.irr]
 |cons y r ih=>
  obtain⟨b,z⟩:=y;have h1:o.lt b a=true:=hA (b,z) (by simp);simp only[PN,aK];exact NV
theorem cM{L:List (K×V)}(hs:aX o L)(k:K)(v:V):(ay o L k v).length=L.length+(if(ag o L k).isSome then 0 else 1):=by
 induction L with
 |nil=>simp[ay,ag]
 |cons z r ih=>
  obtain⟨a,x⟩:=z;simp only[ay,ag];split
  ·simp
  ·split
   ·simp only[PC,ih (aX.tail o hs)];omega
   ·simp
theorem yK{L:List (K×V)}(hs:aX o L)(k:K):(aK o L k).length=L.length - (if(ag o L k).isSome then 1 else 0):=by
 induction L with
 |nil=>simp[aK,ag]
 |cons z r ih=>
  obtain⟨a,x⟩:=z;simp only[aK,ag];split
  ·simp
  ·split
   ·simp only[PC,ih (aX.tail o hs)];split
    ·rename_i h;have:0<r.length:=by
      cases r with
      |nil=>simp[ag]at h
      |cons _ _=>simp
     omega
    ·rfl
   ·simp
end
inductive AT(K V:Type) where
 |nil:AT K V
 |node (b:Nat) (l:AT K V) (k:K) (v:V) (r:AT K V):AT K V
section
variable{K V:Type}
def AT.toL:AT K V→List (K×V)
 | .nil=>[]
 | .node _ l k v r=>l.toL++(k,v)::r.toL
def AT.hgt:AT K V→Nat
 | .nil=>0
 | .node _ l _ _ r=>1+max l.hgt r.hgt
def AT.blocks:AT K V→List Nat
 | .nil=>[]
 | .node b l _ _ r=>b::(l.blocks++r.blocks)
theorem AT.hgt_le(T:AT K V):T.hgt≤T.toL.length:=by
 induction T with
 |nil=>exact Po _
 |node b l k v r ih1 ih2=>
  simp only[hgt,toL,Pu,PC];omega
end
end AvlP
namespace BigP
def fE:Nat→Nat→List UInt8
 |0,_=>[]
 |n+1,u=>fE n (u / 256)++[UInt8.ofNat (u % 256)]
def kD(acc:Nat)(l:List UInt8):Nat:=l.foldl (fun u c=>u*256+c.toNat) acc
theorem dt(n:Nat):∀u,(fE n u).length=n:=by
 induction n with
 |zero=>intro u;rfl
 |succ n ih=>intro u;simp[fE,ih]
theorem mU(acc:Nat)(a b:List UInt8):kD acc (a++b)=kD (kD acc a) b:=by simp[kD,RO]
theorem JJ(l:List UInt8):∀acc,kD acc l=acc*256 ^ l.length+kD 0 l:=by
 induction l with
 |nil=>intro acc;simp[kD]
 |cons c r ih=>
  intro acc;show kD (acc*256+c.toNat) r=acc*256 ^ (r.length+1)+kD (0*256+c.toNat) r;rw[ih (acc*256+c.toNat),ih (0*256+c.toNat),Ro,Sx,Sx,RQ (256 ^ r.length) 256,←Nat.mul_assoc];omega
theorem Gh(l:List UInt8):kD 0 l<256 ^ l.length:=by
 induction l with
 |nil=>simp[kD]
 |cons c r ih=>
  have e:kD 0 (c::r)=kD (0*256+c.toNat) r:=rfl;rw[e,JJ,PC,Ro];have:=c.toNat_lt;have h:(0*256+c.toNat+1)*256 ^ r.length≤256*256 ^ r.length:=Tq _ (by omega);rw[RQ (256 ^ r.length) 256];rw[Sx]at h;omega
theorem JI(n:Nat):∀u acc,kD acc (fE n u)=acc*256 ^ n+u % 256 ^ n:=by
 induction n with
 |zero=>intro u acc;simp[fE,kD,Nat.mod_one]
 |succ n ih=>
  intro u acc;rw[fE,mU,ih];show(acc*256 ^ n+u / 256 % 256 ^ n)*256+(UInt8.ofNat (u % 256)).toNat=_;rw[Rz (show u % 256<256 by omega),Ro,RQ (256 ^ n) 256,Nat.mod_mul,Sx,RQ 256 (256 ^ n),Nat.mul_assoc];rw[RQ 256 (u / 256 % 256 ^ n)];omega
theorem mT(n u:Nat)(h:u<256 ^ n):kD 0 (fE n u)=u:=by rw[JI,Tr h];omega
theorem Kn(l:List UInt8):fE l.length (kD 0 l)=l:=by
 suffices h:∀n (l:List UInt8),l.length=n→fE n (kD 0 l)=l from h _ l rfl
 intro n;induction n with
 |zero=>intro l h;have:=QW h;subst this;rfl
 |succ n ih=>
  intro l h;have hne:l≠[]:=by intro e;subst e;simp at h
  have hl:=List.dropLast_concat_getLast hne;generalize l.dropLast=a at hl;generalize l.getLast hne=c at hl;subst hl;have ha:a.length=n:=by simpa using h
  have e:kD 0 (a++[c])=kD 0 a*256+c.toNat:=by rw[mU];rfl
  have hc:=c.toNat_lt;rw[e,fE,show(kD 0 a*256+c.toNat) / 256=kD 0 a by omega,show(kD 0 a*256+c.toNat) % 256=c.toNat by omega,ih a ha];rw[show UInt8.ofNat c.toNat=c from UInt8.ofNat_toNat]
theorem sE(n:Nat)(l:List UInt8)(h:l.length=n):fE n (kD 0 l)=l:=by subst h;exact Kn l
theorem Iv(less:List UInt8→List UInt8→Bool)
  (hc:∀x y a b,less (x::a) (y::b)=(decide (x.toNat<y.toNat)||(x==y&&less a b)))(n:Nat):
  ∀u v s t,u<256 ^ n→v<256 ^ n→less (fE n u++s) (fE n v++t)=(decide (u<v)||(decide (u=v)&&less s t)):=by
 have same:∀a s t,less (a++s) (a++t)=less s t:=by
  intro a;induction a with
  |nil=>intro s t;rfl
  |cons x a ih=>intro s t;rw[PN,PN,hc,ih];simp
 induction n with
 |zero=>intro u v s t hu hv;simp at hu hv;subst hu hv;simp[fE]
 |succ n ih=>
  intro u v s t hu hv;rw[fE,fE,Qg,Qg,ih _ _ _ _ (by rw[Ro]at hu;exact Sy (by omega)) (by rw[Ro]at hv;exact Sy (by omega))];simp only[PN,PQ,hc];rw[Rz (show u % 256<256 by omega),Rz (show v % 256<256 by omega)];by_cases h1:u / 256<v / 256
  ·have:u<v:=by omega
   simp[h1,this]
  ·by_cases h2:u / 256=v / 256
   ·by_cases h3:u % 256=v % 256
    ·have:u=v:=by omega
     subst this;simp
    ·have hne:(UInt8.ofNat (u % 256)==UInt8.ofNat (v % 256))=false:=by
      rw[Qz];intro he;have:=congrArg UInt8.toNat he;rw[Rz (show u % 256<256 by omega),Rz (show v % 256<256 by omega)]at this;exact h3 this
     have h4:(u % 256<v % 256)=(u<v):=by apply propext;omega
     have h5:¬u=v:=by rintro rfl;exact h3 rfl
     simp[h2,hne,h4,h5]
   ·have h5:¬u=v:=by rintro rfl;exact h2 rfl
    have h6:¬u<v:=by omega
    simp[h1,h2,h5,h6]
end BigP
namespace VariP
def oe:Nat→Nat→List UInt8
 |0,_=>[]
 |n+1,u=>if u<128 then[UInt8.ofNat u]else UInt8.ofNat (u % 128+128)::oe n (u / 128)
def jE(u:Nat):List UInt8:=oe 10 u
def wZ:Nat→Nat→Nat→List UInt8→Nat×Nat×Int
 |0,_,_,_=>(0,0,2)
 |_+1,_,_,[]=>(0,0,3)
 |f+1,k,u,c::r=>
  if 128≤c.toNat then wZ f (k+1) (u+c.toNat % 128*128 ^ k) r
  else if(c.toNat=0∧0<k)∨(k=9∧1<c.toNat)then(0,0,2)
  else(u+c.toNat % 128*128 ^ k,k+1,0)
def zG(lim:Nat)(s:List UInt8):Nat×Nat×Int:=wZ lim 0 0 s
theorem wW(n:Nat)(h:n<256):(UInt8.ofNat n).toNat=n:=Rz h
theorem F4 (n : Nat) : ∀ u, (oe n u).length ≤ n := by
  induction n with
  | zero => intro u; simp [oe]
  | succ n ih => intro u; unfold oe; split
                 · simp
                 · simp only [PC]; have := ih (u / 128); omega
theorem kC(u:Nat):(jE u).length≤10:=F4 10 u
theorem tL(n:Nat):∀u,u<128 ^ n→0<n→∀m,oe (n+m) u=oe n u:=by
 induction n with
 |zero=>intro u _ h;omega
 |succ n ih=>
  intro u hu _ m;rw[show n+1+m=(n+m)+1 by omega];unfold oe;by_cases h:u<128
  ·rw[Pj h,Pj h]
  ·rw[Pm h,Pm h];have hn:0<n:=by
    rcases Nat.eq_zero_or_pos n with h0 |h0
    ·subst h0;simp at hu;omega
    ·exact h0
   rw[ih (u / 128) (by rw[Ro]at hu;exact Sy (by omega)) hn m]
theorem qS (n : Nat) : ∀ f k acc u s, u < 128 ^ n → n ≤ f → 0 < n → (0 < k → 0 < u) → (k + n ≤ 9 ∨ (k + n = 10 ∧ u < 2 * 128 ^ (9 - k))) →
    wZ f k acc (oe n u ++ s) = (acc + u * 128 ^ k, k + (oe n u).length, 0) := by
  induction n with
  | zero => intro f k acc u s _ _ h; omega
  | succ n ih =>
    intro f k acc u s hu hf _ hk h9
    obtain ⟨f, rfl⟩ : ∃ g, f = g + 1 := ⟨f - 1, by omega⟩
    unfold oe
    by_cases h : u < 128
    · rw [Pj h]
      simp only [PN, PQ, wZ]
      rw [wW u (by omega), Pm (by omega), Pm]
      · rw [Tr h]; rfl
      · rintro (⟨h1, h2⟩ | ⟨h1, h2⟩)
        · have := hk h2; omega
        · subst h1
          rcases h9 with h9 | ⟨_, h9⟩
          · omega
          · simp at h9; omega
    · rw [Pm h]
      simp only [PN, wZ]
      rw [wW _ (by omega), Pj (by omega)]
      have hn : 0 < n := by
        rcases Nat.eq_zero_or_pos n with h0 | h0
        · subst h0; simp at hu; omega
        · exact h0
      have hmod : (u % 128 + 128) % 128 = u % 128 := by omega
      rw [hmod, ih f (k + 1) _ (u / 128) s (by rw [Ro] at hu; exact Sy (by omega)) (by omega) hn (fun _ => by omega)]
      · refine Prod.ext ?_ (Prod.ext ?_ rfl)
        · simp only
          have hd := Nat.div_add_mod u 128
          calc acc + u % 128 * 128 ^ k + u / 128 * 128 ^ (k + 1) = acc + (u % 128 + 128 * (u / 128)) * 128 ^ k := by
                rw [Ro, Sx, RQ 128 (u / 128), Nat.mul_assoc, RQ 128 (128 ^ k), Nat.add_assoc]
            _ = acc + u * 128 ^ k := by rw [Tt (u % 128)]; rw [hd]
        · simp only [PC]; omega
      · rcases h9 with h9 | ⟨h9, h9'⟩
        · exact .inl (by omega)
        · refine .inr ⟨by omega, ?_⟩
          have : 9 - k = (9 - (k + 1)) + 1 := by omega
          rw [this, Ro] at h9'
          exact Sy (by omega)
theorem tz(u:Nat)(s:List UInt8)(h:u<9223372036854775808):zG 9 (jE u++s)=(u,(jE u).length,0):=by
 have e:jE u=oe 9 u:=tL 9 u (by omega) (by omega) 1;rw[e];have:=qS 9 9 0 0 u s (by omega) (by omega) (by omega) (by omega) (.inl (by omega));simpa[zG]using this
theorem zF(u:Nat)(s:List UInt8)(h:u<18446744073709551616):zG 10 (jE u++s)=(u,(jE u).length,0):=by
 have:=qS 10 10 0 0 u s (by omega) (by omega) (by omega) (by omega) (.inr ⟨by omega,by omega⟩);simpa[zG,jE]using this
def KR:Nat→Nat→List UInt8→Option Nat
 |_,0,_=>none
 |_,_+1,[]=>none
 |i,f+1,c::r=>if c.toNat<128 then some i else KR (i+1) f r
def bZ(s:List UInt8)(most:Nat):Option Nat:=KR 0 most s
def value:List UInt8→Nat
 |[]=>0
 |c::r=>value r*128+c.toNat % 128
def cI(n:Int):List UInt8:=if n<0 then[]else jE n.toNat
def sN(n:Int):Nat:=if 0≤n then(2*n).toNat else(-2*n - 1).toNat
def MU(u:Nat):Int:=if u % 2=0 then(u / 2:Nat)else -((u / 2:Nat):Int) - 1
theorem IR(n:Int):MU (sN n)=n:=by unfold MU sN;split<;>split<;>omega
theorem Fl(n:Int)(h: -9223372036854775808≤n∧n≤9223372036854775807):sN n<18446744073709551616:=by unfold sN;split<;>omega
end VariP
namespace PackP
open VariP
abbrev Bs:=List UInt8
abbrev St:=Bs×Int
def jL(s:Bs):Bs:=jE s.length++s
def Hh(b:Bool):Bs:=if b then[1]else[0]
def DJ(r:St):Int×St:=
 if r.2≠0 then(0,r)else match zG 9 r.1 with
  |(n,k,e)=>if e≠0 then(0,(r.1,e))else((n:Int),(r.1.drop k,0))
def qB(r:St):Int×St:=
 if r.2≠0 then(0,r)else match zG 10 r.1 with
  |(n,k,e)=>if e≠0 then(0,(r.1,e))else(MU n,(r.1.drop k,0))
def Cj(most:Int)(r:St):Bs×St:=
 if r.2≠0 then([],r)else match zG 9 r.1 with
  |(n,k,e)=>if e≠0 then([],(r.1,e))else if most<n then([],(r.1,12))else if(r.1.drop k).length<n then([],(r.1,3))else((r.1.drop k).take n,((r.1.drop k).drop n,0))
def KN(r:St):Bool×St:=
 if r.2≠0 then(false,r)else match r.1 with
  |[]=>(false,(r.1,3))
  |c::l=>if 1<c.toNat then(false,(r.1,2))else(c.toNat==1,(l,0))
theorem oa(n:Int)(s:Bs)(h0:0≤n)(h:n≤9223372036854775807):DJ (cI n++s,0)=(n,(s,0)):=by
 unfold DJ cI;rw[Pm (by simp),Pm (by omega)];simp only[tz n.toNat s (by omega)];simp[Int.toNat_of_nonneg h0]
theorem pR(n:Int)(s:Bs)(h: -9223372036854775808≤n∧n≤9223372036854775807):qB (jE (sN n)++s,0)=(n,(s,0)):=by
 unfold qB;rw[Pm (by simp)];simp only[zF (sN n) s (Fl n h)];simp[IR]
theorem tJ(m:Int)(t s:Bs)(hm:(t.length:Int)≤m)(h:t.length<9223372036854775808):Cj m (jL t++s,0)=(t,(s,0)):=by
 unfold Cj jL;rw[Pm (by simp),Qg];simp only[tz t.length (t++s) h];rw[Pm (by simp),Pm (by omega),Pm (by simp)];simp
theorem DK(b:Bool)(s:Bs):KN (Hh b++s,0)=(b,(s,0)):=by cases b<;>rfl
structure Fb where
 kind:Int
 n:Int
 s:Bs
def Fb.zero:Fb:=⟨0,0,[]⟩
def Lj(p:Fb):Bs:=
 if p.kind=1 then cI p.n else if p.kind=2 then jE (sN p.n)else if p.kind=3 then jL p.s else if p.kind=4 then Hh (p.n==1)else[]
def cr(l:List Fb):Bs:=(l.map Lj).flatten
end PackP
namespace CodeP
open VariP PackP
structure Sp where
 tr:Int
 id:Int
 pa:Int
 rv:Int
 sv:Bs
 op:Bs
 st:Int
 du:Int
 gn:Bool
deriving DecidableEq
def Sp.zero:Sp:=⟨0,0,0,0,[],[],0,0,false⟩
def aB(n:Int):Prop:= -9223372036854775808≤n∧n≤9223372036854775807
def Sp.Ok(x:Sp):Prop:=aB x.tr∧aB x.id∧aB x.pa∧aB x.rv∧aB x.st∧aB x.du
def gU(s:Bs):Bool:=s.all (fun c=>33≤c.toNat&&c.toNat≤126)&&1≤s.length&&s.length≤24
def jh(x:Sp):Bool:=1≤x.tr&&1≤x.id&&0≤x.pa&&0≤x.rv&&gU x.sv&&gU x.op&& -4611686018427387904≤x.st&&x.st≤4611686018427387903
def may(x:Sp):Int:=if jh x then 0 else 1
def enc(x:Sp):Bs:=cI x.tr++(cI x.id++(cI x.pa++(cI x.rv++(jL x.sv++(jL x.op++(jE (sN x.st)++(jE (sN x.du)++Hh x.gn)))))))
def mo(x:Sp):Bs×Int:=if jh x then(enc x,0)else([],1)
def Nn(r:St):Sp×St:=
 let a:=DJ r
 let b:=DJ a.2
 let c:=DJ b.2
 let d:=DJ c.2
 let e:=Cj 24 d.2
 let f:=Cj 24 e.2
 let g:=qB f.2
 let h:=qB g.2
 let i:=KN h.2
 (if i.2.2≠0 then Sp.zero else⟨a.1,b.1,c.1,d.1,e.1,f.1,g.1,h.1,i.1⟩,i.2)
def MT(x:Sp):Prop:=0≤x.tr∧0≤x.id∧0≤x.pa∧0≤x.rv∧x.sv.length≤24∧x.op.length≤24∧x.Ok
theorem Ct(x:Sp)(hx:x.Ok)(h:jh x=true):MT x:=by
 simp only[jh,gU,UU,P7]at h;obtain⟨⟨⟨⟨⟨⟨⟨h1,h2⟩,h3⟩,h4⟩,h5⟩,h6⟩,_⟩,_⟩:=h;exact⟨by omega,by omega,h3,h4,h5.2,h6.2,hx⟩
theorem Ck(x:Sp)(h:MT x)(s:Bs):Nn (enc x++s,0)=(x,(s,0)):=by
 obtain⟨h1,h2,h3,h4,h5,h6,⟨k1,k2,k3,k4,k5,k6⟩⟩:=h;unfold Nn enc;simp only[Qg];simp only[oa x.tr _ h1 k1.2,oa x.id _ h2 k2.2,oa x.pa _ h3 k3.2,oa x.rv _ h4 k4.2,tJ 24 x.sv _ (by omega) (by omega),tJ 24 x.op _ (by omega) (by omega),
  pR x.st _ k5,pR x.du _ k6,DK]
 rw[Pm (by simp)]
theorem J5(x y:Sp)(hx:MT x)(hy:MT y)(h:enc x=enc y):x=y:=by
 have e1:=Ck x hx [];have e2:=Ck y hy [];rw[h,e2]at e1;exact(congrArg Prod.fst e1).symm
end CodeP
namespace PlcP
section
variable(par:Int→Option Int)
def kY:Nat→Int→Option Int
 |0,i=>some i
 |n+1,i=>(par i).bind (kY n)
def gL(i:Int)(p:Int×Int×Int):Prop:=
 (∃n e t,kY par n i=some t∧par t=some e∧par e=none∧p=(if e=0 then 1 else 2,(n:Int)+1,t))∨((∀n,kY par n i≠none)∧p=(3,0,0))
def fx(up:Int×Int×Int):Int×Int×Int:=(up.1,if up.1=3 then 0 else up.2.1+1,up.2.2)
variable{par}
theorem dV(n:Nat)(i:Int):kY par (n+1) i=(par i).bind (kY par n):=rfl
theorem mg(m:Nat):∀(n:Nat) (i:Int),kY par (n+m) i=(kY par n i).bind (kY par m):=by
 intro n;induction n with
 |zero=>intro i;simp[kY]
 |succ n ih=>
  intro i;rw[show n+1+m=(n+m)+1 by omega,dV,dV];cases par i with
  |none=>rfl
  |some e=>exact ih e
theorem CX{n:Nat}{i t e:Int}(h1:kY par n i=some t)(h2:par t=some e):kY par (n+1) i=some e:=by
 rw[mg 1 n i,h1];simp[kY,h2]
theorem lK{n m:Nat}{i t e:Int}(h1:kY par n i=some t)(h2:par t=some e)(h3:par e=none)(hm:n+2≤m):kY par m i=none:=by
 obtain⟨d,rfl⟩:∃d,m=(n+1)+(d+1):=⟨m - (n+2),by omega⟩;rw[mg,CX h1 h2];simp[kY,h3]
theorem lJ{n m:Nat}{i t e:Int}(h1:kY par n i=some t)(h2:par t=some e)(hm:m≤n+1):kY par m i≠none:=by
 intro h0;obtain⟨d,hd⟩:∃d,n+1=m+d:=⟨n+1 - m,by omega⟩;have:=CX h1 h2;rw[hd,mg,h0]at this;cases this
theorem pY{i:Int}{p q:Int×Int×Int}(hp:gL par i p)(hq:gL par i q):p=q:=by
 rcases hp with⟨n,e,t,h1,h2,h3,rfl⟩ |⟨h1,rfl⟩
 ·rcases hq with⟨m,f,u,k1,k2,k3,rfl⟩ |⟨k1,rfl⟩
  ·have hnm:n=m:=by
    rcases Nat.lt_trichotomy n m with h |h |h
    ·exact absurd (lK h1 h2 h3 (m:=m+1) (by omega)) (lJ k1 k2 (Po _))
    ·exact h
    ·exact absurd (lK k1 k2 k3 (m:=n+1) (by omega)) (lJ h1 h2 (Po _))
   subst hnm;have:t=u:=UC (h1.symm.trans k1);subst this;have:e=f:=UC (h2.symm.trans k2);subst this;rfl
  ·exact absurd (lK h1 h2 h3 (Po _)) (k1 _)
 ·rcases hq with⟨m,f,u,k1,k2,k3,rfl⟩ |⟨k1,rfl⟩
  ·exact absurd (lK k1 k2 k3 (Po _)) (h1 _)
  ·rfl
theorem kI{i e:Int}{up:Int×Int×Int}(h:par i=some e)(hu:gL par e up):gL par i (fx up):=by
 rcases hu with⟨n,f,t,h1,h2,h3,rfl⟩ |⟨h1,rfl⟩
 ·refine .inl ⟨n+1,f,t,by rw[dV,h];exact h1,h2,h3,?_⟩;unfold fx;split<;>simp
 ·refine .inr ⟨fun n=>?_,rfl⟩;cases n with
  |zero=>simp[kY]
  |succ n=>rw[dV,h];exact h1 n
theorem p9{i e:Int}(h:par i=some e)(he:par e=none):gL par i (fx (if e=0 then 1 else 2,0,i)):=by
 refine .inl ⟨0,e,i,rfl,h,he,?_⟩;unfold fx;split<;>simp
def iD(par:Int→Option Int):List Int→Int→Prop
 |[],_=>True
 |[a],e=>par a=some e
 |a::b::r,e=>par a=some b∧iD par (b::r) e
theorem sy{l:List Int}{a e:Int}(h:iD par l a)(ha:par a=some e):iD par (l++[a]) e:=by
 induction l with
 |nil=>exact ha
 |cons b r ih=>
  cases r with
  |nil=>exact⟨h,ha⟩
  |cons c r=>exact⟨h.1,ih h.2⟩
theorem tv{l:List Int}{e:Int}(h:iD par l e):∀a∈l,par a≠none:=by
 induction l with
 |nil=>intro a ha;simp at ha
 |cons b r ih=>
  intro a ha;cases r with
  |nil=>
   simp at ha;subst ha;have:par a=some e:=h;simp[this]
  |cons c r=>
   rcases Pz.1 ha with rfl |ha
   ·simp[h.1]
   ·exact ih h.2 a ha
theorem Bq{l:List Int}{e:Int}(h:iD par l e):∀a∈l,∃b,par a=some b∧(b∈l∨b=e):=by
 induction l with
 |nil=>intro a ha;simp at ha
 |cons b r ih=>
  intro a ha;cases r with
  |nil=>
   simp at ha;subst ha;exact⟨e,h,.inr rfl⟩
  |cons c r=>
   rcases Pz.1 ha with rfl |ha
   ·exact⟨c,h.1,.inl (by simp)⟩
   ·obtain⟨d,h1,h2⟩:=ih h.2 a ha;exact⟨d,h1,h2.imp (fun h=>Qf _ h) id⟩
theorem pZ{l:List Int}{e:Int}(h:iD par l e)(he:e∈l):∀a∈l,gL par a (3,0,0):=by
 have key:∀n a,a∈l→∃b∈l,kY par n a=some b:=by
  intro n;induction n with
  |zero=>intro a ha;exact⟨a,ha,rfl⟩
  |succ n ih=>
   intro a ha;obtain⟨b,h1,h2⟩:=Bq h a ha;have hb:b∈l:=h2.elim id (fun e'=>e'▸he);obtain⟨c,hc,h3⟩:=ih b hb;exact⟨c,hc,by rw[dV,h1];exact h3⟩
 intro a ha;refine .inr ⟨fun n=>?_,rfl⟩;obtain⟨b,_,hb⟩:=key n a ha;simp[hb]
theorem GK{par':Int→Option Int}{D:Int→Prop}(hD:∀i e,par i=some e→D e→D i)(hs:∀i,¬D i→par' i=par i){i:Int}{p:Int×Int×Int}(hi:¬D i)(h:gL par i p):gL par' i p:=by
 have key:∀n j,¬D j→kY par' n j=kY par n j∧∀t,kY par n j=some t→¬D t:=by
  intro n;induction n with
  |zero=>intro j hj;exact⟨rfl,fun t ht=>by simp[kY]at ht;exact ht▸hj⟩
  |succ n ih=>
   intro j hj;rw[dV,dV,hs j hj];cases hp:par j with
   |none=>exact⟨rfl,fun t ht=>by cases ht⟩
   |some e=>exact ih e fun he=>hj (hD j e hp he)
 rcases h with⟨n,e,t,h1,h2,h3,rfl⟩ |⟨h1,rfl⟩
 ·obtain⟨k1,k2⟩:=key n i hi;have ht:=k2 t h1;have he:¬D e:=fun he=>ht (hD t e h2 he);exact .inl ⟨n,e,t,k1.trans h1,(hs t ht).trans h2,(hs e he).trans h3,rfl⟩
 ·exact .inr ⟨fun n=>by rw[(key n i hi).1];exact h1 n,rfl⟩
theorem oC{i:Int}{p:Int×Int×Int}(h:gL par i p):par i≠none:=by
 rcases h with⟨n,e,t,h1,h2,_,_⟩ |⟨h1,_⟩
 ·cases n with
  |zero=>
   simp[kY]at h1;subst h1;simp[h2]
  |succ n=>
   intro h0;rw[dV,h0]at h1;cases h1
 ·intro h0;have:=h1 1;rw[dV,h0]at this;exact this rfl
end
end PlcP
namespace BucketP
def ix(d:Nat):Nat:=if d=0 then 0 else d.log2+1
theorem Gs(d:Nat):d<2 ^ ix d:=by
 unfold ix;split
 ·subst_vars;decide
 ·exact Nat.lt_log2_self
theorem Kl(d:Nat)(h:d≠0):2 ^ (ix d - 1)≤d:=by
 unfold ix;rw[Pm h];exact Nat.log2_self_le h
theorem rL(d k:Nat)(h:d<2 ^ k):ix d≤k:=by
 rcases Nat.lt_or_ge k (ix d)with hk |hk
 ·exfalso;have hd:d≠0:=by intro e;subst e;simp[ix]at hk
  have h1:=Kl d hd;have:2 ^ k≤2 ^ (ix d - 1):=VS (by omega) (by omega);omega
 ·exact hk
theorem te(d k:Nat)(h:ix d≤k):d<2 ^ k:=Ut (Gs d) (VS (by omega) h)
theorem qW(d k:Nat):d / 2 ^ k=0↔ix d≤k:=by
 rw[Nat.div_eq_zero_iff_lt (Nat.two_pow_pos k)];exact⟨rL d k,te d k⟩
def low(k:Nat):Nat:=if k=0 then 0 else 2 ^ (k - 1)
def high(k:Nat):Nat:=min (2 ^ k - 1) (2 ^ 62)
theorem EY(d:Nat)(h:d≤2 ^ 62):ix d≤63:=by
 refine rL d 63 ?_;have:(2:Nat) ^ 62<2 ^ 63:=by decide
 omega
theorem xg(d k:Nat):((d:Int) / 2 ^ k==0)=decide (ix d≤k):=by
 have e:((d:Int) / 2 ^ k)=((d / 2 ^ k:Nat):Int):=by
  rw[Int.natCast_ediv,Int.natCast_pow];rfl
 rw[e];have:=qW d k;by_cases h:d / 2 ^ k=0
 ·rw[h];simp[this.1 h]
 ·have h2:¬ix d≤k:=fun hh=>h (this.2 hh);rw[UM h2,Qz];omega
end BucketP
namespace RankP
open VariP PackP CodeP Go.Lib
theorem Ii(a:Bs):compareBytes a a=0:=by
 induction a with
 |nil=>rfl
 |cons x a ih=>unfold compareBytes;rw[Pm (UInt8.lt_irrefl x),Pm (UInt8.lt_irrefl x)];exact ih
theorem Ij(a:Bs):∀b,compareBytes b a= - compareBytes a b:=by
 induction a with
 |nil=>intro b;cases b<;>simp[compareBytes]
 |cons x a ih=>
  intro b;cases b with
  |nil=>simp[compareBytes]
  |cons y b=>
   unfold compareBytes;by_cases h:x<y
   ·rw[Pm (UInt8.lt_asymm h),Pj h,Pj h];rfl
   ·by_cases h2:y<x
    ·rw[Pj h2,Pm h,Pj h2]
    ·rw[Pm h2,Pm h,Pm h,Pm h2];exact ih b
theorem Ih(a:Bs):∀b,compareBytes a b=0→a=b:=by
 induction a with
 |nil=>intro b;cases b<;>simp[compareBytes]
 |cons x a ih=>
  intro b;cases b with
  |nil=>simp[compareBytes]
  |cons y b=>
   unfold compareBytes;split
   ·simp
   split
   ·simp
   rename_i h1 h2;intro h;have:x=y:=VU (Va.1 h2) (Va.1 h1);rw[this,ih b h]
theorem ES(a:Bs):∀b c,0≤compareBytes a b→0≤compareBytes b c→0≤compareBytes a c∧(0<compareBytes a b∨0<compareBytes b c→0<compareBytes a c):=by
 induction a with
 |nil=>
  intro b c h1 h2;cases b with
  |nil=>exact⟨h2,fun h=>h.elim (fun h=>absurd h (by simp[compareBytes])) id⟩
  |cons y b=>simp[compareBytes]at h1
 |cons x a ih=>
  intro b c h1 h2;cases b with
  |nil=>
   cases c with
   |nil=>simp[compareBytes]
   |cons z c=>simp[compareBytes]at h2
  |cons y b=>
   cases c with
   |nil=>simp[compareBytes]
   |cons z c=>
    unfold compareBytes at h1 h2⊢;by_cases q1:x<y
    ·rw[Pj q1]at h1;simp at h1
    by_cases q2:y<z
    ·rw[Pj q2]at h2;simp at h2
    rw[Pm q1]at h1;rw[Pm q2]at h2;have l1:=Va.1 q1;have l2:=Va.1 q2;have q3:¬x<z:=Va.2 (UInt8.le_trans l2 l1);rw[Pm q3,Pm q1,Pm q2];by_cases p1:y<x
    ·have p3:z<x:=UInt8.lt_of_le_of_lt l2 p1;rw[Pj p3];simp
    ·by_cases p2:z<y
     ·have p3:z<x:=UInt8.lt_of_lt_of_le p2 l1;rw[Pj p3];simp
     ·rw[Pm p1]at h1⊢;rw[Pm p2]at h2⊢;have e1:x=y:=VU (Va.1 p1) l1;have e2:y=z:=VU (Va.1 p2) l2;subst e1;subst e2;rw[Pm (UInt8.lt_irrefl _)];exact ih b c h1 h2
def pX(x:Sp):Sp:={x with du:=max 0 (min x.du 4611686018427387904)}
def LA(x:Sp):Bs:=(mo (pX x)).1
def jd(x y:Sp):Int:=if x.rv<y.rv then -1 else if y.rv<x.rv then 1 else compareBytes (LA x) (LA y)
def eJ(x y:Sp):Bool:=decide (0<jd x y)
theorem F9(x:Sp):jd x x=0:=by unfold jd;rw[Pm (by omega),Pm (by omega)];exact Ii _
theorem lz(x y:Sp):jd y x= - jd x y:=by
 unfold jd;by_cases h:x.rv<y.rv
 ·rw[Pm (show ¬y.rv<x.rv by omega),Pj h,Pj h];rfl
 ·by_cases h2:y.rv<x.rv
  ·rw[Pj h2,Pm h,Pj h2]
  ·rw[Pm h2,Pm h,Pm h,Pm h2];exact Ij _ _
theorem tR(x y z:Sp)(h1:0≤jd x y)(h2:0≤jd y z):0≤jd x z∧(0<jd x y∨0<jd y z→0<jd x z):=by
 unfold jd at h1 h2⊢;by_cases q1:x.rv<y.rv
 ·rw[Pj q1]at h1;omega
 by_cases q2:y.rv<z.rv
 ·rw[Pj q2]at h2;omega
 rw[Pm q1]at h1;rw[Pm q2]at h2;rw[Pm q1,Pm q2,Pm (show ¬x.rv<z.rv by omega)];by_cases p1:y.rv<x.rv
 ·rw[Pj (show z.rv<x.rv by omega)];omega
 ·by_cases p2:z.rv<y.rv
  ·rw[Pj (show z.rv<x.rv by omega)];omega
  ·rw[Pm p1]at h1⊢;rw[Pm p2]at h2⊢;rw[Pm (show ¬z.rv<x.rv by omega)];exact ES _ _ _ h1 h2
theorem AB(x:Sp):eJ x x=false:=by unfold eJ;rw[F9];rfl
theorem xK(x y:Sp)(h:eJ x y=true):eJ y x=false:=by
 unfold eJ at*;rw[P7]at h;rw[UP,lz];omega
theorem xJ(x y z:Sp)(h1:eJ x y=true)(h2:eJ y z=true):eJ x z=true:=by
 unfold eJ at*;rw[P7]at*;exact(tR x y z (by omega) (by omega)).2 (.inl h1)
theorem qt(x y z:Sp)(h1:eJ x y=false)(h2:eJ y z=false):eJ x z=false:=by
 unfold eJ at*;rw[UP]at*;have a1:=lz x y;have a2:=lz y z;have a3:=lz x z;have:=(tR z y x (by omega) (by omega)).1;omega
theorem ya(x:Sp)(hx:x.Ok):(pX x).Ok:=⟨hx.1,hx.2.1,hx.2.2.1,hx.2.2.2.1,hx.2.2.2.2.1,by unfold pX CodeP.aB;simp only;omega⟩
theorem jT(x:Sp):jh (pX x)=jh x:=rfl
theorem Ga(x y:Sp)(hx:x.Ok)(hy:y.Ok)(mx:jh x=true)(my:jh y=true)(h:jd x y=0):pX x=pX y:=by
 unfold jd at h;split at h
 ·simp at h
 split at h
 ·simp at h
 have hk:=Ih _ _ h;unfold LA mo at hk;rw[jT,jT,Pj mx,Pj my]at hk;exact J5 _ _ (Ct _ (ya x hx) (by rw[jT];exact mx)) (Ct _ (ya y hy) (by rw[jT];exact my)) hk
end RankP
end
section
open Go.RowKit
theorem zp:(∀(a:Act) (d:Tmp) (v:Value),a.put (some d) v={a with tmps:=a.tmps.setIfInBounds d v})∧(∀(a:Act) (v:Value),a.put none v=a)∧(∀(l:List Value) (i:Nat) (v:Value),l.toArray.setIfInBounds i v=(l.set i v).toArray)∧(∀(x v:Value) (l:List Value),(x::l).set 0 v=v::l)∧∀(x v:Value) (l:List Value) (i:Nat),(x::l).set (i+1) v=x::l.set i v:=
 ⟨fun _ _ _=>rfl,fun _ _=>rfl,fun _ _ _=>UY ..,fun _ _ _=>rfl,fun _ _ _ _=>rfl⟩
theorem zd:(∀(x:Oper) (l:List Oper) (i:Nat),(x::l).drop (i+1)=l.drop i)∧(∀l:List Oper,l.drop 0=l)∧(∀(x:Oper) (l:List Oper) (i:Nat),(x::l).take (i+1)=x::l.take i)∧∀l:List Oper,l.take 0=[]:=
 ⟨fun _ _ _=>rfl,fun _=>rfl,fun _ _ _=>rfl,fun _=>rfl⟩
theorem zq{P:Prop}(h:P:=by go_simp;with_reducible rfl):P:=h
def vz(listed:Array Bool)(k:Nat):Nat→Array Bool
 |0=>listed
 |m+1=>vz (listed.setIfInBounds k true) (k+1) m
def Js(md:Region.Mode)(ops:Array Oper):Nat→Nat→Array Bool→Bool
 |_,0,_=>true
 |k,m+1,listed=>Region.free md ops listed k&&(Region.ready md ops listed).contains k&&Js md ops (k+1) m (listed.setIfInBounds k true)
section
variable{P:Program}{md:Region.Mode}{Q:Exit→Act→World→Prop}{S S':World→Prop}
def fo(P:Program)(ops:Array Oper)(S:World→Prop)(L:Act→Prop):List Oper→Act→Prop
 |[],a=>L a
 |o::l,a=>∃v,YieldsIf P ops S o v a∧fo P ops S L l (a.put o.dst v)
theorem pL{ops:Array Oper}{L:Act→Prop}{o:Oper}{l:List Oper}{a:Act}{v:Value}(h1:Region.wanted o (yielded ops a.tmps)=true)(h2:∀w,S w→(execOp a.eval o).run P w=.ok (.value v) w)
 (h:fo P ops S L l (a.put o.dst v)):fo P ops S L (o::l) a:=⟨v,.inl ⟨h1,h2⟩,h⟩
theorem wJ{ops:Array Oper}{L:Act→Prop}{o:Oper}{l:List Oper}{a:Act}(h1:Region.wanted o (yielded ops a.tmps)=false)(h:fo P ops S L l (a.put o.dst undef)):fo P ops S L (o::l) a:=⟨undef,.inr ⟨h1,rfl⟩,h⟩
theorem ac{ops:Array Oper}{L:Act→Prop}{a:Act}(h:L a):fo P ops S L [] a:=h
theorem cA{l:List Oper}(hs:Region.noSelect l.toArray=true)(hQ:∀c (a:Act) d v w,Q (.panic c) (a.put d v) w→Q (.panic c) a w){w:World}(hS:S w)(f:Nat):
  ∀(m k:Nat) (listed:Array Bool) (a:Act),k+m≤l.length→Js md l.toArray k m listed=true→
   fo P l.toArray S (fun a'=>wpAnyH P md l.toArray Q S f (vz listed k m) a' w) ((l.drop k).take m) a→wpAnyH P md l.toArray Q S (f+m) listed a w:=by
 intro m;induction m with
 |zero=>intro k listed a _ _ h;simpa[fo,vz]using h
 |succ m ih=>
  intro k listed a hk hB h;have hkl:k<l.length:=by omega
  rw[Vr hkl,UJ]at h;obtain⟨v,hy,h⟩:=h;simp only[Js,UU]at hB;refine wpAnyH_take (i:=k) (oi:=l[k]) (v:=v) (by simp[hkl]) hs hB.1.1 hB.1.2 (fun c a w h=>hQ c a _ _ w h) hy hS ?_;exact ih (k+1) (listed.setIfInBounds k true) _ (by omega) hB.2 h
theorem aE{l:List Oper}{o:Oper}(i:Nat){f:Nat}{listed:Array Bool}{a:Act}{w:World}(hr:Region.ready md l.toArray listed=[i])(ho:(l.drop i).head?=some o)
  (h:∀K':Act→World→Prop,Shut (∀a w,S w→(S w→wpAnyH P md l.toArray Q S f (listed.setIfInBounds i true) a w)→K' a w)→if Region.wanted o (yielded l.toArray a.tmps)=true then Oper.wp P o a w K' Q else K' (a.put o.dst undef) w):wpAnyH P md l.toArray Q S (f+1) listed a w:=
 wpAnyH_ready (rs:=[i]) hr (by simp) (AllReadyH.cons (by rw[Vb]at ho;simpa using ho) h AllReadyH.nil)
theorem zh{l:List Oper}{w:World}(hS:S w)(f m k:Nat){listed:Array Bool}{a:Act}(h:fo P l.toArray S (fun a'=>wpAnyH P md l.toArray Q S f (vz listed k m) a' w) ((l.drop k).take m) a)
  (hs:Region.noSelect l.toArray=true:=by kernel_rfl)(hQ:∀c (a:Act) d v w,Q (.panic c) (a.put d v) w→Q (.panic c) a w:=by exact fun _ _ _ _ _ h=>h)(hk:k+m≤l.length:=by decide)(hB:Js md l.toArray k m listed=true:=by kernel_rfl):wpAnyH P md l.toArray Q S (f+m) listed a w:=
 cA hs hQ hS f m k listed a hk hB h
theorem zt{ops:Array Oper}{L:Act→Prop}{o:Oper}{l:List Oper}{a:Act}{v:Value}(h2:∀w,S w→(execOp a.eval o).run P w=.ok (.value v) w)(h:fo P ops S L l (a.put o.dst v))(h1:Region.wanted o (yielded ops a.tmps)=true:=by rfl):fo P ops S L (o::l) a:=pL h1 h2 h
theorem zs{ops:Array Oper}{L:Act→Prop}{o:Oper}{l:List Oper}{a:Act}(h:fo P ops S L l (a.put o.dst undef))(h1:Region.wanted o (yielded ops a.tmps)=false:=by rfl):fo P ops S L (o::l) a:=wJ h1 h
theorem zo{l:List Oper}{o:Oper}(i:Nat){f:Nat}{listed:Array Bool}{a:Act}{w:World}(ho:(l.drop i).head?=some o)(h:∀K':Act→World→Prop,Shut (∀a w,S w→(S w→wpAnyH P md l.toArray Q S f (listed.setIfInBounds i true) a w)→K' a w)→Oper.wp P o a w K' Q)
  (hr:Region.ready md l.toArray listed=[i]:=by kernel_rfl)(hw:Region.wanted o (yielded l.toArray a.tmps)=true:=by rfl):wpAnyH P md l.toArray Q S (f+1) listed a w:=
 aE i hr ho fun K' hK=>by rw[Pj hw];exact h K' hK
theorem ze {ops : Array Oper} {listed : Array Bool} {a : Act} {w : World} {f : Nat} (h : Q .normal a w) (hr : Region.ready md ops listed = [] := by kernel_rfl) : wpAnyH P md ops (NoPanic Q) S f listed a w := wpAnyH_done hr (Vz h) f
theorem zr{id:Nat}{ops:Array Oper}{a:Act}{w:World}(S:World→Prop)(hS:S w.drew)(h:S w.drew→wpAnyH P .any ops (NoPanic Q) S ops.size (Array.replicate ops.size false) a w.drew)(hm:P.follows .mixedOrders=true:=by kernel_rfl):(Code.region id ops true).wp P Q a w:=VV (wp_region_held_drew hm hS h)
theorem zU{ops:Array Oper}{L:Act→Prop}{o:Oper}{l:List Oper}{a:Act}{v:Value}(h:fo P ops S L l (a.put o.dst v))(h2:∀w,S w→(execOp a.eval o).run P w=.ok (.value v) w:=by intro W hW;go_simp;with_reducible rfl)(h1:Region.wanted o (yielded ops a.tmps)=true:=by rfl):fo P ops S L (o::l) a:=pL h1 h2 h
theorem zu{K X:Act→World→Prop}{a:Act}{w:World}(hK:Shut (∀a w,S w→(S w→X a w)→K a w))(hS:S w)(h:X a w):K a w:=hK _ _ hS fun _=>h
end
end
