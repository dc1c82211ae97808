/- For WholeGossip: contracts of functions and plain laws. -/
import Derived.Test.YtfgfbacnkpeneaaGreatDoorVBk
import Derived.Test.YtfgfbacnkpeneaaGreatDoorVAe
set_option maxRecDepth 100000
set_option maxHeartbeats 4000000
set_option linter.unusedVariables false
set_option linter.unusedSimpArgs false
namespace Go.Proofs.YtfgfbacnkpeneaaGreatDoor
open Go.Proofs.Tryz Go.ChangeShapes Go.WideShapes Go.ChangeAt Go.RowKit Go.Deep AvlP
theorem OB{P:Prop}(h:P:=by
 go_enter func79,ntmps79;go_wp2;go_ret;exact⟨rfl,rfl⟩):P:=h
section
theorem Aw(a b:ByteArray):oS.lt a b=true∨a=b∨oS.lt b a=true:=by
 cases h1:oS.lt a b with
 |true=>exact .inl rfl
 |false=>
  cases h2:oS.lt b a with
  |true=>exact .inr (.inr rfl)
  |false=>exact .inr (.inl (oS.tri a b h1 h2))
def ke(a b:ByteArray):Int:=if oS.lt a b=true then -1 else if oS.lt b a=true then 1 else 0
def qh(a b:wC):Int:=if ke a.f b.f≠0 then ke a.f b.f else ke a.t b.t
theorem CS(a b:ByteArray):ke a b<0↔oS.lt a b=true:=by
 unfold ke;by_cases h:oS.lt a b=true
 ·rw[Pj h];simp[h]
 ·rw[Pm h];by_cases h2:oS.lt b a=true
  ·rw[Pj h2];simp[h]
  ·rw[Pm h2];simp[h]
theorem CT(a b:ByteArray):ke a b=0↔a=b:=by
 unfold ke;by_cases h:oS.lt a b=true
 ·rw[Pj h];exact⟨fun e=>by omega,fun e=>by subst e;rw[oS.irr]at h;cases h⟩
 ·rw[Pm h];by_cases h2:oS.lt b a=true
  ·rw[Pj h2];exact⟨fun e=>by omega,fun e=>by subst e;rw[oS.irr]at h2;cases h2⟩
  ·rw[Pm h2];refine⟨fun _=>?_,fun _=>rfl⟩;rcases Aw a b with h3 |h3 |h3
   ·exact absurd h3 h
   ·exact h3
   ·exact absurd h3 h2
theorem yF(a b:wC):Go.Proofs.ltOf qh a b=jG a b:=by
 unfold Go.Proofs.ltOf jG qh;by_cases h:ke a.f b.f≠0
 ·rw[Pj h];have h2:a.f≠b.f:=fun e=>h ((CT _ _).2 e);simp[h2,CS]
 ·rw[Pm h];have h2:a.f=b.f:=(CT _ _).1 (by simpa using h);simp[h2,CS,oS.irr]
theorem sq(a b:wC):jG a b=true∨(a.f=b.f∧a.t=b.t)∨jG b a=true:=by
 unfold jG;rcases Aw a.f b.f with h |h |h
 ·exact .inl (by simp[h])
 ·rcases Aw a.t b.t with k |k |k
  ·exact .inl (by simp[h,k])
  ·exact .inr (.inl ⟨h,k⟩)
  ·exact .inr (.inr (by simp[h,k]))
 ·exact .inr (.inr (by simp[h]))
theorem Bj{a b c:wC}(h1:a.f=b.f)(h2:a.t=b.t):jG c a=jG c b∧jG a c=jG b c:=by
 unfold jG;rw[h1,h2];exact⟨rfl,rfl⟩
theorem LP:Go.Sort.SWO (Go.Proofs.ltOf qh):=by
 have e:Go.Proofs.ltOf qh=jG:=funext fun a=>funext fun b=>yF a b;rw[e];refine⟨yE,fun _ _ _=>wa,fun x y z h1 h2=>?_⟩;cases h3:jG x z with
 |false=>rfl
 |true=>
  rcases sq x y with k |⟨k1,k2⟩ |k
  ·rw[k]at h1;cases h1
  ·rw[(Bj (c:=z) k1 k2).2,h2]at h3;cases h3
  ·have:=wa k h3;rw[h2]at this;cases this
theorem oP(a b:ByteArray)(w:World):Calls prog 79 #[.string a,.string b] w fun e w'=>e=.returned (.int .i64 (ke a b))∧w=w':=by
 have h1:ke a b=if Op.bytesLess a.toList b.toList=true then -1 else if Op.bytesLess b.toList a.toList=true then 1 else 0:=rfl
 rw[h1];by_cases g1:Op.bytesLess a.toList b.toList=true
 ·rw[Pj g1];clear h1;exact OB
 ·rw[Pm g1];have g1':Op.bytesLess a.toList b.toList=false:=by simpa using g1
  clear h1 g1;by_cases g2:Op.bytesLess b.toList a.toList=true
  ·rw[Pj g2];have g3:=eh (a:=a) (b:=b) (fun e=>by subst e;rw[g2]at g1';cases g1');exact OB
  ·rw[Pm g2];obtain rfl:a=b:=oS.tri a b g1' (SX.2 g2);clear g2;exact OB
theorem Kh(A:Nat)(x y:Int)(w:World)(h0:w.cell? ⟨A,0,none⟩=some (.int .i64 x))(h1:w.cell? ⟨A,1,none⟩=some (.int .i64 y)):
  Calls prog 78 #[.slice (some ⟨A,0,none⟩) 2 2] w fun e w'=>e=.returned (.int .i64 (if x≠0 then x else y))∧w=w':=by
 by_cases hx:x=0
 ·subst hx;rw[Pm (by simp)];by_cases hy:y=0
  ·subst hy;go_enter func78,ntmps78;go_wp2_with fail;refine U8 3 ?_;rw[UB];go_wp2_with fail;rw[UB];go_wp2_with fail;rw[UB];exact NR
  ·have g:(y==0)=false:=by simpa using hy
   go_enter func78,ntmps78;go_wp2_with fail;refine U8 3 ?_;rw[UB];go_wp2_with fail;rw[UB];exact NR
 ·rw[Pj hx];have g:(x==0)=false:=by simpa using hx
  go_enter func78,ntmps78;go_wp2_with fail;refine U8 3 ?_;rw[UB];exact NR
def tu(x:wC):List Value:=[.string x.f,.string x.t,.int .i64 x.n]
def Gr(w w':World):Prop:=∃q os,w'=Go.Sort.grow (w.drewN q) os
theorem Gr.refl(w:World):Gr w w:=⟨0,#[],by simp[Go.Sort.grow,World.drewN]⟩
theorem Gr.alloc{w w':World}(h:Gr w w')(o:Obj):Gr w (w'.alloc o):=by
 obtain⟨q,os,rfl⟩:=h;exact⟨q,os++#[o],by simp[Go.Sort.grow,World.alloc,World.drewN]⟩
theorem Gr.drew{w w':World}(h:Gr w w'):Gr w w'.drew:=by
 obtain⟨q,os,rfl⟩:=h;exact⟨q+1,os,by simp[Go.Sort.grow,World.drew,World.drewN,Nat.add_assoc]⟩
theorem Kb(a b:wC)(w:World):Calls prog 77 #[.agg (tu a).toArray,.agg (tu b).toArray] w fun e w'=>e=.returned (.int .i64 (qh a b))∧Gr w w':=by
 have na:=Up w (.cells #[.string a.f,.string a.t,.int .i64 a.n] 173);have na2:=ar na (.cells #[.string b.f,.string b.t,.int .i64 b.n] 173);have nb:=Up (w.alloc (.cells #[.string a.f,.string a.t,.int .i64 a.n] 173)) (.cells #[.string b.f,.string b.t,.int .i64 b.n] 173);rw[Pq]at nb;have HG:=zH (((Gr.refl w).alloc (.cells #[.string a.f,.string a.t,.int .i64 a.n] 173)).alloc (.cells #[.string b.f,.string b.t,.int .i64 b.n] 173));have HOR:Hid (∀(A:Nat) (w1:World),w1.cell? ⟨A,0,none⟩=some (.int .i64 (ke a.f b.f))→w1.cell? ⟨A,1,none⟩=some (.int .i64 (ke a.t b.t))→Calls prog 78 #[.slice (some ⟨A,0,none⟩) 2 2] w1 fun e w'=>e=.returned (.int .i64 (qh a b))∧w1=w'):=zH (fun A w1 h0 h1=>Kh A _ _ w1 h0 h1);generalize qh a b=ec at HOR⊢;have HNA:=zH na2;have HNB:=zH nb;clear na na2 nb;simp only[tu];go_enter func77,ntmps77;go_wp2_with fail;refine zr (fun V=>V.heap[w.heap.size]?=some (.cells #[.string a.f,.string a.t,.int .i64 a.n] 173 (0,0))∧V.heap[w.heap.size+1]?=some (.cells #[.string b.f,.string b.t,.int .i64 b.n] 173 (0,0))) ⟨HNA.out,HNB.out⟩ fun hS0=>?_;generalize ((w.alloc (.cells #[.string a.f,.string a.t,.int .i64 a.n] 173)).alloc (.cells #[.string b.f,.string b.t,.int .i64 b.n] 173))=w1 at*;(refine zh hS0 9 4 0 ?_;simp only[zd];((iterate 4 (refine zt (fun W hW=>by obtain⟨ha,hb⟩:=hW;have a0:=aa ha 0;have b0:=aa hb 0;exact zq) ?_;simp only[zp]));refine ac ?_));(refine zh hS0 5 4 5 ?_;simp only[zd];((iterate 4 (refine zt (fun W hW=>by obtain⟨ha,hb⟩:=hW;have a1:=aa ha 1;have b1:=aa hb 1;exact zq) ?_;simp only[zp]));refine ac ?_));(refine zo 4 rfl fun K hK=>?_;go_simp);go_at_call 79;(with_reducible refine(oP _ _ _).mono ?_);rintro e1 w2 ⟨rfl,rfl⟩;(refine zu hK hS0 ?_;clear hK K;try simp only[zp]);(refine zo 9 rfl fun K hK=>?_;go_simp);go_at_call 79;(with_reducible refine(oP _ _ _).mono ?_);rintro e1 w2 ⟨rfl,rfl⟩;(refine zu hK hS0 ?_;clear hK K;try simp only[zp]);(refine zo 10 rfl fun K hK=>?_;go_simp);have g0:=aa (Up w1.drew (.cells #[.int .i64 (ke a.f b.f),.int .i64 (ke a.t b.t)] 3)) 0;have g1:=aa (Up w1.drew (.cells #[.int .i64 (ke a.f b.f),.int .i64 (ke a.t b.t)] 3)) 1;have S3:=Uq (ar hS0.1 (.cells #[.int .i64 (ke a.f b.f),.int .i64 (ke a.t b.t)] 3)) (ar hS0.2 (.cells #[.int .i64 (ke a.f b.f),.int .i64 (ke a.t b.t)] 3));(refine zu hK S3 ?_;clear hK K;try simp only[zp]);(refine zo 11 rfl fun K hK=>?_;go_simp);go_at_call 78;(with_reducible refine(HOR.out _ _ g0 g1).mono ?_);rintro e1 w2 ⟨rfl,rfl⟩;(refine zu hK S3 ?_;clear hK K;try simp only[zp]);(refine zh S3 0 1 12 ?_;simp only[zd];((iterate 1 (refine zU ?_;simp only[zp]));refine ac ?_));(refine ze ?_);go_wp2_with fail;go_ret;exact⟨rfl,HG.out.drew.alloc _⟩
end
section
open Go.Sort (grow heap_grow_old putCells onCells mapBlock putRow Holds flatK size_flatK get_flatK putRowK HoldsK)
section
variable{α:Type}[Inhabited α]{enc:α→List Value}{k:Nat}{w:World}{g n cap base:Nat}{e:TypeId}{os:Array Obj}{cur:Array Value}{l m:List α}
omit[Inhabited α]in
theorem uy(h0:0<k)(hk:∀x,(enc x).length=k):∀(l:List α) (t:Nat),(l.flatMap enc)[t]?=(l[t / k]?).bind fun x=>(enc x)[t % k]?
 |[],t=>by simp
 |x::l,t=>by
  rw[UR];by_cases h:t<k
  ·rw[VM (by rw[hk];exact h),Nat.div_eq_of_lt h,Tr h];rfl
  ·have h1:k≤t:=by omega
   rw[Vg (by rw[hk];exact h1),hk,uy h0 hk l,Nat.div_eq_sub_div h0 h1,Nat.mod_eq_sub_mod h1];rfl
omit [Inhabited α]in
theorem vV(hk:∀x,(enc x).length=k)(l:List α):(l.flatMap enc).length=l.length*k:=by
 induction l with
 |nil=>simp
 |cons x l ih=>rw[UR,Pu,ih,hk,PC,RL];omega
theorem sb(h0:0<k)(hk:∀x,(enc x).length=k)(l:List α):(flatK enc k l.toArray).toList=l.flatMap enc:=by
 refine List.ext_getElem? fun t=>?_;rw[uy h0 hk,Sg];by_cases h:t<l.length*k
 ·have hd:t / k<l.length:=(Nat.div_lt_iff_lt_mul h0).2 h;have hm:=Nat.mod_lt t h0;have hs:t< (flatK enc k l.toArray).size:=by rw[size_flatK];exact h
  have:=get_flatK enc k l.toArray t h;rw[getElem!_pos _ t hs]at this;rw[RF hs,this,PT hd];show some _=(enc l[t / k])[t % k]?;have e1:l.toArray[t / k]! =l[t / k]:=by
   rw[getElem!_pos l.toArray (t / k) (by simpa using hd)];rfl
  have hmk:t % k< (enc l[t / k]).length:=by rw[hk];exact hm
  rw[e1,PT hmk,getElem!_pos (enc l[t / k]) (t % k) hmk]
 ·rw[SK (by rw[size_flatK];simp;omega),Wa (by rw[Nat.le_div_iff_mul_le h0];omega)];rfl
theorem AN(h0:0<k)(hk:∀x,(enc x).length=k)(hb:w.heap[g]?=some (.cells cur e (0,0)))(ht:cur.toList.take (l.length*k)=l.flatMap enc):HoldsK enc k w g 0 l.toArray:=by
 intro j hj;rw[size_flatK]at hj;have hj2:j<l.length*k:=by simpa using hj
 have h1:(cur.toList.take (l.length*k))[j]?=(l.flatMap enc)[j]?:=by rw[ht]
 rw[List.getElem?_take_of_lt hj2,←sb h0 hk,Sg,Sg]at h1;refine⟨?_,by simp[World.frozen?,hb]⟩;have hs:j< (flatK enc k l.toArray).size:=by rw[size_flatK];exact hj
 simp only[World.cell?,hb,Rf];simp only[Sl,Wl,if_false];rw[h1,RF hs,getElem!_pos _ j hs];rfl
theorem AP(d:Array α)(hb:w.heap[g]?=some (.cells cur e (0,0))):(sortWorldK enc k w g 0 n d os).heap[g]?=some (.cells (putCells id 0 (flatK enc k d) cur) e (0,0)):=by
 have hg:=am hb;unfold sortWorldK putRowK;rw[heap_grow_old _ _ (by simpa using hg)];simp[putRow,mapBlock,Sort.ahead,SI,hb,onCells]
theorem tt(d:Array α):w.grownBy (sortWorldK enc k w g 0 n d os) (some g):=by
 refine⟨rfl,rfl,rfl,by simp[sortWorldK,putRowK,grow],fun j hj hne=>?_⟩;unfold sortWorldK putRowK;rw[heap_grow_old _ _ (by simpa using hj)];have:g≠j:=fun e=>hne (by rw[e]);simp[putRow,mapBlock,Sort.ahead,SI,this]
theorem sZ(h0:0<k)(hk:∀x,(enc x).length=k)(hl:m.length=l.length)(hbase:base≤g)(hb:w.heap[g]?=some (.cells cur e (0,0)))(h1:l.length≤cap)(h2:cap≤maxLen)(h3:cur.size=cap*k):
  (sortWorldK enc k w g 0 n m.toArray os).ownsRow base e k (.slice (some ⟨g,0,none⟩) l.length cap) l.length (m.flatMap enc):=by
 refine⟨by rw[vV hk,hl],.inr ⟨g,cap,_,rfl,hbase,AP _ hb,h1,h2,by simp[putCells,h3],?_⟩⟩;have hle:l.length*k≤cap*k:=Tq k h1;refine List.ext_getElem? fun j=>?_;rw[←sb h0 hk];by_cases hj:j<l.length*k
 ·have hs:j< (flatK enc k m.toArray).size:=by rw[size_flatK];simp only[UH];rw[hl];exact hj
  rw[List.getElem?_take_of_lt hj,Sg,Sg,RF hs];have hjc:j<cur.size:=by omega
  simp only[putCells,Array.getElem?_mapIdx,RF hjc,Option.map_some];rw[Pj ⟨QZ _,by rw[Rf];exact hs⟩,Nat.sub_zero,getElem!_pos (flatK enc k m.toArray) j hs];rfl
 ·rw[List.getElem?_take_eq_none (by omega),Wa];rw[We,size_flatK];simp only[UH];rw[hl];omega
end
end
