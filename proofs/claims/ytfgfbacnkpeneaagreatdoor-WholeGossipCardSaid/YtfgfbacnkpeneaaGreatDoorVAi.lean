/- For WholeGossip: contracts of functions and plain laws. -/
import Derived.Test.YtfgfbacnkpeneaaGreatDoorVAg
import Derived.Test.YtfgfbacnkpeneaaGreatDoorVAc
import Derived.RangeFuncOwn
import Derived.Test.YtfgfbacnkpeneaaGreatDoorVAa
set_option maxRecDepth 100000
set_option maxHeartbeats 4000000
set_option linter.unusedVariables false
set_option linter.unusedSimpArgs false
namespace Go.Proofs.YtfgfbacnkpeneaaGreatDoor
open Go.Proofs.Tryz Go.ChangeShapes Go.WideShapes Go.ChangeAt Go.RowKit Go.Deep
abbrev Px:=@List.mem_append
abbrev PK:=@Go.World.size_setCell
abbrev PV:=@List.nodup_cons
abbrev PW:=@List.nodup_append
abbrev P6:=@not_or
abbrev UE:=@Nat.le_succ
abbrev Qo:=@List.drop_zero
abbrev QF:=@Go.heap_setCell_other
abbrev QG:=@List.drop_succ_cons
abbrev Rh:=@Go.ByteArray.toList_eq
abbrev Q0:=@List.Perm.refl
abbrev U3:=@List.set_cons_succ
abbrev Rj:=@Array.getElem?_eq_some_iff
abbrev U9:=@List.set_cons_zero
abbrev RV:=@beq_iff_eq
abbrev Sh:=@List.count_cons
abbrev Si:=@List.count_append
abbrev SH:=@List.perm_iff_count
abbrev SI:=@Array.getElem?_modify
abbrev SJ:=@Array.ext'
theorem Wy{P:Prop}(h:P:=by
 have HT3:=zH HT3';clear HT3' hn hs hq hq2 hl hr hb;go_enter dD,dy;go_wp2_with (first
 |((with_reducible refine(CM.out).mono ?_);rintro e1 w1 ⟨rfl,h1,k1,s1⟩;have p1:=HP.out _ h1 k1 s1)
 |((with_reducible refine(HLb.out _ p1).mono ?_);rintro e1 wx ⟨rfl,n1,rfl⟩;have p2:=p1.drewN n1;have c1:=HC1.out _ p2;have f1:=HF1.out _ p2)
 |((with_reducible refine(HLc.out _ p2).mono ?_);rintro e1 wx ⟨rfl,n2,rfl⟩;have p3:=p1.drewN (n1+n2);have c2:=HC1.out _ p3;have f2:=HF1.out _ p3)
 |((with_reducible refine(HT3.out _ p3).mono ?_);rintro e1 w5 ⟨T',rfl,q1,q2,q3,q4,q5⟩))
 go_ret;exact⟨T',rfl,q1,q2,q3,q4,q5⟩):P:=h
theorem NO{P:Prop}(h:P:=by
 have HG:=zH hgl;clear HL' HFR' hi hb hl hr hA hn hs hO ih1 ih2 hlen hdis hgl;simp only[AT.ptr];go_enter fu,ft;go_wp2_with (first
  |((with_reducible refine(HI.out).mono ?_);rintro e1 w1 ⟨own1,T1,rfl,p1,e1'⟩;obtain⟨u1,f1⟩:=HFR.out _ _ _ p1)
  |((with_reducible refine(HLV.out _ _ _ p1 e1').mono ?_);rintro e2 w2 ⟨own2,T2,rfl,p2,e2'⟩))
 go_ret2;exact⟨own2,T2,by rw[HG.out];rfl,p2,e2'⟩):P:=h
theorem NZ{P:Prop}(h:P:=by
 rw[SH];intro y;simp only[Sh,Si];omega):P:=h
theorem Oe{P:Prop}(h:P:=by
 subst e;simp only[AT.blocks,Pz,Px]at hy;rcases hy with hy |hy |hy
 ·exact hbc hy.symm
 ·first |exact hcl hy |exact hcx hy
 ·first |exact hcl hy |exact hcx hy):P:=h
section
theorem aa{B:Nat}{T:TypeId}{cs:Array Value}{w:World}(h:w.heap[B]?=some (.cells cs T (0,0))):∀j,w.cell? ⟨B,j,none⟩=cs[j]?:=fun j=>by rw[Se _ _ _ _ T _ h]
theorem aq{w:World}{B:Nat}{T:TypeId}{cs:Array Value}{fr:Nat×Nat}(h:w.heap[B]?=some (.cells cs T fr))(j:Nat)(v:Value):(w.setCell ⟨B,j,none⟩ v).heap[B]?=some (.cells (cs.setIfInBounds j v) T fr):=by
 simp[World.setCell,SI,h]
theorem am{w:World}{B:Nat}{o:Obj}(h:w.heap[B]?=some o):B<w.heap.size:=(Rj.1 h).1
theorem ak{w:World}{B:Nat}{T:TypeId}{cs:Array Value}(h:w.heap[B]?=some (.cells cs T (0,0))):∀j,w.frozen? ⟨B,j,none⟩=false:=fun j=>by simp[World.frozen?,h]
theorem af{w w':World}{b:Nat}{o:Obj}(h:w.heap[b]?=some o)(hb:Below w.heap.size w w'):w'.heap[b]?=some o:=(hb.block b (am h)).trans h
theorem ar{w:World}{b:Nat}{o:Obj}(h:w.heap[b]?=some o)(o':Obj):(w.alloc o').heap[b]?=some o:=(Sf _ _ _ (am h)).trans h
theorem aw{w:World}{b B j:Nat}{o:Obj}(h:w.heap[b]?=some o)(hne:b≠B)(v:Value):(w.setCell ⟨B,j,none⟩ v).heap[b]?=some o:=(QF w ⟨B,j,none⟩ b v hne).trans h
structure Km(F:Nat→Prop)(w w':World):Prop where
 os:w'.os=w.os
 tape:w'.tape=w.tape
 output:w'.output=w.output
 size:w.heap.size≤w'.heap.size
 block:∀b,b<w.heap.size→¬F b→w'.heap[b]?=w.heap[b]?
structure Kp(F:Nat→Prop)(w w':World):Prop extends Km F w w' where
 oth:∀(b:Nat) (o:Obj),w.heap[b]?=some o→o.isCells=false→w'.heap[b]?=some o
section
variable{F G:Nat→Prop}{u v w:World}
theorem Km.refl(F:Nat→Prop)(w:World):Km F w w:=⟨rfl,rfl,rfl,Po _,fun _ _ _=>rfl⟩
theorem Km.trans'(h:Km F u v)(k:Km G v w)(hs:∀b,b<u.heap.size→G b→F b):Km F u w:=
 ⟨k.os.trans h.os,k.tape.trans h.tape,k.output.trans h.output,Pt h.size k.size,fun b hb hf=>(k.block b (Ut hb h.size) fun hg=>hf (hs b hb hg)).trans (h.block b hb hf)⟩
theorem Km.trans(h:Km F u v)(k:Km F v w):Km F u w:=h.trans' k fun _ _ hg=>hg
theorem Km.mono(h:Km F u v)(hs:∀b,b<u.heap.size→F b→G b):Km G u v:=⟨h.os,h.tape,h.output,h.size,fun b hb hg=>h.block b hb fun hf=>hg (hs b hb hf)⟩
theorem Km.of_below(F:Nat→Prop)(h:Below u.heap.size u v):Km F u v:=⟨h.os,h.tape,h.output,h.size,fun b hb _=>h.block b hb⟩
theorem Km.below{B:Nat}(h:Km F u v)(hB:∀b,b<B→¬F b)(hs:B≤u.heap.size):Below B u v:=⟨h.os,h.tape,h.output,h.size,fun b hb=>h.block b (Ut hb hs) (hB b hb)⟩
theorem Km.at{o:Obj}{b:Nat}(h:Km F u v)(hb:u.heap[b]?=some o)(hf:¬F b):v.heap[b]?=some o:=(h.block b (am hb) hf).trans hb
theorem Km.setCell(h:Km F u v){b j:Nat}(hf:b<u.heap.size→F b)(x:Value):Km F u (v.setCell ⟨b,j,none⟩ x):=
 ⟨h.os,h.tape,h.output,by rw[PK];exact h.size,fun c hc hn=>(QF v ⟨b,j,none⟩ c x (fun e=>hn (by
  have e':c=b:=e;rw[e']at hc⊢;exact hf hc))).trans (h.block c hc hn)⟩
theorem Km.alloc(h:Km F u v)(o:Obj):Km F u (v.alloc o):=
 ⟨h.os,h.tape,h.output,by rw[Pq];exact Nat.le_succ_of_le h.size,fun c hc hn=>(Sf v o c (Ut hc h.size)).trans (h.block c hc hn)⟩
theorem Km.drew(h:Km F u v):Km F u v.drew:=⟨h.os,h.tape,h.output,h.size,h.block⟩
theorem Km.drewN(h:Km F u v)(n:Nat):Km F u (v.drewN n):=⟨h.os,h.tape,h.output,h.size,h.block⟩
theorem Kp.refl(F:Nat→Prop)(w:World):Kp F w w:=⟨Km.refl F w,fun _ _ h _=>h⟩
theorem Kp.trans'(h:Kp F u v)(k:Kp G v w)(hs:∀b,b<u.heap.size→G b→F b):Kp F u w:=⟨h.toKm.trans' k.toKm hs,fun b o hb ho=>k.oth b o (h.oth b o hb ho) ho⟩
theorem Kp.trans(h:Kp F u v)(k:Kp F v w):Kp F u w:=h.trans' k fun _ _ hg=>hg
theorem Kp.mono(h:Kp F u v)(hs:∀b,b<u.heap.size→F b→G b):Kp G u v:=⟨h.toKm.mono hs,h.oth⟩
theorem Kp.of_below(F:Nat→Prop)(h:Below u.heap.size u v):Kp F u v:=⟨Km.of_below F h,fun b _ hb _=>(h.block b (am hb)).trans hb⟩
theorem Kp.below{B:Nat}(h:Kp F u v)(hB:∀b,b<B→¬F b)(hs:B≤u.heap.size):Below B u v:=h.toKm.below hB hs
theorem Kp.at{o:Obj}{b:Nat}(h:Kp F u v)(hb:u.heap[b]?=some o)(hf:¬F b):v.heap[b]?=some o:=h.toKm.at hb hf
theorem zS{w:World}{b j c:Nat}{x:Value}{o:Obj}(h:w.heap[c]?=some o)(ho:o.isCells=false):(w.setCell ⟨b,j,none⟩ x).heap[c]?=some o:=by
 by_cases e:c=b
 ·subst e;simp only[World.setCell,SI,Pj,h,Option.map_some];cases o<;>first |rfl |cases ho
 ·exact(QF w ⟨b,j,none⟩ c x e).trans h
theorem Kp.setCell(h:Kp F u v){b j:Nat}(hf:b<u.heap.size→F b)(x:Value):Kp F u (v.setCell ⟨b,j,none⟩ x):=⟨h.toKm.setCell hf x,fun c o hc ho=>zS (h.oth c o hc ho) ho⟩
theorem Kp.alloc(h:Kp F u v)(o:Obj):Kp F u (v.alloc o):=⟨h.toKm.alloc o,fun c o' hc ho=>ar (h.oth c o' hc ho) o⟩
theorem Kp.drew(h:Kp F u v):Kp F u v.drew:=⟨h.toKm.drew,h.oth⟩
theorem Kp.drewN(h:Kp F u v)(n:Nat):Kp F u (v.drewN n):=⟨h.toKm.drewN n,h.oth⟩
theorem Kp.others(h:Kp F u v):KeepsOthers u v:=⟨h.size,fun b o hb ho=>h.oth b o hb ho⟩
end
theorem An{F:Nat→Prop}{w w':World}{base n sz:Nat}{e:TypeId}{v:Value}{xs:List Value}(h:w.ownsRow base e sz v n xs)(hk:Km F w w')(hf:∀g,v.ownBlock=some g→¬F g):w'.ownsRow base e sz v n xs:=by
 refine⟨h.1,?_⟩;rcases h.2 with hn |⟨g,cap,cur,rfl,hb,hgg,rest⟩
 ·exact .inl hn
 ·exact .inr ⟨g,cap,cur,rfl,hb,hk.at hgg (hf g rfl),rest⟩
def Ow(own:Nat→Nat)(w:World):Prop:=∀b,w.heap.size≤b→own b=0
def aO(own own':Nat→Nat)(w:World):Prop:=∀b,b<w.heap.size→own' b=own b
theorem aO.refl(own:Nat→Nat)(w:World):aO own own w:=fun _ _=>rfl
theorem aO.trans{a b c:Nat→Nat}{u v:World}(h:aO a b u)(k:aO b c v)(hs:u.heap.size≤v.heap.size):aO a c u:=fun x hx=>(k x (Ut hx hs)).trans (h x hx)
theorem Ow.mono{own:Nat→Nat}{u v:World}(h:Ow own u)(hs:u.heap.size≤v.heap.size):Ow own v:=fun b hb=>h b (Pt hs hb)
def dj(own:Nat→Nat)(b t:Nat):Nat→Nat:=fun x=>if x=b then t else own x
theorem oH(own:Nat→Nat)(b t:Nat):dj own b t b=t:=Pj rfl
theorem yh(own:Nat→Nat){b t x:Nat}(h:x≠b):dj own b t x=own x:=Pm h
theorem lZ(own:Nat→Nat)(w:World)(t:Nat){b:Nat}(h:w.heap.size≤b):aO own (dj own b t) w:=fun x hx=>yh own (by omega)
theorem oG{own:Nat→Nat}{w:World}(h:Ow own w)(b t:Nat){w':World}(hs:w.heap.size≤w'.heap.size)(hb:b<w'.heap.size):Ow (dj own b t) w':=fun x hx=>by
 rw[yh own (by omega)];exact h x (by omega)
end
section
open AvlP
structure Pl where
  tr : Int
  id : Int
  cl : Int
  de : Int
  to : Int
  fa : Int
abbrev PA(x:Pl):Array Value:=#[.int .i64 x.tr,.int .i64 x.id,.int .i64 x.cl,.int .i64 x.de,.int .i64 x.to,.int .i64 x.fa]
abbrev PZ:Array Value:=#[.int .i64 0,.int .i64 0,.int .i64 0,.int .i64 0,.int .i64 0,.int .i64 0]
structure Nd(K V:Type) where
 cells:K→V→Option Addr→Option Addr→Int→Array Value
 ty:TypeId
section
variable{K V:Type}
def AvlP.AT.ptr:AT K V→Option Addr
 | .nil=>none
 | .node b _ _ _ _=>some ⟨b,0,none⟩
def aC(N:Nd K V)(own:Nat→Nat)(t:Nat)(w:World):AT K V→Prop
 | .nil=>True
 | .node b l k v r=>own b=t∧w.heap[b]?=some (.cells (N.cells k v l.ptr r.ptr ((1+max l.hgt r.hgt:Nat):Int)) N.ty (0,0))∧aC N own t w l∧aC N own t w r
variable{N:Nd K V}{own own':Nat→Nat}{t:Nat}{w w':World}
theorem aC.at{T:AT K V}(h:aC N own t w T):∀b∈T.blocks,own b=t∧b<w.heap.size:=by
 induction T with
 |nil=>intro b hb;simp[AT.blocks]at hb
 |node c l k v r ih1 ih2=>
  obtain⟨h1,h2,h3,h4⟩:=h;intro b hb;simp only[AT.blocks,Pz,Px]at hb;rcases hb with rfl |hb |hb
  ·exact⟨h1,am h2⟩
  ·exact ih1 h3 b hb
  ·exact ih2 h4 b hb
theorem aC.kept{T:AT K V}(h:aC N own t w T)(hk:∀b∈T.blocks,w'.heap[b]?=w.heap[b]?∧own' b=own b):aC N own' t w' T:=by
 induction T with
 |nil=>trivial
 |node c l k v r ih1 ih2=>
  obtain⟨h1,h2,h3,h4⟩:=h;obtain⟨k1,k2⟩:=hk c (by simp[AT.blocks]);exact⟨k2.trans h1,k1.trans h2,ih1 h3 fun b hb=>hk b (by simp[AT.blocks,hb]),ih2 h4 fun b hb=>hk b (by simp[AT.blocks,hb])⟩
theorem aC.kp{F:Nat→Prop}{T:AT K V}(h:aC N own t w T)(hk:Kp F w w')(hf:∀b∈T.blocks,¬F b)(he:aO own own' w):aC N own' t w' T:=
 h.kept fun b hb=>⟨hk.block b (h.at b hb).2 (hf b hb),he b (h.at b hb).2⟩
theorem aC.below{T:AT K V}(h:aC N own t w T)(hb:Below w.heap.size w w'):aC N own t w' T:=
 h.kept fun b hm=>⟨hb.block b (h.at b hm).2,rfl⟩
theorem aC.setCell{T:AT K V}(h:aC N own t w T){b j:Nat}(hb:b∉T.blocks)(v:Value):aC N own t (w.setCell ⟨b,j,none⟩ v) T:=
 h.kept fun c hc=>⟨QF w ⟨b,j,none⟩ c v (fun e=>hb (by have e':c=b:=e;rw[←e'];exact hc)),rfl⟩
def fZ(w:World)(b:Nat):Nat→List Value→World
 |_,[]=>w
 |i,v::r=>fZ (w.setCell ⟨b,i,none⟩ v) b (i+1) r
def Jq(cs:Array Value):Nat→List Value→Array Value
 |_,[]=>cs
 |i,v::r=>Jq (cs.setIfInBounds i v) (i+1) r
theorem xm{F:Nat→Prop}{u:World}{b:Nat}{v:World}(h:Kp F u v)(hf:F b)(i:Nat)(l:List Value):Kp F u (fZ v b i l):=by
 induction l generalizing v i with
 |nil=>exact h
 |cons x r ih=>exact ih (h.setCell (fun _=>hf) x) _
theorem nP{T:AT K V}{b:Nat}(h:aC N own t w T)(hb:b∉T.blocks)(i:Nat)(l:List Value):aC N own t (fZ w b i l) T:=by
 induction l generalizing w i with
 |nil=>exact h
 |cons x r ih=>exact ih (h.setCell hb x) _
theorem xn{b:Nat}{cs:Array Value}{T:TypeId}{fr:Nat×Nat}(h:w.heap[b]?=some (.cells cs T fr))(i:Nat)(l:List Value):(fZ w b i l).heap[b]?=some (.cells (Jq cs i l) T fr):=by
 induction l generalizing w cs i with
 |nil=>exact h
 |cons x r ih=>exact ih (aq h i x) _
theorem zW(w:World)(b i:Nat)(l:List Value):(fZ w b i l).heap.size=w.heap.size:=by
 induction l generalizing w i with
 |nil=>rfl
 |cons x r ih=>exact(ih _ _).trans (PK ..)
structure cG(N:Nd K V)(own:Nat→Nat)(t:Nat)(w w':World)(bs:List Nat)(own':Nat→Nat)(T':AT K V):Prop where
 inT:aC N own' t w' T'
 kp:Kp (fun b=>b∈bs) w w'
 ext:aO own own' w
 ow:Ow own' w'
 old:∀b∈T'.blocks,b∈bs∨w.heap.size≤b
 nod:T'.blocks.Nodup
end
section
variable{K V:Type}
structure wG(N:Nd K V)(own:Nat→Nat)(t b:Nat)(l:AT K V)(k:K)(v:V)(r:AT K V)(w W:World):Prop where
 hb:W.heap[b]?=some (.cells (N.cells k v l.ptr r.ptr ((1+max l.hgt r.hgt:Nat):Int)) N.ty (0,0))
 il:aC N own t W l
 ir:aC N own t W r
 kp:Kp (fun y=>y∈b::(l.blocks++r.blocks)) w W
 size:W.heap.size=w.heap.size
theorem wG.drewN{N:Nd K V}{own:Nat→Nat}{t b:Nat}{l:AT K V}{k:K}{v:V}{r:AT K V}{w W:World}(h:wG N own t b l k v r w W)(n:Nat):wG N own t b l k v r w (W.drewN n):=
 ⟨h.hb,h.il.kept fun _ _=>⟨rfl,rfl⟩,h.ir.kept fun _ _=>⟨rfl,rfl⟩,h.kp.drewN n,h.size⟩
abbrev gK(N:Nd K V)(own:Nat→Nat)(t b:Nat)(l:AT K V)(k:K)(v:V)(r:AT K V)(w:World)(e:Ending)(w':World):Prop:=
 ∃T',e=.returned (.pointer T'.ptr)∧aC N own t w' T'∧T'.toL=l.toL++(k,v)::r.toL∧T'.blocks.Perm (b::(l.blocks++r.blocks))∧Kp (fun y=>y∈b::(l.blocks++r.blocks)) w w'∧w'.heap.size=w.heap.size
end
section
variable{K V:Type}
theorem cG.from{N:Nd K V}{own own':Nat→Nat}{t:Nat}{w w0 w':World}{bs:List Nat}{T':AT K V}(h:cG N own t w0 w' bs own' T')(hb:Below w.heap.size w w0):cG N own t w w' bs own' T':=
 ⟨h.inT,(Kp.of_below _ hb).trans h.kp,fun b hbw=>h.ext b (Ut hbw hb.size),h.ow,fun y hy=>(h.old y hy).imp id fun k=>Pt hb.size k,h.nod⟩
abbrev gR(N:Nd K V)(o:eN K)(own:Nat→Nat)(t:Nat)(T:AT K V)(k:K)(v:V)(w:World)(e:Ending)(w':World):Prop:=
 ∃own' T',e=.returned (.tuple #[.pointer T'.ptr,.bool (ag o T.toL k).isNone])∧cG N own t w w' T.blocks own' T'∧T'.toL=ay o T.toL k v
theorem cL(o:eN K)(L:List (K×V))(k:K)(v:V):(ay o L k v).length≤L.length+1:=by
 induction L with
 |nil=>simp[ay]
 |cons z r ih=>
  obtain⟨a,x⟩:=z;simp only[ay];split
  ·simp
  ·split
   ·simp only[PC];omega
   ·simp
theorem Cl{N:Nd K V}{o:eN K}{own own1:Nat→Nat}{t b:Nat}{l r T1 T':AT K V}{k0 k:K}{v0 v:V}{w w1 w':World}{j:Nat}{x:Value}(hi:aC N own t w (.node b l k0 v0 r))(hn:(AT.node b l k0 v0 r).blocks.Nodup)
  (p1:cG N own t w w1 l.blocks own1 T1)(e1:T1.toL=ay o l.toL k v)(hlt:o.lt k k0=true)
  (q1:aC N own1 t w' T')(q2:T'.toL=T1.toL++(k0,v0)::r.toL)(q3:T'.blocks.Perm (b::(T1.blocks++r.blocks)))(q4:Kp (fun y=>y∈b::(T1.blocks++r.blocks)) (w1.setCell ⟨b,j,none⟩ x) w')(q5:w'.heap.size=(w1.setCell ⟨b,j,none⟩ x).heap.size):
  cG N own t w w' (AT.node b l k0 v0 r).blocks own1 T'∧T'.toL=ay o (AT.node b l k0 v0 r).toL k v∧(ag o (AT.node b l k0 v0 r).toL k)=ag o l.toL k:=by
 have hbs:=hi.at;simp only[AT.blocks,Pz,Px]at hbs;refine⟨⟨q1,?_,p1.ext,p1.ow.mono (by rw[q5,PK];exact Po _),fun y hy=>?_,?_⟩,by rw[q2,e1];exact(GL o hlt).symm,jl o hlt⟩
 ·refine((p1.kp.mono (G:=fun y=>y∈(AT.node b l k0 v0 r).blocks) fun y _ hy=>by simp[AT.blocks,hy]).setCell (b:=b) (j:=j) (fun _=>by simp[AT.blocks]) x).trans' q4 fun y hyl hy=>?_;simp only[AT.blocks,Pz,Px]at hy⊢;rcases hy with hy |hy |hy
  ·exact .inl hy
  ·rcases p1.old y hy with h |h
   ·exact .inr (.inl h)
   ·omega
  ·exact .inr (.inr hy)
 ·have hy2:=q3.mem_iff.1 hy;simp only[AT.blocks,Pz,Px]at hy2⊢;rcases hy2 with h |h |h
  ·exact .inl (.inl h)
  ·rcases p1.old y h with h |h
   ·exact .inl (.inr (.inl h))
   ·exact .inr h
  ·exact .inl (.inr (.inr h))
 ·refine q3.nodup_iff.2 ?_;simp only[AT.blocks,PV,Px,P6,PW]at hn⊢;have hold:=p1.old;have hT:=p1.nod;refine⟨⟨fun h=>?_,hn.1.2⟩,hT,hn.2.2.1,fun x hx y hy e=>?_⟩
  ·rcases hold b h with h |h
   ·exact hn.1.1 h
   ·have:=(hbs b (.inl rfl)).2;omega
  ·subst e;rcases hold x hx with h |h
   ·exact hn.2.2.2 x h x hy rfl
   ·have:=(hbs x (.inr (.inr hy))).2;omega
theorem xr{N:Nd K V}{o:eN K}{own own1:Nat→Nat}{t b:Nat}{l r T1 T':AT K V}{k0 k:K}{v0 v:V}{w w1 w':World}{j:Nat}{x:Value}(hi:aC N own t w (.node b l k0 v0 r))(hn:(AT.node b l k0 v0 r).blocks.Nodup)(hs:aX o (AT.node b l k0 v0 r).toL)
  (p1:cG N own t w w1 r.blocks own1 T1)(e1:T1.toL=ay o r.toL k v)(hlt:o.lt k0 k=true)
  (q1:aC N own1 t w' T')(q2:T'.toL=l.toL++(k0,v0)::T1.toL)(q3:T'.blocks.Perm (b::(l.blocks++T1.blocks)))(q4:Kp (fun y=>y∈b::(l.blocks++T1.blocks)) (w1.setCell ⟨b,j,none⟩ x) w')(q5:w'.heap.size=(w1.setCell ⟨b,j,none⟩ x).heap.size):
  cG N own t w w' (AT.node b l k0 v0 r).blocks own1 T'∧T'.toL=ay o (AT.node b l k0 v0 r).toL k v∧(ag o (AT.node b l k0 v0 r).toL k)=ag o r.toL k:=by
 have hbs:=hi.at;have hA:=(dO o hs).1;simp only[AT.blocks,Pz,Px]at hbs;refine⟨⟨q1,?_,p1.ext,p1.ow.mono (by rw[q5,PK];exact Po _),fun y hy=>?_,?_⟩,by rw[q2,e1];exact(Ek o hA hlt).symm,gD o hA hlt⟩
 ·refine((p1.kp.mono (G:=fun y=>y∈(AT.node b l k0 v0 r).blocks) fun y _ hy=>by simp[AT.blocks,hy]).setCell (b:=b) (j:=j) (fun _=>by simp[AT.blocks]) x).trans' q4 fun y hyl hy=>?_;simp only[AT.blocks,Pz,Px]at hy⊢;rcases hy with hy |hy |hy
  ·exact .inl hy
  ·exact .inr (.inl hy)
  ·rcases p1.old y hy with h |h
   ·exact .inr (.inr h)
   ·omega
 ·have hy2:=q3.mem_iff.1 hy;simp only[AT.blocks,Pz,Px]at hy2⊢;rcases hy2 with h |h |h
  ·exact .inl (.inl h)
  ·exact .inl (.inr (.inl h))
  ·rcases p1.old y h with h |h
   ·exact .inl (.inr (.inr h))
   ·exact .inr h
 ·refine q3.nodup_iff.2 ?_;simp only[AT.blocks,PV,Px,P6,PW]at hn⊢;have hold:=p1.old;have hT:=p1.nod;refine⟨⟨hn.1.1,fun h=>?_⟩,hn.2.1,hT,fun x hx y hy e=>?_⟩
  ·rcases hold b h with h |h
   ·exact hn.1.2 h
   ·have:=(hbs b (.inl rfl)).2;omega
  ·subst e;rcases hold x hy with h |h
   ·exact hn.2.2.2 x hx x h rfl
   ·have:=(hbs x (.inr (.inl hx))).2;omega
end
section
variable{K V:Type}{N:Nd K V}{o:eN K}{own:Nat→Nat}{t b:Nat}{l r T1 T':AT K V}{k0 k:K}{v0:V}{w w1 w':World}{j:Nat}{x:Value}
theorem jR(hn:(AT.node b l k0 v0 r).blocks.Nodup):b∉l.blocks∧b∉r.blocks∧l.blocks.Nodup∧r.blocks.Nodup∧∀x∈l.blocks,∀y∈r.blocks,x≠y:=by
 simp only[AT.blocks,PV,Px,P6,PW]at hn;exact⟨hn.1.1,hn.1.2,hn.2.1,hn.2.2.1,hn.2.2.2⟩
theorem jf(h1:b∉l.blocks)(h2:b∉r.blocks)(h3:l.blocks.Nodup)(h4:r.blocks.Nodup)(h5:∀x∈l.blocks,∀y∈r.blocks,x≠y):(b::(l.blocks++r.blocks)).Nodup:=by
 simp only[PV,Px,P6,PW];exact⟨⟨h1,h2⟩,h3,h4,h5⟩
structure eR(N:Nd K V)(own:Nat→Nat)(t:Nat)(T T1:AT K V)(w w1:World):Prop where
 inT:aC N own t w1 T1
 nod:T1.blocks.Nodup
 sub:∀y∈T1.blocks,y∈T.blocks
 kp:Kp (fun y=>y∈T.blocks) w w1
 size:w1.heap.size=w.heap.size
theorem Hv(hn:(AT.node b l k0 v0 r).blocks.Nodup)(p:eR N own t l T1 w w1)(e1:T1.toL=aK o l.toL k)(hlt:o.lt k k0=true)
  (q1:aC N own t w' T')(q2:T'.toL=T1.toL++(k0,v0)::r.toL)(q3:T'.blocks.Perm (b::(T1.blocks++r.blocks)))(q4:Kp (fun y=>y∈b::(T1.blocks++r.blocks)) (w1.setCell ⟨b,j,none⟩ x) w')(q5:w'.heap.size=(w1.setCell ⟨b,j,none⟩ x).heap.size):
  eR N own t (.node b l k0 v0 r) T' w w'∧T'.toL=aK o (AT.node b l k0 v0 r).toL k∧ag o (AT.node b l k0 v0 r).toL k=ag o l.toL k:=by
 obtain⟨h1,h2,h3,h4,h5⟩:=jR hn;refine⟨⟨q1,?_,fun y hy=>?_,?_,by rw[q5,PK,p.size]⟩,by rw[q2,e1];exact(Ic o hlt).symm,jl o hlt⟩
 ·exact q3.nodup_iff.2 (jf (fun h=>h1 (p.sub b h)) h2 p.nod h4 fun x hx y hy=>h5 x (p.sub x hx) y hy)
 ·have:=q3.mem_iff.1 hy;simp only[AT.blocks,Pz,Px]at this⊢;exact this.imp id (Or.imp (p.sub y) id)
 ·refine((p.kp.mono (G:=fun y=>y∈(AT.node b l k0 v0 r).blocks) fun y _ hy=>by simp[AT.blocks,hy]).setCell (b:=b) (j:=j) (fun _=>by simp[AT.blocks]) x).trans' q4 fun y _ hy=>?_;simp only[AT.blocks,Pz,Px]at hy⊢;exact hy.imp id (Or.imp (p.sub y) id)
theorem EL(hn:(AT.node b l k0 v0 r).blocks.Nodup)(hs:aX o (AT.node b l k0 v0 r).toL)(p:eR N own t r T1 w w1)(e1:T1.toL=aK o r.toL k)(hlt:o.lt k0 k=true)
  (q1:aC N own t w' T')(q2:T'.toL=l.toL++(k0,v0)::T1.toL)(q3:T'.blocks.Perm (b::(l.blocks++T1.blocks)))(q4:Kp (fun y=>y∈b::(l.blocks++T1.blocks)) (w1.setCell ⟨b,j,none⟩ x) w')(q5:w'.heap.size=(w1.setCell ⟨b,j,none⟩ x).heap.size):
  eR N own t (.node b l k0 v0 r) T' w w'∧T'.toL=aK o (AT.node b l k0 v0 r).toL k∧ag o (AT.node b l k0 v0 r).toL k=ag o r.toL k:=by
 obtain⟨h1,h2,h3,h4,h5⟩:=jR hn;have hA:=(dO o hs).1;refine⟨⟨q1,?_,fun y hy=>?_,?_,by rw[q5,PK,p.size]⟩,by rw[q2,e1];exact(EN o hA hlt).symm,gD o hA hlt⟩
 ·exact q3.nodup_iff.2 (jf h1 (fun h=>h2 (p.sub b h)) h3 p.nod fun x hx y hy=>h5 x hx y (p.sub y hy))
 ·have:=q3.mem_iff.1 hy;simp only[AT.blocks,Pz,Px]at this⊢;exact this.imp id (Or.imp id (p.sub y))
 ·refine((p.kp.mono (G:=fun y=>y∈(AT.node b l k0 v0 r).blocks) fun y _ hy=>by simp[AT.blocks,hy]).setCell (b:=b) (j:=j) (fun _=>by simp[AT.blocks]) x).trans' q4 fun y _ hy=>?_;simp only[AT.blocks,Pz,Px]at hy⊢;exact hy.imp id (Or.imp id (p.sub y))
structure jr(N:Nd K V)(own:Nat→Nat)(t:Nat)(T R:AT K V)(b:Nat)(k:K)(v:V)(lp rp:Option Addr)(d:Int)(w w1:World):Prop where
 inT:aC N own t w1 R
 ob:own b=t
 hb:w1.heap[b]?=some (.cells (N.cells k v lp rp d) N.ty (0,0))
 toL:T.toL=(k,v)::R.toL
 perm:T.blocks.Perm (b::R.blocks)
 kp:Kp (fun y=>y∈T.blocks) w w1
 size:w1.heap.size=w.heap.size
theorem jr.sep{R:AT K V}{v:V}{lp rp:Option Addr}{d:Int}{T:AT K V}(p:jr N own t T R b k v lp rp d w w1)(hn:T.blocks.Nodup):b∉R.blocks∧R.blocks.Nodup∧b∈T.blocks∧∀y∈R.blocks,y∈T.blocks:=by
 have:=p.perm.nodup_iff.1 hn;rw[PV]at this;exact⟨this.1,this.2,p.perm.mem_iff.2 (by simp),fun y hy=>p.perm.mem_iff.2 (by simp[hy])⟩
theorem Ed{R1:AT K V}{c:Nat}{kc:K}{vc:V}{lp rp:Option Addr}{d:Int}(hn:(AT.node b l k0 v0 r).blocks.Nodup)(p:jr N own t l R1 c kc vc lp rp d w w1)
  (q1:aC N own t w' T')(q2:T'.toL=R1.toL++(k0,v0)::r.toL)(q3:T'.blocks.Perm (b::(R1.blocks++r.blocks)))(q4:Kp (fun y=>y∈b::(R1.blocks++r.blocks)) (w1.setCell ⟨b,j,none⟩ x) w')(q5:w'.heap.size=(w1.setCell ⟨b,j,none⟩ x).heap.size):
  jr N own t (.node b l k0 v0 r) T' c kc vc lp rp d w w':=by
 obtain⟨h1,h2,h3,h4,h5⟩:=jR hn;obtain⟨s1,s2,s3,s4⟩:=p.sep h3;have hcb:c≠b:=fun e=>h1 (e▸s3);refine⟨q1,p.ob,q4.at (aw p.hb hcb x) ?_,by simp only[AT.toL];rw[q2,p.toL];rfl,?_,?_,by rw[q5,PK,p.size]⟩
 ·simp only[Pz,Px,P6];exact⟨hcb,s1,fun h=>h5 c s3 c h rfl⟩
 ·simp only[AT.blocks];rw[SH];intro y;have e1:=SH.1 p.perm y;have e2:=SH.1 q3 y;simp only[Sh,Si]at e1 e2⊢;omega
 ·refine((p.kp.mono (G:=fun y=>y∈(AT.node b l k0 v0 r).blocks) fun y _ hy=>by simp[AT.blocks,hy]).setCell (b:=b) (j:=j) (fun _=>by simp[AT.blocks]) x).trans' q4 fun y _ hy=>?_;simp only[AT.blocks,Pz,Px]at hy⊢;exact hy.imp id (Or.imp (s4 y) id)
theorem Hu{R1:AT K V}{c:Nat}{kc:K}{vc:V}{lp rp:Option Addr}{d:Int}{j2:Nat}{x2:Value}(hn:(AT.node b l k v0 r).blocks.Nodup)(hs:aX o (AT.node b l k v0 r).toL)(p:jr N own t r R1 c kc vc lp rp d w w1)
  (q1:aC N own t w' T')(q2:T'.toL=l.toL++(kc,vc)::R1.toL)(q3:T'.blocks.Perm (c::(l.blocks++R1.blocks)))(q4:Kp (fun y=>y∈c::(l.blocks++R1.blocks)) ((w1.setCell ⟨c,j,none⟩ x).setCell ⟨c,j2,none⟩ x2) w')(q5:w'.heap.size=((w1.setCell ⟨c,j,none⟩ x).setCell ⟨c,j2,none⟩ x2).heap.size):
  eR N own t (.node b l k v0 r) T' w w'∧T'.toL=aK o (AT.node b l k v0 r).toL k:=by
 obtain⟨h1,h2,h3,h4,h5⟩:=jR hn;obtain⟨s1,s2,s3,s4⟩:=p.sep h4;refine⟨⟨q1,?_,fun y hy=>?_,?_,by rw[q5,PK,PK,p.size]⟩,?_⟩
 ·exact q3.nodup_iff.2 (jf (fun h=>h5 c h c s3 rfl) s1 h3 s2 fun x hx y hy=>h5 x hx y (s4 y hy))
 ·have:=q3.mem_iff.1 hy;simp only[AT.blocks,Pz,Px]at this⊢;rcases this with rfl |h |h
  ·exact .inr (.inr s3)
  ·exact .inr (.inl h)
  ·exact .inr (.inr (s4 y h))
 ·refine(((p.kp.mono (G:=fun y=>y∈(AT.node b l k v0 r).blocks) fun y _ hy=>by simp[AT.blocks,hy]).setCell (b:=c) (j:=j) (fun _=>by simp[AT.blocks,s3]) x).setCell (b:=c) (j:=j2) (fun _=>by simp[AT.blocks,s3]) x2).trans' q4 fun y _ hy=>?_;simp only[AT.blocks,Pz,Px]at hy⊢;rcases hy with rfl |h |h
  ·exact .inr (.inr s3)
  ·exact .inr (.inl h)
  ·exact .inr (.inr (s4 y h))
 ·have:=CP o (A:=l.toL) (B:=r.toL) (a:=k) (x:=v0) (dO o hs).1;rw[q2,←p.toL];exact this.symm
end
abbrev fW{K V:Type}(N:Nd K V)(o:eN K)(own:Nat→Nat)(t:Nat)(T:AT K V)(k:K)(w:World)(e:Ending)(w':World):Prop:=
 ∃T',e=.returned (.tuple #[.pointer T'.ptr,.bool (ag o T.toL k).isSome])∧eR N own t T T' w w'∧T'.toL=aK o T.toL k
abbrev eE{K V:Type}(N:Nd K V)(own:Nat→Nat)(t:Nat)(T:AT K V)(w:World)(e:Ending)(w':World):Prop:=
 ∃R b k v lp rp d,e=.returned (.tuple #[.pointer R.ptr,.pointer (some ⟨b,0,none⟩)])∧jr N own t T R b k v lp rp d w w'
theorem tw(l:List UInt8):Op.bytesLess l l=false:=by
 induction l with
 |nil=>rfl
 |cons a l ih=>simp[Op.bytesLess,ih]
theorem mI:∀(a b:List UInt8),Op.bytesLess a b=false→Op.bytesLess b a=false→a=b
 |[],[],_,_=>rfl
 |[],_::_,h,_=>by simp[Op.bytesLess]at h
 |_::_,[],_,h=>by simp[Op.bytesLess]at h
 |x::a,y::b,h,k=>by
  simp only[Op.bytesLess,Bool.or_eq_false_iff,Bool.and_eq_false_iff,UP,Qz,Va]at h k;have e:x=y:=VU k.1 h.1;subst e;rw[mI a b (by simpa using h.2) (by simpa using k.2)]
theorem oQ:∀(a b c:List UInt8),Op.bytesLess a b=true→Op.bytesLess b c=true→Op.bytesLess a c=true
 |_,_,[],_,k=>by cases ‹List UInt8›<;>simp[Op.bytesLess]at k
 |[],[],_::_,h,_=>by simp[Op.bytesLess]at h
 |[],_::_,_::_,_,_=>rfl
 |_::_,[],_::_,h,_=>by simp[Op.bytesLess]at h
 |x::a,y::b,z::c,h,k=>by
  simp only[Op.bytesLess,Bool.or_eq_true,UU,P7,RV]at h k⊢;rcases h with h |⟨rfl,h⟩
  ·rcases k with k |⟨rfl,k⟩
   ·exact .inl (UInt8.lt_trans h k)
   ·exact .inl h
  ·rcases k with k |⟨rfl,k⟩
   ·exact .inl k
   ·exact .inr ⟨rfl,oQ a b c h k⟩
def oS:eN ByteArray where
 lt a b:=Op.bytesLess a.toList b.toList
 irr a:=tw _
 tri a b h k:=by
  have:=mI _ _ h k;rw[Rh,Rh]at this;exact Vs (SJ this)
 tr a b c h k:=oQ _ _ _ h k
theorem eh{a b:ByteArray}(h:a≠b):(a.toList==b.toList)=false:=by
 rw[Qz];intro e;rw[Rh,Rh]at e;exact h (Vs (SJ e))
def oN:eN Int where
 lt a b:=decide (a<b)
 irr a:=by simp
 tri a b h k:=by simp at h k;omega
 tr a b c h k:=by simp at h k⊢;omega
end
section
theorem lh{P:Prop}(h:P:=by
 cases T with
 |nil=>
  go_enter iN,iJ;go_wp2;go_ret;exact⟨rfl,rfl⟩
 |node b l k v r=>
  have c0:w.cell? ⟨b,OD,none⟩=some (.int .i64 ((1+max l.hgt r.hgt:Nat):Int)):=aa h.2.1 OD;simp only[AT.ptr,AT.hgt];clear h;go_enter iN,iJ;go_wp2;go_ret;exact⟨rfl,rfl⟩):P:=h
theorem kZ{P:Prop}(h:P:=by
 have c2:w.cell? ⟨b,OL,none⟩=some (.pointer l.ptr):=aa hb OL;have c3:w.cell? ⟨b,OH,none⟩=some (.pointer r.ptr):=aa hb OH;have HL:=zH (fun n=>sw (own:=own) (t:=t) l (w.drewN n) (hl.kept fun _ _=>⟨rfl,rfl⟩));have HRR:=zH (fun n=>sw (own:=own) (t:=t) r (w.drewN n) (hr.kept fun _ _=>⟨rfl,rfl⟩));generalize l.hgt=hl0 at*;generalize r.hgt=hr0 at*;generalize l.ptr=lp at*;generalize r.ptr=rp at*;clear hb hl hr;go_enter jA,jx;go_wp2;go_quiet (first
  |((with_reducible exact kz (HRR.out _)))
  |((with_reducible exact kz (HL.out _))))
 go_wp2;go_ret;refine⟨?_,_,rfl⟩;congr 2):P:=h
theorem fw{P:Prop}(h:P:=by
 have c2:w.cell? ⟨b,OL,none⟩=some (.pointer l.ptr):=aa hb OL;have c3:w.cell? ⟨b,OH,none⟩=some (.pointer r.ptr):=aa hb OH;have c4:w.cell? ⟨b,OD,none⟩=some (.int .i64 d):=aa hb OD;have f4:=ak hb OD;have HS':∀(n:Nat) (x:Int),x=((1+max l.hgt r.hgt:Nat):Int)→((w.setCell ⟨b,OD,none⟩ (.int .i64 x)).drewN n).heap[b]?=some (.cells (nd.cells k v l.ptr r.ptr ((1+max l.hgt r.hgt:Nat):Int)) nd.ty (0,0))∧Kp (fun x=>x=b) w ((w.setCell ⟨b,OD,none⟩ (.int .i64 x)).drewN n)∧((w.setCell ⟨b,OD,none⟩ (.int .i64 x)).drewN n).heap.size=w.heap.size:=fun n x hx=>by
  subst hx;exact⟨aq hb OD _,((Kp.refl (fun x=>x=b) w).setCell (fun _=>rfl) _).drewN n,PK _ _ _⟩
 have HS:=zH HS';have HL:=zH (fun n=>sw (own:=own) (t:=t) l (w.drewN n) (hl.kept fun _ _=>⟨rfl,rfl⟩));have HRR:=zH (fun n=>sw (own:=own) (t:=t) r (w.drewN n) (hr.kept fun _ _=>⟨rfl,rfl⟩));generalize l.hgt=hl0 at*;generalize r.hgt=hr0 at*;generalize l.ptr=lp at*;generalize r.ptr=rp at*;clear hb hl hr HS';go_enter dT,dQ;go_wp2_with fail;refine lj 15 (by kernel_rfl) (by kernel_rfl) ?_;simp only[UJ,List.take_zero,QG,Qo]
 repeat(go_big_quiet_step (first
  |((with_reducible exact kz (HRR.out _)))
  |((with_reducible exact kz (HL.out _)))))
 refine wpQuiet_nil ?_;rintro _ ⟨n2,rfl⟩;go_wp2
 all_goals (go_end0;exact⟨rfl,HS.out n2 _ (by push_cast;omega)⟩)):P:=h
theorem fv{P:Prop}(h:P:=by
 simp only[PV,Pz,Px,P6]at hn;obtain⟨⟨hbc,⟨hbl,hbx⟩,hbr⟩,⟨⟨hcl,hcx⟩,hcr0⟩,_⟩:=hn;have hb2:((w.setCell ⟨b,OH,none⟩ (.pointer x.ptr)).setCell ⟨c,OL,none⟩ (.pointer (some ⟨b,0,none⟩))).heap[b]?=some (.cells (nd.cells k v l.ptr x.ptr d) nd.ty (0,0)):=aw (aq hb OH _) hbc _;have hc2:((w.setCell ⟨b,OH,none⟩ (.pointer x.ptr)).setCell ⟨c,OL,none⟩ (.pointer (some ⟨b,0,none⟩))).heap[c]?=some (.cells (nd.cells k2 v2 (some ⟨b,0,none⟩) r.ptr d2) nd.ty (0,0)):=aq (aw hc (Qj hbc) _) OL _;have l2:=(hl.setCell (j:=OH) hbl (.pointer x.ptr)).setCell (j:=OL) hcl (.pointer (some ⟨b,0,none⟩));have x2:=(hx.setCell (j:=OH) hbx (.pointer x.ptr)).setCell (j:=OL) hcx (.pointer (some ⟨b,0,none⟩));have r2:=(hr.setCell (j:=OH) hbr (.pointer x.ptr)).setCell (j:=OL) hcr0 (.pointer (some ⟨b,0,none⟩));have K2:Kp (fun y=>y=b∨y=c) w ((w.setCell ⟨b,OH,none⟩ (.pointer x.ptr)).setCell ⟨c,OL,none⟩ (.pointer (some ⟨b,0,none⟩))):=((Kp.refl _ w).setCell (fun _=>.inl rfl) _).setCell (fun _=>.inr rfl) _;have S2:((w.setCell ⟨b,OH,none⟩ (.pointer x.ptr)).setCell ⟨c,OL,none⟩ (.pointer (some ⟨b,0,none⟩))).heap.size=w.heap.size:=by rw[PK,PK]
 have CM1:=zH (measure b k v l x d _ hb2 l2 x2 (by omega));have c3:w.cell? ⟨b,OH,none⟩=some (.pointer (some ⟨c,0,none⟩)):=aa hb OH;have c2:w.cell? ⟨c,OL,none⟩=some (.pointer x.ptr):=aa hc OL;have f3:=ak hb OH;have f2:=ak hc OL;generalize hW:(w.setCell ⟨b,OH,none⟩ (.pointer x.ptr)).setCell ⟨c,OL,none⟩ (.pointer (some ⟨b,0,none⟩))=W2 at hb2 hc2 l2 x2 r2 K2 S2;have HM':∀W3:World,W3.heap[b]?=some (.cells (nd.cells k v l.ptr x.ptr ((1+max l.hgt x.hgt:Nat):Int)) nd.ty (0,0))→Kp (fun y=>y=b) W2 W3→W3.heap.size=W2.heap.size→
   Calls prog eG #[.pointer (some ⟨c,0,none⟩)] W3 fun e w'=>e=.returned (.tuple #[])∧aC nd own t w' (.node c (.node b l k v x) k2 v2 r)∧Kp (fun y=>y=b∨y=c) w w'∧w'.heap.size=w.heap.size:=fun W3 h3 k3 s3=>by
  have e3:=aO.refl own W2;have hcb:∀y,y∈(.node b l k v x:AT K V).blocks→¬y=c:=fun y hy e=>by
   exact Oe
  have i3:aC nd own t W3 (.node b l k v x):=⟨ob,h3,l2.kp k3 (fun y hy e=>by subst e;first |exact hbl hy |exact hbx hy) e3,x2.kp k3 (fun y hy e=>by subst e;first |exact hbl hy |exact hbx hy) e3⟩;have r3:aC nd own t W3 r:=r2.kp k3 (fun y hy e=>by subst e;exact hbr hy) e3;refine(measure c k2 v2 (.node b l k v x) r d2 W3 (k3.at hc2 (Qj hbc)) i3 r3 (by simp only[AT.hgt];omega)).mono ?_;rintro e w' ⟨rfl,h4,k4,s4⟩;have hci:=hcb;have hcr:∀y∈r.blocks,¬y=c:=fun y hy e=>by subst e;exact hcr0 hy
  exact⟨rfl,⟨oc,h4,i3.kp k4 hci (aO.refl _ _),(r3.kp k4 hcr (aO.refl _ _))⟩,(K2.trans' k3 fun y _ hy=>.inl hy).trans' k4 fun y _ hy=>.inr hy,by omega⟩
 have HM:=zH HM';subst hW;clear hb hc hl hx hr hb2 hc2 l2 x2 r2 K2 S2 HM' hbl hbx hbr hcl hcx hcr0 hs;generalize x.ptr=xp at*;have hcb2:=Qj hbc;go_enter dS,dP;go_wp2_with (first
  |((with_reducible refine(CM1.out).mono ?_);rintro e w3 ⟨rfl,h3,k3,s3⟩)
  |((with_reducible refine(HM.out _ h3 k3 s3).mono ?_);rintro e w4 ⟨rfl,i4,k4,s4⟩))
 go_ret;exact⟨rfl,i4,k4,s4⟩):P:=h
theorem dM{P:Prop}(h:P:=by
 simp only[PV,Pz,Px,P6]at hn;obtain⟨⟨hbc,⟨hbl,hbx⟩,hbr⟩,⟨⟨hcl,hcx⟩,hcr0⟩,_⟩:=hn;have hb2:((w.setCell ⟨b,OL,none⟩ (.pointer x.ptr)).setCell ⟨c,OH,none⟩ (.pointer (some ⟨b,0,none⟩))).heap[b]?=some (.cells (nd.cells k v x.ptr l.ptr d) nd.ty (0,0)):=aw (aq hb OL _) hbc _;have hc2:((w.setCell ⟨b,OL,none⟩ (.pointer x.ptr)).setCell ⟨c,OH,none⟩ (.pointer (some ⟨b,0,none⟩))).heap[c]?=some (.cells (nd.cells k2 v2 r.ptr (some ⟨b,0,none⟩) d2) nd.ty (0,0)):=aq (aw hc (Qj hbc) _) OH _;have l2:=(hl.setCell (j:=OL) hbl (.pointer x.ptr)).setCell (j:=OH) hcl (.pointer (some ⟨b,0,none⟩));have x2:=(hx.setCell (j:=OL) hbx (.pointer x.ptr)).setCell (j:=OH) hcx (.pointer (some ⟨b,0,none⟩));have r2:=(hr.setCell (j:=OL) hbr (.pointer x.ptr)).setCell (j:=OH) hcr0 (.pointer (some ⟨b,0,none⟩));have K2:Kp (fun y=>y=b∨y=c) w ((w.setCell ⟨b,OL,none⟩ (.pointer x.ptr)).setCell ⟨c,OH,none⟩ (.pointer (some ⟨b,0,none⟩))):=((Kp.refl _ w).setCell (fun _=>.inl rfl) _).setCell (fun _=>.inr rfl) _;have S2:((w.setCell ⟨b,OL,none⟩ (.pointer x.ptr)).setCell ⟨c,OH,none⟩ (.pointer (some ⟨b,0,none⟩))).heap.size=w.heap.size:=by rw[PK,PK]
 have CM1:=zH (measure b k v x l d _ hb2 x2 l2 (by omega));have c3:w.cell? ⟨b,OL,none⟩=some (.pointer (some ⟨c,0,none⟩)):=aa hb OL;have c2:w.cell? ⟨c,OH,none⟩=some (.pointer x.ptr):=aa hc OH;have f3:=ak hb OL;have f2:=ak hc OH;generalize hW:(w.setCell ⟨b,OL,none⟩ (.pointer x.ptr)).setCell ⟨c,OH,none⟩ (.pointer (some ⟨b,0,none⟩))=W2 at hb2 hc2 l2 x2 r2 K2 S2;have HM':∀W3:World,W3.heap[b]?=some (.cells (nd.cells k v x.ptr l.ptr ((1+max x.hgt l.hgt:Nat):Int)) nd.ty (0,0))→Kp (fun y=>y=b) W2 W3→W3.heap.size=W2.heap.size→
   Calls prog eG #[.pointer (some ⟨c,0,none⟩)] W3 fun e w'=>e=.returned (.tuple #[])∧aC nd own t w' (.node c r k2 v2 (.node b x k v l))∧Kp (fun y=>y=b∨y=c) w w'∧w'.heap.size=w.heap.size:=fun W3 h3 k3 s3=>by
  have e3:=aO.refl own W2;have hcb:∀y,y∈(.node b x k v l:AT K V).blocks→¬y=c:=fun y hy e=>by
   exact Oe
  have i3:aC nd own t W3 (.node b x k v l):=⟨ob,h3,x2.kp k3 (fun y hy e=>by subst e;first |exact hbl hy |exact hbx hy) e3,l2.kp k3 (fun y hy e=>by subst e;first |exact hbl hy |exact hbx hy) e3⟩;have r3:aC nd own t W3 r:=r2.kp k3 (fun y hy e=>by subst e;exact hbr hy) e3;refine(measure c k2 v2 r (.node b x k v l) d2 W3 (k3.at hc2 (Qj hbc)) r3 i3 (by simp only[AT.hgt];omega)).mono ?_;rintro e w' ⟨rfl,h4,k4,s4⟩;have hci:=hcb;have hcr:∀y∈r.blocks,¬y=c:=fun y hy e=>by subst e;exact hcr0 hy
  exact⟨rfl,⟨oc,h4,(r3.kp k4 hcr (aO.refl _ _)),i3.kp k4 hci (aO.refl _ _)⟩,(K2.trans' k3 fun y _ hy=>.inl hy).trans' k4 fun y _ hy=>.inr hy,by omega⟩
 have HM:=zH HM';subst hW;clear hb hc hl hx hr hb2 hc2 l2 x2 r2 K2 S2 HM' hbl hbx hbr hcl hcx hcr0 hs;generalize x.ptr=xp at*;have hcb2:=Qj hbc;go_enter dl,di;go_wp2_with (first
  |((with_reducible refine(CM1.out).mono ?_);rintro e w3 ⟨rfl,h3,k3,s3⟩)
  |((with_reducible refine(HM.out _ h3 k3 s3).mono ?_);rintro e w4 ⟨rfl,i4,k4,s4⟩))
 go_ret;exact⟨rfl,i4,k4,s4⟩):P:=h
theorem jt{P:Prop}(h:P:=by
 have CM:=zH (measure b k v l r d w hb hl hr (by omega));have HP:=zH (fun(W:World) (h1:W.heap[b]?=some (.cells (nd.cells k v l.ptr r.ptr ((1+max l.hgt r.hgt:Nat):Int)) nd.ty (0,0))) (k1:Kp (fun x=>x=b) w W) (s1:W.heap.size=w.heap.size)=>(⟨h1,hl.kp k1 (fun y hy e=>by subst e;simp only[PV,Px,P6]at hn;exact hn.1.1 hy) (aO.refl _ _),hr.kp k1 (fun y hy e=>by subst e;simp only[PV,Px,P6]at hn;exact hn.1.2 hy) (aO.refl _ _),k1.mono (fun y _ hy=>by rw[hy];simp),s1⟩:wG nd own t b l k v r w W));have HLb:=zH (fun(W:World) (p:wG nd own t b l k v r w W)=>tg b k v l r _ W p.hb p.il p.ir (by omega));rcases(by omega:r.hgt=l.hgt+2∨l.hgt=r.hgt+2∨(r.hgt≠l.hgt+2∧l.hgt≠r.hgt+2))with hq |hq |hq
 ·
  have g2:((r.hgt:Int) - l.hgt==2)=true:=by rw[RV];omega
  cases r with
  |nil=>simp only[AT.hgt]at hq;omega
  |node c bl k2 v2 br=>
  have hq2:=hq;simp only[AT.hgt]at hs hq2;have HC1':∀W,wG nd own t b l k v (.node c bl k2 v2 br) w W→W.cell? ⟨b,OH,none⟩=some (.pointer (some ⟨c,0,none⟩)):=fun W p=>aa p.hb OH;have HC1:=zH HC1';clear HC1';have HF1:=zH (fun(W:World) (p:wG nd own t b l k v (.node c bl k2 v2 br) w W)=>ak p.hb OH);have HLc:=zH (fun(W:World) (p:wG nd own t b l k v (.node c bl k2 v2 br) w W)=>tg c k2 v2 bl br _ W p.ir.2.1 p.ir.2.2.1 p.ir.2.2.2 (by omega));by_cases hd:(br.hgt:Int) - bl.hgt<0
  ·cases bl with
   |nil=>simp only[AT.hgt]at hd;omega
   |node e nl k3 v3 nr=>
   simp only[AT.blocks,PN,Qg,PV,Pz,Px,P6,PW]at hn;have HT1':∀W,wG nd own t b l k v (.node c (.node e nl k3 v3 nr) k2 v2 br) w W→Calls prog cR #[.pointer (some ⟨c,0,none⟩)] W fun e1 W'=>e1=.returned (.pointer (some ⟨e,0,none⟩))∧aC nd own t W' (.node e nl k3 v3 (.node c nr k2 v2 br))∧W'.heap[b]?=some (.cells (nd.cells k v l.ptr (some ⟨c,0,none⟩) ((1+max l.hgt (AT.node c (AT.node e nl k3 v3 nr) k2 v2 br).hgt:Nat):Int)) nd.ty (0,0))∧aC nd own t W' l∧Kp (fun y=>y=c∨y=e) W W'∧W'.heap.size=W.heap.size:=fun W p=>by
    have hC:=p.ir;have hE:=hC.2.2.1;refine(eS c e k2 k3 v2 v3 br nr nl _ _ W hC.1 hE.1 hC.2.1 hE.2.1 hC.2.2.2 hE.2.2.2 hE.2.2.1 (by simp only[Qg,PV,Pz,Px,P6,PW];grind) (by simp only[AT.hgt]at hs;omega)).mono ?_;rintro e1 W' ⟨rfl,i1,k1,s1⟩;exact⟨rfl,i1,k1.at p.hb (by grind),(p.il).kp k1 (by grind) (aO.refl _ _),k1,s1⟩
   have HT1:=zH HT1';have HT2':∀W0 W,wG nd own t b l k v (.node c (.node e nl k3 v3 nr) k2 v2 br) w W0→aC nd own t W (.node e nl k3 v3 (.node c nr k2 v2 br))→W.heap[b]?=some (.cells (nd.cells k v l.ptr (some ⟨c,0,none⟩) ((1+max l.hgt (AT.node c (AT.node e nl k3 v3 nr) k2 v2 br).hgt:Nat):Int)) nd.ty (0,0))→aC nd own t W l→Kp (fun y=>y=c∨y=e) W0 W→W.heap.size=W0.heap.size→
     Calls prog dK #[.pointer (some ⟨b,0,none⟩)] (W.setCell ⟨b,OH,none⟩ (.pointer (some ⟨e,0,none⟩))) (gK nd own t b l k v (.node c (.node e nl k3 v3 nr) k2 v2 br) w):=fun W0 W p i1 h1 j1 k1 s1=>by
    have hIl:=i1.setCell (b:=b) (j:=OH) (by simp only[AT.blocks,Pz,Px,P6];grind) (.pointer (some ⟨e,0,none⟩));refine(gO b e k k3 v v3 l nl (.node c nr k2 v2 br) _ _ (W.setCell ⟨b,OH,none⟩ (.pointer (some ⟨e,0,none⟩))) ob hIl.1 (aq h1 OH _) hIl.2.1 (j1.setCell (b:=b) (j:=OH) (by grind) _) hIl.2.2.1 hIl.2.2.2 (by simp only[AT.blocks,Qg,PV,Pz,Px,P6,PW];grind) (by simp only[AT.hgt]at hs⊢;omega)).mono ?_;rintro e1 W' ⟨rfl,i2,kp2,s2⟩;refine⟨.node e (.node b l k v nl) k3 v3 (.node c nr k2 v2 br),rfl,i2,by simp[AT.toL],?_,?_,by rw[s2,PK,s1,p.size]⟩
    ·simp only[AT.blocks];exact NZ
    ·refine((p.kp.trans' k1 fun y _ hy=>?_).setCell (b:=b) (fun _=>by simp) _).trans' kp2 fun y _ hy=>?_
     ·rcases hy with rfl |rfl<;>simp[AT.blocks]
     ·rcases hy with rfl |rfl<;>simp[AT.blocks]
   have HT2:=zH HT2';clear HT1' HT2' hn hs hq hq2 hl hr hb;go_enter dD,dy;go_wp2_with (first
   |((with_reducible refine(CM.out).mono ?_);rintro e1 w1 ⟨rfl,h1,k1,s1⟩;have p1:=HP.out _ h1 k1 s1)
   |((with_reducible refine(HLb.out _ p1).mono ?_);rintro e1 wx ⟨rfl,n1,rfl⟩;have p2:=p1.drewN n1;have c1:=HC1.out _ p2;have f1:=HF1.out _ p2)
   |((with_reducible refine(HLc.out _ p2).mono ?_);rintro e1 wx ⟨rfl,n2,rfl⟩;have p3:=p1.drewN (n1+n2);have c2:=HC1.out _ p3;have f2:=HF1.out _ p3)
   |((with_reducible refine(HT1.out _ p3).mono ?_);rintro e1 w4 ⟨rfl,i4,h4,j4,k4,s4⟩;have H4:=zH h4;have c4:w4.cell? ⟨b,OH,none⟩=some (.pointer (some ⟨c,0,none⟩)):=aa h4 OH;have f4:=ak h4 OH;clear h4)
   |((with_reducible refine(HT2.out _ _ p3 i4 H4.out j4 k4 s4).mono ?_);rintro e1 w5 ⟨T',rfl,q1,q2,q3,q4,q5⟩))
   go_ret;exact⟨T',rfl,q1,q2,q3,q4,q5⟩
  ·simp only[AT.blocks,PV,Pz,Px,P6,PW]at hn;have HT3':∀W,wG nd own t b l k v (.node c bl k2 v2 br) w W→Calls prog dK #[.pointer (some ⟨b,0,none⟩)] W (gK nd own t b l k v (.node c bl k2 v2 br) w):=fun W p=>by
    have hC:=p.ir;refine(gO b c k k2 v v2 l bl br _ _ W ob hC.1 p.hb hC.2.1 (p.il) hC.2.2.1 hC.2.2.2 (by simp only[Qg,PV,Pz,Px,P6,PW];grind) (by omega)).mono ?_;rintro e1 W' ⟨rfl,i2,kp2,s2⟩;refine⟨.node c (.node b l k v bl) k2 v2 br,rfl,i2,by simp[AT.toL],?_,?_,by rw[s2,p.size]⟩
    ·simp only[AT.blocks];exact NZ
    ·refine p.kp.trans' kp2 fun y _ hy=>?_;rcases hy with rfl |rfl<;>simp[AT.blocks]
   exact Wy
 ·
  have g2:((r.hgt:Int) - l.hgt==2)=false:=by rw[Qz];omega
  have g3:((r.hgt:Int) - l.hgt== -2)=true:=by rw[RV];omega
  cases l with
  |nil=>simp only[AT.hgt]at hq;omega
  |node c bl k2 v2 br=>
  have hq2:=hq;simp only[AT.hgt]at hs hq2;have HC1':∀W,wG nd own t b (.node c bl k2 v2 br) k v r w W→W.cell? ⟨b,OL,none⟩=some (.pointer (some ⟨c,0,none⟩)):=fun W p=>aa p.hb OL;have HC1:=zH HC1';clear HC1';have HF1:=zH (fun(W:World) (p:wG nd own t b (.node c bl k2 v2 br) k v r w W)=>ak p.hb OL);have HLc:=zH (fun(W:World) (p:wG nd own t b (.node c bl k2 v2 br) k v r w W)=>tg c k2 v2 bl br _ W p.il.2.1 p.il.2.2.1 p.il.2.2.2 (by omega));by_cases hd:0< (br.hgt:Int) - bl.hgt
  ·cases br with
   |nil=>simp only[AT.hgt]at hd;omega
   |node e nl k3 v3 nr=>
   simp only[AT.blocks,PN,Qg,PV,Pz,Px,P6,PW]at hn;have HT1':∀W,wG nd own t b (.node c bl k2 v2 (.node e nl k3 v3 nr)) k v r w W→Calls prog dK #[.pointer (some ⟨c,0,none⟩)] W fun e1 W'=>e1=.returned (.pointer (some ⟨e,0,none⟩))∧aC nd own t W' (.node e (.node c bl k2 v2 nl) k3 v3 nr)∧W'.heap[b]?=some (.cells (nd.cells k v (some ⟨c,0,none⟩) r.ptr ((1+max (AT.node c bl k2 v2 (AT.node e nl k3 v3 nr)).hgt r.hgt:Nat):Int)) nd.ty (0,0))∧aC nd own t W' r∧Kp (fun y=>y=c∨y=e) W W'∧W'.heap.size=W.heap.size:=fun W p=>by
    have hC:=p.il;have hE:=hC.2.2.2;refine(gO c e k2 k3 v2 v3 bl nl nr _ _ W hC.1 hE.1 hC.2.1 hE.2.1 hC.2.2.1 hE.2.2.1 hE.2.2.2 (by simp only[Qg,PV,Pz,Px,P6,PW];grind) (by simp only[AT.hgt]at hs;omega)).mono ?_;rintro e1 W' ⟨rfl,i1,k1,s1⟩;exact⟨rfl,i1,k1.at p.hb (by grind),(p.ir).kp k1 (by grind) (aO.refl _ _),k1,s1⟩
   have HT1:=zH HT1';have HT2':∀W0 W,wG nd own t b (.node c bl k2 v2 (.node e nl k3 v3 nr)) k v r w W0→aC nd own t W (.node e (.node c bl k2 v2 nl) k3 v3 nr)→W.heap[b]?=some (.cells (nd.cells k v (some ⟨c,0,none⟩) r.ptr ((1+max (AT.node c bl k2 v2 (AT.node e nl k3 v3 nr)).hgt r.hgt:Nat):Int)) nd.ty (0,0))→aC nd own t W r→Kp (fun y=>y=c∨y=e) W0 W→W.heap.size=W0.heap.size→
     Calls prog cR #[.pointer (some ⟨b,0,none⟩)] (W.setCell ⟨b,OL,none⟩ (.pointer (some ⟨e,0,none⟩))) (gK nd own t b (.node c bl k2 v2 (.node e nl k3 v3 nr)) k v r w):=fun W0 W p i1 h1 j1 k1 s1=>by
    have hIl:=i1.setCell (b:=b) (j:=OL) (by simp only[AT.blocks,PN,Pz,Px,P6];grind) (.pointer (some ⟨e,0,none⟩));refine(eS b e k k3 v v3 r nr (.node c bl k2 v2 nl) _ _ (W.setCell ⟨b,OL,none⟩ (.pointer (some ⟨e,0,none⟩))) ob hIl.1 (aq h1 OL _) hIl.2.1 (j1.setCell (b:=b) (j:=OL) (by grind) _) hIl.2.2.2 hIl.2.2.1 (by simp only[AT.blocks,Qg,PV,Pz,Px,P6,PW];grind) (by simp only[AT.hgt]at hs⊢;omega)).mono ?_;rintro e1 W' ⟨rfl,i2,kp2,s2⟩;refine⟨.node e (.node c bl k2 v2 nl) k3 v3 (.node b nr k v r),rfl,i2,by simp[AT.toL],?_,?_,by rw[s2,PK,s1,p.size]⟩
    ·simp only[AT.blocks];exact NZ
    ·refine((p.kp.trans' k1 fun y _ hy=>?_).setCell (b:=b) (fun _=>by simp) _).trans' kp2 fun y _ hy=>?_
     ·rcases hy with rfl |rfl<;>simp[AT.blocks]
     ·rcases hy with rfl |rfl<;>simp[AT.blocks]
   have HT2:=zH HT2';clear HT1' HT2' hn hs hq hq2 hl hr hb;go_enter dD,dy;go_wp2_with (first
   |((with_reducible refine(CM.out).mono ?_);rintro e1 w1 ⟨rfl,h1,k1,s1⟩;have p1:=HP.out _ h1 k1 s1)
   |((with_reducible refine(HLb.out _ p1).mono ?_);rintro e1 wx ⟨rfl,n1,rfl⟩;have p2:=p1.drewN n1;have c1:=HC1.out _ p2;have f1:=HF1.out _ p2)
   |((with_reducible refine(HLc.out _ p2).mono ?_);rintro e1 wx ⟨rfl,n2,rfl⟩;have p3:=p1.drewN (n1+n2);have c2:=HC1.out _ p3;have f2:=HF1.out _ p3)
   |((with_reducible refine(HT1.out _ p3).mono ?_);rintro e1 w4 ⟨rfl,i4,h4,j4,k4,s4⟩;have H4:=zH h4;have c4:w4.cell? ⟨b,OL,none⟩=some (.pointer (some ⟨c,0,none⟩)):=aa h4 OL;have f4:=ak h4 OL;clear h4)
   |((with_reducible refine(HT2.out _ _ p3 i4 H4.out j4 k4 s4).mono ?_);rintro e1 w5 ⟨T',rfl,q1,q2,q3,q4,q5⟩))
   go_ret;exact⟨T',rfl,q1,q2,q3,q4,q5⟩
  ·simp only[AT.blocks,PN,Qg,PV,Pz,Px,P6,PW]at hn;have HT3':∀W,wG nd own t b (.node c bl k2 v2 br) k v r w W→Calls prog cR #[.pointer (some ⟨b,0,none⟩)] W (gK nd own t b (.node c bl k2 v2 br) k v r w):=fun W p=>by
    have hC:=p.il;refine(eS b c k k2 v v2 r br bl _ _ W ob hC.1 p.hb hC.2.1 (p.ir) hC.2.2.2 hC.2.2.1 (by simp only[Qg,PV,Pz,Px,P6,PW];grind) (by omega)).mono ?_;rintro e1 W' ⟨rfl,i2,kp2,s2⟩;refine⟨.node c bl k2 v2 (.node b br k v r),rfl,i2,by simp[AT.toL],?_,?_,by rw[s2,p.size]⟩
    ·simp only[AT.blocks];exact NZ
    ·refine p.kp.trans' kp2 fun y _ hy=>?_;rcases hy with rfl |rfl<;>simp[AT.blocks]
   exact Wy
 ·have g2:((r.hgt:Int) - l.hgt==2)=false:=by rw[Qz];omega
  have g3:((r.hgt:Int) - l.hgt== -2)=false:=by rw[Qz];omega
  have HF:=zH (fun(W:World) (p:wG nd own t b l k v r w W)=>(⟨.node b l k v r,rfl,⟨ob,p.hb,p.il,p.ir⟩,rfl,Q0 _,p.kp,p.size⟩:gK nd own t b l k v r w (.returned (.pointer (some ⟨b,0,none⟩))) W));clear hq hs hn hl hr hb;go_enter dD,dy;go_wp2_with (first
   |((with_reducible refine(CM.out).mono ?_);rintro e1 w1 ⟨rfl,h1,k1,s1⟩;have p1:=HP.out _ h1 k1 s1)
   |((with_reducible refine(HLb.out _ p1).mono ?_);rintro e1 wx ⟨rfl,n1,rfl⟩;have p2:=p1.drewN n1))
  go_ret;exact HF.out _ p2):P:=h
end
section
open AvlP
namespace AvI
abbrev K:=ByteArray
abbrev V:=Int
abbrev OL:Nat:=2
abbrev OH:Nat:=3
abbrev OD:Nat:=4
abbrev O:=oS
abbrev TY:TypeId:=388
abbrev KV(k:K):Value:=.string k
abbrev L5(v:V):Value:=.int .i64 v
abbrev uT(v:V):List Value:=[.int .i64 v]
abbrev Kv(k:K)(v:V)(l r:Option Addr)(d:Int):Array Value:=#[.string k,.int .i64 v,.pointer l,.pointer r,.int .i64 d]
abbrev fO:=func232
abbrev fL:=ntmps232
abbrev kJ:=func239
abbrev kE:=ntmps239
abbrev fN:=func168
abbrev fK:=ntmps168
abbrev iN:=func370
abbrev iJ:=ntmps370
abbrev fm:=func293
abbrev fg:=ntmps293
abbrev iM:=func214
abbrev iI:=ntmps214
abbrev jA:=func343
abbrev jx:=ntmps343
abbrev fM:=func334
abbrev fJ:=ntmps334
abbrev cP:FuncId:=301
abbrev dD:=func301
abbrev dy:=ntmps301
abbrev eG:FuncId:=342
abbrev dT:=func342
abbrev dQ:=ntmps342
abbrev fu:=func244
abbrev ft:=ntmps244
abbrev cR:FuncId:=344
abbrev dl:=func344
abbrev di:=ntmps344
abbrev dK:FuncId:=345
abbrev dS:=func345
abbrev dP:=ntmps345
def nd:Nd ByteArray Int:=⟨fun k v l r d=>#[.string k,.int .i64 v,.pointer l,.pointer r,.int .i64 d],388⟩
section
variable{own:Nat→Nat}{t:Nat}
theorem sw(T:AT ByteArray Int)(w:World)(h:aC nd own t w T):Calls prog 370 #[.pointer T.ptr] w fun e w'=>e=.returned (.int .i64 (T.hgt:Nat))∧w=w':=lh
theorem tg(b:Nat)(k:ByteArray)(v:Int)(l r:AT ByteArray Int)(d:Int)(w:World)(hb:w.heap[b]?=some (.cells (nd.cells k v l.ptr r.ptr d) nd.ty (0,0)))(hl:aC nd own t w l)(hr:aC nd own t w r)(hlr:l.hgt≤1000000∧r.hgt≤1000000):
 Calls prog 343 #[.pointer (some ⟨b,0,none⟩)] w fun e w'=>e=.returned (.int .i64 ((r.hgt:Int) - l.hgt))∧∃n,w'=w.drewN n:=kZ
theorem measure(b:Nat)(k:ByteArray)(v:Int)(l r:AT ByteArray Int)(d:Int)(w:World)(hb:w.heap[b]?=some (.cells (nd.cells k v l.ptr r.ptr d) nd.ty (0,0)))(hl:aC nd own t w l)(hr:aC nd own t w r)(hlr:l.hgt≤1000000∧r.hgt≤1000000):
 Calls prog 342 #[.pointer (some ⟨b,0,none⟩)] w fun e w'=>e=.returned (.tuple #[])∧w'.heap[b]?=some (.cells (nd.cells k v l.ptr r.ptr ((1+max l.hgt r.hgt:Nat):Int)) nd.ty (0,0))∧Kp (fun x=>x=b) w w'∧w'.heap.size=w.heap.size:=fw
theorem gO(b c:Nat)(k k2:ByteArray)(v v2:Int)(l x r:AT ByteArray Int)(d d2:Int)(w:World)(ob:own b=t)(oc:own c=t)(hb:w.heap[b]?=some (.cells (nd.cells k v l.ptr (some ⟨c,0,none⟩) d) nd.ty (0,0)))(hc:w.heap[c]?=some (.cells (nd.cells k2 v2 x.ptr r.ptr d2) nd.ty (0,0)))
 (hl:aC nd own t w l)(hx:aC nd own t w x)(hr:aC nd own t w r)(hn:(b::c::(l.blocks++x.blocks++r.blocks)).Nodup)(hs:l.hgt≤999990∧x.hgt≤999990∧r.hgt≤999990):
 Calls prog 345 #[.pointer (some ⟨b,0,none⟩)] w fun e w'=>e=.returned (.pointer (some ⟨c,0,none⟩))∧aC nd own t w' (.node c (.node b l k v x) k2 v2 r)∧Kp (fun y=>y=b∨y=c) w w'∧w'.heap.size=w.heap.size:=fv
theorem eS(b c:Nat)(k k2:ByteArray)(v v2:Int)(l x r:AT ByteArray Int)(d d2:Int)(w:World)(ob:own b=t)(oc:own c=t)(hb:w.heap[b]?=some (.cells (nd.cells k v (some ⟨c,0,none⟩) l.ptr d) nd.ty (0,0)))(hc:w.heap[c]?=some (.cells (nd.cells k2 v2 r.ptr x.ptr d2) nd.ty (0,0)))
 (hl:aC nd own t w l)(hx:aC nd own t w x)(hr:aC nd own t w r)(hn:(b::c::(l.blocks++x.blocks++r.blocks)).Nodup)(hs:l.hgt≤999990∧x.hgt≤999990∧r.hgt≤999990):
 Calls prog 344 #[.pointer (some ⟨b,0,none⟩)] w fun e w'=>e=.returned (.pointer (some ⟨c,0,none⟩))∧aC nd own t w' (.node c r k2 v2 (.node b x k v l))∧Kp (fun y=>y=b∨y=c) w w'∧w'.heap.size=w.heap.size:=dM
theorem gX(b:Nat)(k:ByteArray)(v:Int)(l r:AT ByteArray Int)(d:Int)(w:World)(ob:own b=t)(hb:w.heap[b]?=some (.cells (nd.cells k v l.ptr r.ptr d) nd.ty (0,0)))(hl:aC nd own t w l)(hr:aC nd own t w r)(hn:(b::(l.blocks++r.blocks)).Nodup)(hs:l.hgt≤900000∧r.hgt≤900000):
 Calls prog 301 #[.pointer (some ⟨b,0,none⟩)] w (gK nd own t b l k v r w):=jt
end
end AvI
end
section
theorem BL{P:Prop}(h:P:=by
 induction T with
 |nil=>
  intro own w hO _ _ _ _;have HF:=zH (show gR nd O own t .nil k v w (.returned (.tuple #[.pointer (some ⟨w.heap.size,0,none⟩),.bool true])) (w.alloc (.cells (Kv k v none none 1) TY))from
   ⟨dj own w.heap.size t,.node w.heap.size .nil k v .nil,rfl,⟨⟨oH _ _ _,Up w _,trivial,trivial⟩,(Kp.refl _ w).alloc _,lZ own w t (Po _),oG hO _ _ (by rw[Pq];exact UE _) (by rw[Pq];exact Nat.lt_succ_self _),fun y hy=>by simp[AT.blocks]at hy;exact .inr (by omega),by simp[AT.blocks]⟩,rfl⟩)
  clear hO;simp only[AT.ptr];go_enter fu,ft;go_wp2;go_ret2;exact HF.out
 |node b l k0 v0 r ih1 ih2=>
  intro own w hO hi hn hs hlen;obtain⟨ob,hb,hl,hr⟩:=id hi;have hA:=dO O hs;have hlen2:l.toL.length+r.toL.length+1≤800000:=by simp only[AT.toL,Pu,PC]at hlen;omega
  have hn2:=hn;simp only[AT.blocks,PV,Px,P6,PW]at hn2;obtain⟨⟨hbl,hbr⟩,hnl,hnr,hdis⟩:=hn2;have hbw:=am hb;have c0:w.cell? ⟨b,0,none⟩=some ((KV k0)):=aa hb 0;have c2:w.cell? ⟨b,OL,none⟩=some (.pointer l.ptr):=aa hb OL;have c3:w.cell? ⟨b,OH,none⟩=some (.pointer r.ptr):=aa hb OH;by_cases h1:(O).lt k k0=true
  ·(first |have g1:Op.bytesLess k.toList k0.toList=true:=h1 |have g1:@LT.lt Int _ k k0:=by simpa[oN]using h1);have HI:=zH (ih1 own w hO hl hnl hA.2.2.1 (by omega));have HL':∀own1 (T1:AT K V) (w1:World),cG nd own t w w1 l.blocks own1 T1→T1.toL=ay O l.toL k v→
     Calls prog cP #[.pointer (some ⟨b,0,none⟩)] (w1.setCell ⟨b,OL,none⟩ (.pointer T1.ptr)) fun e w'=>∃own' T',e=.returned (.pointer T'.ptr)∧cG nd own t w w' (AT.node b l k0 v0 r).blocks own' T'∧T'.toL=ay O (AT.node b l k0 v0 r).toL k v:=fun own1 T1 w1 p1 e1=>by
    have hbT:b∉T1.blocks:=fun h=>by rcases p1.old b h with h |h;exact hbl h;omega
    have hb1:=p1.kp.at hb (fun h=>hbl h);have hr1:aC nd own1 t w1 r:=hr.kp p1.kp (fun y hy h=>hdis y h y hy rfl) p1.ext;have hsz:=cL O l.toL k v;have hh1:=T1.hgt_le;have hh2:=r.hgt_le;rw[e1]at hh1;refine(gX b k0 v0 T1 r _ _ ((p1.ext b hbw).trans ob) (aq hb1 OL _) (p1.inT.setCell hbT _) (hr1.setCell hbr _) ?_ (by omega)).mono ?_
    ·simp only[PV,Px,P6,PW];refine⟨⟨hbT,hbr⟩,p1.nod,hnr,fun x hx y hy e=>?_⟩;subst e;rcases p1.old x hx with h |h
     ·exact hdis x h x hy rfl
     ·have:=(hr.at x hy).2;omega
    ·rintro e w' ⟨T',rfl,q1,q2,q3,q4,q5⟩;obtain⟨z1,z2,_⟩:=Cl (o:=O) hi hn p1 e1 h1 q1 q2 q3 q4 q5;exact⟨own1,T',rfl,z1,z2⟩
   have HLV:=zH HL';have HFR':∀own1 (T1:AT K V) (w1:World),cG nd own t w w1 l.blocks own1 T1→w1.cell? ⟨b,OL,none⟩=some (.pointer l.ptr)∧w1.frozen? ⟨b,OL,none⟩=false:=fun own1 T1 w1 p1=>⟨aa (p1.kp.at hb (fun h=>hbl h)) OL,ak (p1.kp.at hb (fun h=>hbl h)) OL⟩;have HFR:=zH HFR';have hgl:ag O (AT.node b l k0 v0 r).toL k=ag O l.toL k:=jl O h1;exact NO
  ·(first |have g1:Op.bytesLess k.toList k0.toList=false:=by simpa[oS,oN]using h1 |have g1:¬@LT.lt Int _ k k0:=by simpa[oS,oN]using h1);by_cases h2:(O).lt k0 k=true
   ·(first |have g2:Op.bytesLess k0.toList k.toList=true:=h2 |have g2:@LT.lt Int _ k0 k:=by simpa[oN]using h2)
    try have g3:=eh ((O).ne h2).symm
    have HI:=zH (ih2 own w hO hr hnr hA.2.2.2 (by omega));have HL':∀own1 (T1:AT K V) (w1:World),cG nd own t w w1 r.blocks own1 T1→T1.toL=ay O r.toL k v→
      Calls prog cP #[.pointer (some ⟨b,0,none⟩)] (w1.setCell ⟨b,OH,none⟩ (.pointer T1.ptr)) fun e w'=>∃own' T',e=.returned (.pointer T'.ptr)∧cG nd own t w w' (AT.node b l k0 v0 r).blocks own' T'∧T'.toL=ay O (AT.node b l k0 v0 r).toL k v:=fun own1 T1 w1 p1 e1=>by
     have hbT:b∉T1.blocks:=fun h=>by rcases p1.old b h with h |h;exact hbr h;omega
     have hb1:=p1.kp.at hb (fun h=>hbr h);have hl1:aC nd own1 t w1 l:=hl.kp p1.kp (fun y hy h=>hdis y hy y h rfl) p1.ext;have hsz:=cL O r.toL k v;have hh1:=T1.hgt_le;have hh2:=l.hgt_le;rw[e1]at hh1;refine(gX b k0 v0 l T1 _ _ ((p1.ext b hbw).trans ob) (aq hb1 OH _) (hl1.setCell hbl _) (p1.inT.setCell hbT _) ?_ (by omega)).mono ?_
     ·simp only[PV,Px,P6,PW];refine⟨⟨hbl,hbT⟩,hnl,p1.nod,fun x hx y hy e=>?_⟩;subst e;rcases p1.old x hy with h |h
      ·exact hdis x hx x h rfl
      ·have:=(hl.at x hx).2;omega
     ·rintro e w' ⟨T',rfl,q1,q2,q3,q4,q5⟩;obtain⟨z1,z2,_⟩:=xr (o:=O) hi hn hs p1 e1 h2 q1 q2 q3 q4 q5;exact⟨own1,T',rfl,z1,z2⟩
    have HLV:=zH HL';have HFR':∀own1 (T1:AT K V) (w1:World),cG nd own t w w1 r.blocks own1 T1→w1.cell? ⟨b,OH,none⟩=some (.pointer r.ptr)∧w1.frozen? ⟨b,OH,none⟩=false:=fun own1 T1 w1 p1=>⟨aa (p1.kp.at hb (fun h=>hbr h)) OH,ak (p1.kp.at hb (fun h=>hbr h)) OH⟩;have HFR:=zH HFR';have hgl:ag O (AT.node b l k0 v0 r).toL k=ag O r.toL k:=gD O hA.1 h2;exact NO
   ·(first |have g2:Op.bytesLess k0.toList k.toList=false:=by simpa[oS,oN]using h2 |have g2:¬@LT.lt Int _ k0 k:=by simpa[oS,oN]using h2);obtain rfl:k=k0:=(O).tri _ _ (by simpa using h1) (by simpa using h2);have HL':Calls prog cP #[.pointer (some ⟨b,0,none⟩)] (fZ w b 1 (uT v)) fun e w'=>∃own' T',e=.returned (.pointer T'.ptr)∧cG nd own t w w' (AT.node b l k v0 r).blocks own' T'∧T'.toL=ay O (AT.node b l k v0 r).toL k v:=by
     have HBF:b∈(AT.node b l k v0 r).blocks:=by simp[AT.blocks]
     have HK:Kp (fun y=>y∈(AT.node b l k v0 r).blocks) w (fZ w b 1 (uT v)):=xm (Kp.refl _ w) HBF _ _;have HB:(fZ w b 1 (uT v)).heap[b]?=some (.cells (nd.cells k v l.ptr r.ptr ((1+max l.hgt r.hgt:Nat):Int)) nd.ty (0,0)):=by have h:=xn hb 1 (uT v);simpa only[Jq,nd,UY,U9,U3]using h
     have hl1:aC nd own t (fZ w b 1 (uT v)) l:=nP hl hbl _ _;have hr1:aC nd own t (fZ w b 1 (uT v)) r:=nP hr hbr _ _;have HSZ:(fZ w b 1 (uT v)).heap.size=w.heap.size:=zW _ _ _ _;have hh1:=l.hgt_le;have hh2:=r.hgt_le;refine(gX b k v l r _ _ ob HB hl1 hr1 hn (by omega)).mono ?_;rintro e w' ⟨T',rfl,q1,q2,q3,q4,q5⟩;refine⟨own,T',rfl,⟨q1,HK.trans q4,aO.refl _ _,hO.mono (by omega),fun y hy=>.inl (q3.mem_iff.1 hy),q3.nodup_iff.2 hn⟩,?_⟩;rw[q2];exact(Cz O hA.1).symm
    simp only[fZ,Nat.reduceAdd]at HL';have HLV:=zH HL';have hgl:ag O (AT.node b l k v0 r).toL k=some v0:=mc O hA.1;have HG:=zH hgl;have fz:=ak hb;(first |(have cv1:w.cell? ⟨b,1,none⟩=some (.pointer (some ⟨v0,0,none⟩)):=aa hb 1) |(have cv1:w.cell? ⟨b,1,none⟩=some (.int .i64 v0):=aa hb 1) |(have cv1:w.cell? ⟨b,1,none⟩=some (.string v0):=aa hb 1));clear HL' hi hb hl hr hA hn hs hO ih1 ih2 hlen hdis hgl h1 h2;simp only[AT.ptr];go_enter fu,ft;go_wp2_with ((with_reducible refine(HLV.out).mono ?_);rintro e2 w2 ⟨own2,T2,rfl,p2,e2'⟩);go_ret2;exact⟨own2,T2,by rw[HG.out];rfl,p2,e2'⟩):P:=h
end
section
open AvlP
namespace AvI
section
variable{t:Nat}
theorem jE(k:ByteArray)(v:Int)(T:AT ByteArray Int):∀(own:Nat→Nat) (w:World),Ow own w→aC nd own t w T→T.blocks.Nodup→aX oS T.toL→T.toL.length≤800000→
 Calls prog 244 #[.pointer T.ptr,.string k,.int .i64 v] w (gR nd oS own t T k v w):=BL
end
end AvI
abbrev cI:=@AvI.jE
end
