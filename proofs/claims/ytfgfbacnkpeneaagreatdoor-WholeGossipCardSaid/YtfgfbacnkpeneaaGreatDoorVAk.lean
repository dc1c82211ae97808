/- For WholeGossip: contracts of functions and plain laws. -/
import Derived.Test.YtfgfbacnkpeneaaGreatDoorVAj
import Derived.Test.YtfgfbacnkpeneaaGreatDoorVAh
import Derived.RangeFuncKeeps
import Derived.RangeFuncNested
set_option maxRecDepth 100000
set_option maxHeartbeats 4000000
set_option linter.unusedVariables false
set_option linter.unusedSimpArgs false
namespace Go.Proofs.YtfgfbacnkpeneaaGreatDoor
open Go.Proofs.Tryz Go.ChangeShapes Go.WideShapes Go.ChangeAt Go.RowKit Go.Deep
abbrev VH:=@Nat.lt_irrefl
theorem Uf{P:Prop}(h:P:=by
 generalize hV:(w.alloc (.cells (gN v) VT)).drew=v0 at*;refine cA (by kernel_rfl) (fun _ _ _ _ _ h=>h) hS0 11 4 0 _ _ (by decide) (by kernel_rfl) ?_;simp only[Qo,UJ,UN];((iterate 4 (refine zU ?_;simp only[zp]));refine ac ?_);refine cA (by kernel_rfl) (fun _ _ _ _ _ h=>h) hS0 9 2 5 _ _ (by decide) (by kernel_rfl) ?_;simp only[QG,Qo,UJ,UN];((iterate 2 (refine zt (fun W hW=>by skip;(first |(have y0:W.cell? ⟨w.heap.size,0,none⟩=some (.int .i64 v.tr):=aa hW 0;have y1:W.cell? ⟨w.heap.size,1,none⟩=some (.int .i64 v.id):=aa hW 1;have y2:W.cell? ⟨w.heap.size,2,none⟩=some (.int .i64 v.pa):=aa hW 2;have y3:W.cell? ⟨w.heap.size,3,none⟩=some (.int .i64 v.rv):=aa hW 3;have y4:W.cell? ⟨w.heap.size,4,none⟩=some (.string v.sv):=aa hW 4;have y5:W.cell? ⟨w.heap.size,5,none⟩=some (.string v.op):=aa hW 5;have y6:W.cell? ⟨w.heap.size,6,none⟩=some (.int .i64 v.st):=aa hW 6;have y7:W.cell? ⟨w.heap.size,7,none⟩=some (.int .i64 v.du):=aa hW 7;have y8:W.cell? ⟨w.heap.size,8,none⟩=some (.bool v.gn):=aa hW 8) |(have y0:W.cell? ⟨w.heap.size,0,none⟩=some (.int .i64 v.tr):=aa hW 0;have y1:W.cell? ⟨w.heap.size,1,none⟩=some (.int .i64 v.id):=aa hW 1;have y2:W.cell? ⟨w.heap.size,2,none⟩=some (.int .i64 v.cl):=aa hW 2;have y3:W.cell? ⟨w.heap.size,3,none⟩=some (.int .i64 v.de):=aa hW 3;have y4:W.cell? ⟨w.heap.size,4,none⟩=some (.int .i64 v.to):=aa hW 4;have y5:W.cell? ⟨w.heap.size,5,none⟩=some (.int .i64 v.fa):=aa hW 5) |skip);exact zq) ?_;simp only[zp]));refine ac ?_);refine aE 4 (by kernel_rfl) rfl (fun K hK=>?_);rw[Pj (by rfl)];go_simp;refine zu hK hS0 ?_;clear hK K;(try simp only[zp]);refine aE 7 (by kernel_rfl) rfl (fun K hK=>?_);rw[Pj (by rfl)];go_simp;(first |go_at_call 107 |go_at_call 307 |go_at_call 297 |go_at_call 245);(with_reducible refine(HI.out).mono ?_);rintro e1 w1 ⟨own1,T1,rfl,p1,e1'⟩;obtain⟨u1,f1⟩:=HFR.out _ _ _ p1;have hS1:=HS1.out _ _ _ p1 hS0;go_wp2_with fail;refine zu hK hS1 ?_;clear hK K;(try simp only[zp]);refine cA (by kernel_rfl) (fun _ _ _ _ _ h=>h) hS1 2 5 8 _ _ (by decide) (by kernel_rfl) ?_;simp only[QG,Qo,UJ,UN];((iterate 5 (refine zU ?_;simp only[zp]));refine ac ?_);refine aE 13 (by kernel_rfl) rfl (fun K hK=>?_);rw[Pj (by rfl)];go_simp;refine hK.out _ _ (aw hS1 HNB.out _) (fun hS2=>?_);clear hK K;(try simp only[zp]);refine aE 14 (by kernel_rfl) rfl (fun K hK=>?_);rw[Pj (by rfl)];go_simp;refine zu hK hS2 ?_;clear hK K;(try simp only[zp]);refine wpAnyH_done (by kernel_rfl) ?_ _;refine Vz ?_;go_wp2_with ((with_reducible refine(HLV.out _ _ _ p1 e1').mono ?_);rintro e2 w2 ⟨own2,T2,rfl,p2,e2'⟩);go_ret2;exact⟨own2,T2,by rw[HG.out];rfl,p2,e2'⟩):P:=h
theorem N0{P:Prop}(h:P:=by
 refine⟨hb2,⟨T1,rfl,e1,p1.inT.kp k2 (fun y hy e=>hB1 (by rw[←e];exact(p1.inT.at y hy).1)) (aO.refl _ _),p1.nod,dR O i3 k v⟩,?_,p1.ext,p1.ow.mono (by omega)⟩;exact(p1.kp.mono fun y _ hy=>.inr (i1.at y hy).1).trans' k2 fun y _ hy=>.inl hy):P:=h
theorem N4{P:Prop}(h:P:=by
 go_ret;refine⟨own1,T1.ptr,rfl,HF.out _ _ _ _ p1 e1' ?_ (vL _ _ _ _ _ _) (by rw[PK,PK])⟩;have hE:(((ay O T.toL k v).length:Nat):Int)=(ln:Int)+1:=by rw[HL.out];simp
 rw[hE];exact aq (aq HB1.out q _) (q+1) _):P:=h
section
open AvlP
namespace AvI
def vo:Option Int→Value
 |some v=>.int .i64 v
 |none=>.int .i64 0
section
variable{t:Nat}{own:Nat→Nat}
theorem nH(B q:Nat)(p:Option Addr)(w:World)(hc:w.cell? ⟨B,q,none⟩=some (.pointer p)):
  Calls prog 213 #[.pointer (some ⟨B,q,none⟩)] w fun e w'=>e=.returned (.pointer p)∧w=w':=by
 go_enter func213,ntmps213;go_wp2;go_ret;exact⟨rfl,rfl⟩
theorem rF(B q:Nat)(p:Option Addr)(L:List (ByteArray×Int))(k:ByteArray)(w:World)(hc:w.cell? ⟨B,q,none⟩=some (.pointer p))(hT:dm nd oS own t w p L)(r:Option Int)(hr:ag oS L k=r):
 Calls prog 239 #[.pointer (some ⟨B,q,none⟩),.string k] w fun e w'=>e=.returned (.tuple #[vo r,.bool r.isSome])∧w=w':=uW
end
end AvI
abbrev Kx:=@AvI.nH
abbrev Cq:=@AvI.rF
namespace AvK
section
variable{t:Nat}{own:Nat→Nat}
theorem nH(B q:Nat)(p:Option Addr)(w:World)(hc:w.cell? ⟨B,q,none⟩=some (.pointer p)):
  Calls prog 332 #[.pointer (some ⟨B,q,none⟩)] w fun e w'=>e=.returned (.pointer p)∧w=w':=by
 go_enter func332,ntmps332;go_wp2;go_ret;exact⟨rfl,rfl⟩
end
end AvK
abbrev Mk:=@AvK.nH
namespace AvS
def vo:Option Sp→Value
 |some v=>.agg (SA v)
 |none=>.agg SZ
section
variable{t:Nat}{own:Nat→Nat}
theorem nH(B q:Nat)(p:Option Addr)(w:World)(hc:w.cell? ⟨B,q,none⟩=some (.pointer p)):
  Calls prog 91 #[.pointer (some ⟨B,q,none⟩)] w fun e w'=>e=.returned (.pointer p)∧w=w':=by
 go_enter func91,ntmps91;go_wp2;go_ret;exact⟨rfl,rfl⟩
theorem rF(B q:Nat)(p:Option Addr)(L:List (ByteArray×Sp))(k:ByteArray)(w:World)(hc:w.cell? ⟨B,q,none⟩=some (.pointer p))(hT:dm nd oS own t w p L)(r:Option Sp)(hr:ag oS L k=r):
 Calls prog 105 #[.pointer (some ⟨B,q,none⟩),.string k] w fun e w'=>e=.returned (.tuple #[vo r,.bool r.isSome])∧Below w.heap.size w w':=BM
end
end AvS
abbrev Mh:=@AvS.nH
abbrev Gm:=@AvS.rF
namespace AvP
def vo:Option Pl→Value
 |some v=>.agg (PA v)
 |none=>.agg PZ
section
variable{t:Nat}{own:Nat→Nat}
theorem nH(B q:Nat)(p:Option Addr)(w:World)(hc:w.cell? ⟨B,q,none⟩=some (.pointer p)):
  Calls prog 199 #[.pointer (some ⟨B,q,none⟩)] w fun e w'=>e=.returned (.pointer p)∧w=w':=by
 go_enter func199,ntmps199;go_wp2;go_ret;exact⟨rfl,rfl⟩
theorem rF(B q:Nat)(p:Option Addr)(L:List (ByteArray×Pl))(k:ByteArray)(w:World)(hc:w.cell? ⟨B,q,none⟩=some (.pointer p))(hT:dm nd oS own t w p L)(r:Option Pl)(hr:ag oS L k=r):
 Calls prog 183 #[.pointer (some ⟨B,q,none⟩),.string k] w fun e w'=>e=.returned (.tuple #[vo r,.bool r.isSome])∧Below w.heap.size w w':=BM
end
end AvP
abbrev Mi:=@AvP.nH
abbrev KP:=@AvP.rF
namespace AvN
def vo:Option Int→Value
 |some v=>.int .i64 v
 |none=>.int .i64 0
section
variable{t:Nat}{own:Nat→Nat}
theorem nH(B q:Nat)(p:Option Addr)(w:World)(hc:w.cell? ⟨B,q,none⟩=some (.pointer p)):
  Calls prog 312 #[.pointer (some ⟨B,q,none⟩)] w fun e w'=>e=.returned (.pointer p)∧w=w':=by
 go_enter func312,ntmps312;go_wp2;go_ret;exact⟨rfl,rfl⟩
theorem rF(B q:Nat)(p:Option Addr)(L:List (Int×Int))(k:Int)(w:World)(hc:w.cell? ⟨B,q,none⟩=some (.pointer p))(hT:dm nd oN own t w p L)(r:Option Int)(hr:ag oN L k=r):
 Calls prog 323 #[.pointer (some ⟨B,q,none⟩),.int .i64 k] w fun e w'=>e=.returned (.tuple #[vo r,.bool r.isSome])∧w=w':=uW
end
end AvN
abbrev Mj:=@AvN.nH
abbrev Mx:=@AvN.rF
namespace AvT
def vo:Option ByteArray→Value
 |some v=>.string v
 |none=>.string ⟨#[]⟩
section
variable{t:Nat}{own:Nat→Nat}
theorem nH(B q:Nat)(p:Option Addr)(w:World)(hc:w.cell? ⟨B,q,none⟩=some (.pointer p)):
  Calls prog 289 #[.pointer (some ⟨B,q,none⟩)] w fun e w'=>e=.returned (.pointer p)∧w=w':=by
 go_enter func289,ntmps289;go_wp2;go_ret;exact⟨rfl,rfl⟩
theorem rF(B q:Nat)(p:Option Addr)(L:List (ByteArray×ByteArray))(k:ByteArray)(w:World)(hc:w.cell? ⟨B,q,none⟩=some (.pointer p))(hT:dm nd oS own t w p L)(r:Option ByteArray)(hr:ag oS L k=r):
 Calls prog 229 #[.pointer (some ⟨B,q,none⟩),.string k] w fun e w'=>e=.returned (.tuple #[vo r,.bool r.isSome])∧w=w':=uW
end
end AvT
abbrev KO:=@AvT.rF
namespace AvH
def vo:Option Nat→Value
 |some v=>.pointer (some ⟨v,0,none⟩)
 |none=>.pointer none
section
variable{t:Nat}{own:Nat→Nat}
theorem nH(B q:Nat)(p:Option Addr)(w:World)(hc:w.cell? ⟨B,q,none⟩=some (.pointer p)):
  Calls prog 129 #[.pointer (some ⟨B,q,none⟩)] w fun e w'=>e=.returned (.pointer p)∧w=w':=by
 go_enter func129,ntmps129;go_wp2;go_ret;exact⟨rfl,rfl⟩
theorem rF(B q:Nat)(p:Option Addr)(L:List (ByteArray×Nat))(k:ByteArray)(w:World)(hc:w.cell? ⟨B,q,none⟩=some (.pointer p))(hT:dm nd oS own t w p L)(r:Option Nat)(hr:ag oS L k=r):
 Calls prog 148 #[.pointer (some ⟨B,q,none⟩),.string k] w fun e w'=>e=.returned (.tuple #[vo r,.bool r.isSome])∧w=w':=uW
end
end AvH
abbrev Ml:=@AvH.nH
abbrev Cr:=@AvH.rF
end
section
theorem BO{P:Prop}(h:P:=by
 have e0:byteOfCell prog prog.depth TY 0=some 0:=by kernel_rfl
 have e1:byteOfCell prog prog.depth TY 1=some 16:=by kernel_rfl
 have e2:prog.cellsOf TY=4:=by kernel_rfl
 have hs:w.shape? b=some (TY,cs.size):=by simp[World.shape?,hb]
 simp[partAt,byteOf,noView,viewAt,hs,e0,e1,e2]):P:=h
theorem uX{P:Prop}(h:P:=by
 induction T with
 |nil=>
  intro own w hO _ _ _ _;have hs0:(w.alloc (.cells (gN v) VT)).heap.size=w.heap.size+1:=Pq w _;have HF:=zH (show gR nd O own t .nil k v w (.returned (.tuple #[.pointer (some ⟨w.heap.size+1,0,none⟩),.bool true])) ((w.alloc (.cells (gN v) VT)).alloc (.cells (Kv k v none none 1) TY))from
   ⟨dj own (w.heap.size+1) t,.node (w.heap.size+1) .nil k v .nil,rfl,⟨⟨oH _ _ _,by rw[←hs0];exact Up _ _,trivial,trivial⟩,((Kp.refl _ w).alloc _).alloc _,lZ own w t (by omega),oG hO _ _ (by rw[Pq,hs0];omega) (by rw[Pq,hs0];omega),fun y hy=>by simp[AT.blocks]at hy;exact .inr (by omega),by simp[AT.blocks]⟩,rfl⟩)
  clear hs0;clear hO;simp only[AT.ptr];go_enter fu,ft;go_wp2;go_ret2;exact HF.out
 |node b l k0 v0 r ih1 ih2=>
  intro own w hO hi0 hn hs hlen;have hB0:=zB w (.cells (gN v) VT);have hBn:Below w.heap.size w (w.alloc (.cells (gN v) VT)).drew:=hB0.drew;have hi:aC nd own t (w.alloc (.cells (gN v) VT)) (.node b l k0 v0 r):=hi0.below hB0;have hO1:Ow own (w.alloc (.cells (gN v) VT)):=hO.mono hB0.size;obtain⟨ob,hb,hl,hr⟩:=id hi;have hbw0:b<w.heap.size:=am hi0.2.1;have hbw1:=hi0.2.1;have hlw:=hi0.2.2.1;have hrw:=hi0.2.2.2;have hl0:∀y∈l.blocks,y<w.heap.size:=fun y hy=>(hi0.2.2.1.at y hy).2;have hr0:∀y∈r.blocks,y<w.heap.size:=fun y hy=>(hi0.2.2.2.at y hy).2;clear hi0;have hA:=dO O hs;have hlen2:l.toL.length+r.toL.length+1≤800000:=by simp only[AT.toL,Pu,PC]at hlen;omega
  have hn2:=hn;simp only[AT.blocks,PV,Px,P6,PW]at hn2;obtain⟨⟨hbl,hbr⟩,hnl,hnr,hdis⟩:=hn2;have hbw:=am hb;have c0:(w.alloc (.cells (gN v) VT)).cell? ⟨b,0,none⟩=some ((KV k0)):=aa hb 0;have c2:(w.alloc (.cells (gN v) VT)).cell? ⟨b,OL,none⟩=some (.pointer l.ptr):=aa hb OL;have c3:(w.alloc (.cells (gN v) VT)).cell? ⟨b,OH,none⟩=some (.pointer r.ptr):=aa hb OH;by_cases h1:(O).lt k k0=true
  ·have g1:Op.bytesLess k.toList k0.toList=true:=h1;have HI:=zH (ih1 own (w.alloc (.cells (gN v) VT)).drew hO1 (hl.kept fun _ _=>⟨rfl,rfl⟩) hnl hA.2.2.1 (by omega));have HL':∀own1 (T1:AT K V) (w1:World),cG nd own t (w.alloc (.cells (gN v) VT)).drew w1 l.blocks own1 T1→T1.toL=ay O l.toL k v→
     Calls prog cP #[.pointer (some ⟨b,0,none⟩)] (w1.setCell ⟨b,OL,none⟩ (.pointer T1.ptr)) fun e w'=>∃own' T',e=.returned (.pointer T'.ptr)∧cG nd own t w w' (AT.node b l k0 v0 r).blocks own' T'∧T'.toL=ay O (AT.node b l k0 v0 r).toL k v:=fun own1 T1 w1 p1 e1=>by
    have hbT:b∉T1.blocks:=fun h=>by rcases p1.old b h with h |h;exact hbl h;exact absurd hbw (Nat.not_lt.2 h)
    have hb1:=p1.kp.at (u:=(w.alloc (.cells (gN v) VT)).drew) hb (fun h=>hbl h);have hr1:aC nd own1 t w1 r:=aC.kp (w:=(w.alloc (.cells (gN v) VT)).drew) (hr.kept fun _ _=>⟨rfl,rfl⟩) p1.kp (fun y hy h=>hdis y h y hy rfl) p1.ext;have hsz:=cL O l.toL k v;have hh1:=T1.hgt_le;have hh2:=r.hgt_le;rw[e1]at hh1;refine(gX b k0 v0 T1 r _ _ ((p1.ext b hbw).trans ob) (aq hb1 OL _) (p1.inT.setCell hbT _) (hr1.setCell hbr _) ?_ (by omega)).mono ?_
    ·simp only[PV,Px,P6,PW];refine⟨⟨hbT,hbr⟩,p1.nod,hnr,fun x hx y hy e=>?_⟩;subst e;rcases p1.old x hx with h |h
     ·exact hdis x h x hy rfl
     ·exact absurd (hr.at x hy).2 (Nat.not_lt.2 h)
    ·rintro e w' ⟨T',rfl,q1,q2,q3,q4,q5⟩;obtain⟨z1,z2,_⟩:=Cl (o:=O) (aC.kept (w':=(w.alloc (.cells (gN v) VT)).drew) hi fun _ _=>⟨rfl,rfl⟩) hn p1 e1 h1 q1 q2 q3 q4 q5;exact⟨own1,T',rfl,z1.from hBn,z2⟩
   have HLV:=zH HL';have HFR':∀own1 (T1:AT K V) (w1:World),cG nd own t (w.alloc (.cells (gN v) VT)).drew w1 l.blocks own1 T1→w1.cell? ⟨b,OL,none⟩=some (.pointer l.ptr)∧w1.frozen? ⟨b,OL,none⟩=false:=fun own1 T1 w1 p1=>⟨aa (p1.kp.at (u:=(w.alloc (.cells (gN v) VT)).drew) hb (fun h=>hbl h)) OL,ak (p1.kp.at (u:=(w.alloc (.cells (gN v) VT)).drew) hb (fun h=>hbl h)) OL⟩;have HFR:=zH HFR';have HS1:=zH (fun(own1:Nat→Nat) (T1:AT K V) (w1:World) (p1:cG nd own t (w.alloc (.cells (gN v) VT)).drew w1 l.blocks own1 T1) (hS:(w.alloc (.cells (gN v) VT)).drew.heap[w.heap.size]?=some (.cells (gN v) VT (0,0)))=>p1.kp.at hS (fun h=>absurd (hl0 _ h) (VH _)));have HNB:=zH (show w.heap.size≠b from Nat.ne_of_gt hbw0);have hgl:ag O (AT.node b l k0 v0 r).toL k=ag O l.toL k:=jl O h1;have HG:=zH hgl;clear HL' HFR' hi hb hl hr hA hn hs hO hO1 hB0 hBn hl0 hr0 hbw1 hlw hrw ih1 ih2 hlen hdis hgl;simp only[AT.ptr];go_enter fu,ft;go_wp2_with fail;refine zr (fun V=>V.heap[w.heap.size]?=some (.cells (gN v) VT (0,0))) (Up w _) fun hS0=>?_;have u0:(w.alloc (.cells (gN v) VT)).drew.cell? ⟨b,OL,none⟩=some (.pointer l.ptr):=c2;exact Uf
  ·have g1:Op.bytesLess k.toList k0.toList=false:=by simpa[oS,oN]using h1
   by_cases h2:(O).lt k0 k=true
   ·have g2:Op.bytesLess k0.toList k.toList=true:=h2
    try have g3:=eh ((O).ne h2).symm
    have HI:=zH (ih2 own (w.alloc (.cells (gN v) VT)).drew hO1 (hr.kept fun _ _=>⟨rfl,rfl⟩) hnr hA.2.2.2 (by omega));have HL':∀own1 (T1:AT K V) (w1:World),cG nd own t (w.alloc (.cells (gN v) VT)).drew w1 r.blocks own1 T1→T1.toL=ay O r.toL k v→
      Calls prog cP #[.pointer (some ⟨b,0,none⟩)] (w1.setCell ⟨b,OH,none⟩ (.pointer T1.ptr)) fun e w'=>∃own' T',e=.returned (.pointer T'.ptr)∧cG nd own t w w' (AT.node b l k0 v0 r).blocks own' T'∧T'.toL=ay O (AT.node b l k0 v0 r).toL k v:=fun own1 T1 w1 p1 e1=>by
     have hbT:b∉T1.blocks:=fun h=>by rcases p1.old b h with h |h;exact hbr h;exact absurd hbw (Nat.not_lt.2 h)
     have hb1:=p1.kp.at (u:=(w.alloc (.cells (gN v) VT)).drew) hb (fun h=>hbr h);have hl1:aC nd own1 t w1 l:=aC.kp (w:=(w.alloc (.cells (gN v) VT)).drew) (hl.kept fun _ _=>⟨rfl,rfl⟩) p1.kp (fun y hy h=>hdis y hy y h rfl) p1.ext;have hsz:=cL O r.toL k v;have hh1:=T1.hgt_le;have hh2:=l.hgt_le;rw[e1]at hh1;refine(gX b k0 v0 l T1 _ _ ((p1.ext b hbw).trans ob) (aq hb1 OH _) (hl1.setCell hbl _) (p1.inT.setCell hbT _) ?_ (by omega)).mono ?_
     ·simp only[PV,Px,P6,PW];refine⟨⟨hbl,hbT⟩,hnl,p1.nod,fun x hx y hy e=>?_⟩;subst e;rcases p1.old x hy with h |h
      ·exact hdis x hx x h rfl
      ·exact absurd (hl.at x hx).2 (Nat.not_lt.2 h)
     ·rintro e w' ⟨T',rfl,q1,q2,q3,q4,q5⟩;obtain⟨z1,z2,_⟩:=xr (o:=O) (aC.kept (w':=(w.alloc (.cells (gN v) VT)).drew) hi fun _ _=>⟨rfl,rfl⟩) hn hs p1 e1 h2 q1 q2 q3 q4 q5;exact⟨own1,T',rfl,z1.from hBn,z2⟩
    have HLV:=zH HL';have HFR':∀own1 (T1:AT K V) (w1:World),cG nd own t (w.alloc (.cells (gN v) VT)).drew w1 r.blocks own1 T1→w1.cell? ⟨b,OH,none⟩=some (.pointer r.ptr)∧w1.frozen? ⟨b,OH,none⟩=false:=fun own1 T1 w1 p1=>⟨aa (p1.kp.at (u:=(w.alloc (.cells (gN v) VT)).drew) hb (fun h=>hbr h)) OH,ak (p1.kp.at (u:=(w.alloc (.cells (gN v) VT)).drew) hb (fun h=>hbr h)) OH⟩;have HFR:=zH HFR';have HS1:=zH (fun(own1:Nat→Nat) (T1:AT K V) (w1:World) (p1:cG nd own t (w.alloc (.cells (gN v) VT)).drew w1 r.blocks own1 T1) (hS:(w.alloc (.cells (gN v) VT)).drew.heap[w.heap.size]?=some (.cells (gN v) VT (0,0)))=>p1.kp.at hS (fun h=>absurd (hr0 _ h) (VH _)));have HNB:=zH (show w.heap.size≠b from Nat.ne_of_gt hbw0);have hgl:ag O (AT.node b l k0 v0 r).toL k=ag O r.toL k:=gD O hA.1 h2;have HG:=zH hgl;clear HL' HFR' hi hb hl hr hA hn hs hO hO1 hB0 hBn hl0 hr0 hbw1 hlw hrw ih1 ih2 hlen hdis hgl;simp only[AT.ptr];go_enter fu,ft;go_wp2_with fail;refine zr (fun V=>V.heap[w.heap.size]?=some (.cells (gN v) VT (0,0))) (Up w _) fun hS0=>?_;have u0:(w.alloc (.cells (gN v) VT)).drew.cell? ⟨b,OH,none⟩=some (.pointer r.ptr):=c3;exact Uf
   ·have g2:Op.bytesLess k0.toList k.toList=false:=by simpa[oS,oN]using h2
    obtain rfl:k=k0:=(O).tri _ _ (by simpa using h1) (by simpa using h2);have HL':Calls prog cP #[.pointer (some ⟨b,0,none⟩)] (World.alloc (fZ w b 1 (uT v)) (.cells (gN v) VT)) fun e w'=>∃own' T',e=.returned (.pointer T'.ptr)∧cG nd own t w w' (AT.node b l k v0 r).blocks own' T'∧T'.toL=ay O (AT.node b l k v0 r).toL k v:=by
     have HBF:b∈(AT.node b l k v0 r).blocks:=by simp[AT.blocks]
     have HK0:Kp (fun y=>y∈(AT.node b l k v0 r).blocks) w (fZ w b 1 (uT v)):=xm (Kp.refl _ w) HBF _ _;have HK:=HK0.alloc (.cells (gN v) VT);have HB:(fZ w b 1 (uT v)).heap[b]?=some (.cells (nd.cells k v l.ptr r.ptr ((1+max l.hgt r.hgt:Nat):Int)) nd.ty (0,0)):=by have h:=xn hbw1 1 (uT v);simpa only[Jq,nd,UY,U9,U3]using h
     have hl2:aC nd own t (fZ w b 1 (uT v)) l:=nP hlw hbl _ _;have hr2:aC nd own t (fZ w b 1 (uT v)) r:=nP hrw hbr _ _;have hl1:=hl2.below (ae (.cells (gN v) VT) (Pk _ _));have hr1:=hr2.below (ae (.cells (gN v) VT) (Pk _ _));have hh1:=l.hgt_le;have hh2:=r.hgt_le;refine(gX b k v l r _ _ ob (ar HB _) hl1 hr1 hn (by omega)).mono ?_;rintro e w' ⟨T',rfl,q1,q2,q3,q4,q5⟩;refine⟨own,T',rfl,⟨q1,HK.trans q4,aO.refl _ _,hO.mono (Pt HK.size q4.size),fun y hy=>.inl (q3.mem_iff.1 hy),q3.nodup_iff.2 hn⟩,?_⟩;rw[q2];exact(Cz O hA.1).symm
    simp only[fZ,Nat.reduceAdd]at HL';have HLV:=zH HL';have hgl:ag O (AT.node b l k v0 r).toL k=some v0:=mc O hA.1;have HG:=zH hgl;have fz:=ak hbw1;(first |(have cv1:w.cell? ⟨b,1,none⟩=some (.int .i64 v0.tr):=aa hbw1 1;have cv2:w.cell? ⟨b,2,none⟩=some (.int .i64 v0.id):=aa hbw1 2;have cv3:w.cell? ⟨b,3,none⟩=some (.int .i64 v0.pa):=aa hbw1 3;have cv4:w.cell? ⟨b,4,none⟩=some (.int .i64 v0.rv):=aa hbw1 4;have cv5:w.cell? ⟨b,5,none⟩=some (.string v0.sv):=aa hbw1 5;have cv6:w.cell? ⟨b,6,none⟩=some (.string v0.op):=aa hbw1 6;have cv7:w.cell? ⟨b,7,none⟩=some (.int .i64 v0.st):=aa hbw1 7;have cv8:w.cell? ⟨b,8,none⟩=some (.int .i64 v0.du):=aa hbw1 8;have cv9:w.cell? ⟨b,9,none⟩=some (.bool v0.gn):=aa hbw1 9) |(have cv1:w.cell? ⟨b,1,none⟩=some (.int .i64 v0.tr):=aa hbw1 1;have cv2:w.cell? ⟨b,2,none⟩=some (.int .i64 v0.id):=aa hbw1 2;have cv3:w.cell? ⟨b,3,none⟩=some (.int .i64 v0.cl):=aa hbw1 3;have cv4:w.cell? ⟨b,4,none⟩=some (.int .i64 v0.de):=aa hbw1 4;have cv5:w.cell? ⟨b,5,none⟩=some (.int .i64 v0.to):=aa hbw1 5;have cv6:w.cell? ⟨b,6,none⟩=some (.int .i64 v0.fa):=aa hbw1 6) |skip)
    try have hpa:=part hb
    clear HL' hi hb hl hr hA hn hs hO hO1 hB0 hBn hl0 hr0 hbw1 hlw hrw ih1 ih2 hlen hdis hgl h1 h2;simp only[AT.ptr];go_enter fu,ft;go_wp2_with ((with_reducible refine(HLV.out).mono ?_);rintro e2 w2 ⟨own2,T2,rfl,p2,e2'⟩);go_ret2;exact⟨own2,T2,by rw[HG.out];rfl,p2,e2'⟩):P:=h
end
section
open AvlP
namespace AvK
section
variable{t:Nat}
theorem part{w:World}{b:Nat}{cs:Array Value}(hb:w.heap[b]?=some (.cells cs 431 (0,0))):(partAt ⟨b,0,none⟩ 1 16).run prog w=.ok ⟨b,1,none⟩ w:=BO
theorem jE(k:ByteArray)(v:Unit)(T:AT ByteArray Unit):∀(own:Nat→Nat) (w:World),Ow own w→aC nd own t w T→T.blocks.Nodup→aX oS T.toL→T.toL.length≤800000→
 Calls prog 297 #[.pointer T.ptr,.string k,.agg #[]] w (gR nd oS own t T k v w):=uX
end
end AvK
namespace AvS
section
variable{t:Nat}
theorem jE(k:ByteArray)(v:Sp)(T:AT ByteArray Sp):∀(own:Nat→Nat) (w:World),Ow own w→aC nd own t w T→T.blocks.Nodup→aX oS T.toL→T.toL.length≤800000→
 Calls prog 107 #[.pointer T.ptr,.string k,.agg (SA v)] w (gR nd oS own t T k v w):=uX
end
end AvS
abbrev mo:=@AvS.jE
namespace AvP
section
variable{t:Nat}
theorem jE(k:ByteArray)(v:Pl)(T:AT ByteArray Pl):∀(own:Nat→Nat) (w:World),Ow own w→aC nd own t w T→T.blocks.Nodup→aX oS T.toL→T.toL.length≤800000→
 Calls prog 307 #[.pointer T.ptr,.string k,.agg (PA v)] w (gR nd oS own t T k v w):=uX
end
end AvP
namespace AvE
section
variable{t:Nat}
theorem part{w:World}{b:Nat}{cs:Array Value}(hb:w.heap[b]?=some (.cells cs 411 (0,0))):(partAt ⟨b,0,none⟩ 1 16).run prog w=.ok ⟨b,1,none⟩ w:=BO
theorem jE(k:ByteArray)(v:Unit)(T:AT ByteArray Unit):∀(own:Nat→Nat) (w:World),Ow own w→aC nd own t w T→T.blocks.Nodup→aX oS T.toL→T.toL.length≤800000→
 Calls prog 245 #[.pointer T.ptr,.string k,.agg #[]] w (gR nd oS own t T k v w):=uX
end
end AvE
end
section
structure Sm where
 hi:Int
 lo:Int
def Sm.Ok(x:Sm):Prop:=0≤x.hi∧x.hi≤4294967296∧0≤x.lo∧x.lo<4611686018427387904
def bN(d:Int):Int:=cj d 0 4611686018427387904
def FM:Sm:=⟨4294967296,4611686018427387903⟩
def fT(x:Sm)(d:Int):Sm:=if 4294967296<x.hi+(x.lo+bN d) / 4611686018427387904 then FM else⟨x.hi+(x.lo+bN d) / 4611686018427387904,(x.lo+bN d) % 4611686018427387904⟩
def jM(x:Sm)(d:Int):Sm:=if x.lo - bN d<0 then(if x.hi - 1<0 then⟨0,0⟩else⟨x.hi - 1,x.lo - bN d+4611686018427387904⟩)else⟨x.hi,x.lo - bN d⟩
theorem iO(d:Int):0≤bN d∧bN d≤4611686018427387904:=by unfold bN cj;omega
theorem CY{x:Sm}(h:x.Ok)(d:Int):(fT x d).Ok:=by
 have:=iO d;unfold Sm.Ok at h;unfold fT;split
 ·unfold FM Sm.Ok;simp only;omega
 ·unfold Sm.Ok;simp only;omega
theorem nG(w:World)(o1 o2:Obj):((w.alloc o1).alloc o2).heap[w.heap.size]?=some o1∧((w.alloc o1).alloc o2).heap[w.heap.size+1]?=some o2:=by
 have h1:=Up w o1;have h2:=Up (w.alloc o1) o2;rw[Pq]at h2;exact⟨(((Pk (w.alloc o1).heap.size (w.alloc o1)).alloc (Po _) o2).block w.heap.size (by rw[Pq];omega)).trans h1,h2⟩
theorem FD(x:Sm)(hx:x.Ok)(w:World):
  Calls prog 330 #[.agg #[.int .i64 x.hi,.int .i64 x.lo]] w fun e w'=>e=.returned (.bool true)∧Below w.heap.size w w':=by
 obtain⟨h1,h2,h3,h4⟩:=hx;go_enter func330,ntmps330;go_wp2;go_ret;exact⟨rfl,zb⟩
theorem kv(x:Sm)(hx:x.Ok)(w:World):
  Calls prog 286 #[.agg #[.int .i64 x.hi,.int .i64 x.lo]] w fun e w'=>e=.returned (.agg #[.int .i64 x.hi,.int .i64 x.lo])∧Below w.heap.size w w':=by
 have HM:=zH (FD x hx);clear hx;go_enter func286,ntmps286;go_wp2_with fail;obtain⟨n0,n1⟩:=nG w (.cells #[.int .i64 x.hi,.int .i64 x.lo] 167) (.cells #[.int .i64 0,.int .i64 0] 167);have hb0:Below w.heap.size w ((w.alloc (.cells #[.int .i64 x.hi,.int .i64 x.lo] 167)).alloc (.cells #[.int .i64 0,.int .i64 0] 167)):=zb;generalize (w.alloc (.cells #[.int .i64 x.hi,.int .i64 x.lo] 167)).alloc (.cells #[.int .i64 0,.int .i64 0] 167)=W0 at*;go_at_call 330;(with_reducible refine(HM.out _).mono ?_);rintro e1 w1 ⟨rfl,b1⟩;have m0:=(b1.block _ (am n0)).trans n0;have m1:=(b1.block _ (am n1)).trans n1;have c0:w1.cell? ⟨w.heap.size,0,none⟩=some (.int .i64 x.hi):=aa m0 0;have c1:w1.cell? ⟨w.heap.size,1,none⟩=some (.int .i64 x.lo):=aa m0 1;have d0:w1.cell? ⟨w.heap.size+1,0,none⟩=some (.int .i64 0):=aa m1 0;have d1:w1.cell? ⟨w.heap.size+1,1,none⟩=some (.int .i64 0):=aa m1 1;have f0:=ak m1;have hb1:=hb0.trans (b1.mono hb0.size);go_wp2_with fail;have q:((w1.setCell ⟨w.heap.size+1,0,none⟩ (.int .i64 x.hi)).setCell ⟨w.heap.size+1,1,none⟩ (.int .i64 x.lo)).heap[w.heap.size+1]?=some (.cells #[.int .i64 x.hi,.int .i64 x.lo] 167 (0,0)):=aq (aq m1 0 _) 1 _;have r0:=aa q 0;have r1:=aa q 1;refine Ux (v:=.agg #[.int .i64 x.hi,.int .i64 x.lo]) (by simp[results,results286,go_sem,r0,r1]) rfl ?_;exact⟨rfl,(hb1.setCell (by simp) _).setCell (by simp) _⟩
theorem mv(d:Int)(w:World):
  Calls prog 287 #[.int .i64 d] w fun e w'=>e=.returned (.int .i64 (bN d))∧w=w':=by
 have H:=zH (pk d 0 4611686018427387904);go_enter func287,ntmps287;go_wp2_with (go_at_call 191;(with_reducible refine(H.out _).mono ?_);rintro e w1 ⟨rfl,rfl⟩);go_ret;exact⟨rfl,rfl⟩
theorem sR(w:World):
  Calls prog 288 #[] w fun e w'=>e=.returned (.agg #[.int .i64 4294967296,.int .i64 4611686018427387903])∧Below w.heap.size w w':=by
 go_enter func288,ntmps288;go_wp2;refine Ux (v:=.agg #[.int .i64 4294967296,.int .i64 4611686018427387903]) (by simp[results,results288,go_sem]) rfl ?_;exact⟨rfl,zb⟩
theorem qP(x:Sm)(hx:x.Ok)(d:Int)(w:World):
  Calls prog 226 #[.agg #[.int .i64 x.hi,.int .i64 x.lo],.int .i64 d] w fun e w'=>e=.returned (.agg #[.int .i64 (fT x d).hi,.int .i64 (fT x d).lo])∧Below w.heap.size w w':=by
 have HR:=zH (kv x hx);have HD:=zH (mv d);have hd:=iO d;obtain⟨h1,h2,h3,h4⟩:=hx;go_enter func226,ntmps226;go_wp2_with fail;obtain⟨n0,n1⟩:=nG w (.cells #[.int .i64 x.hi,.int .i64 x.lo] 167) (.cells #[.int .i64 0,.int .i64 0] 167);have hb0:Below w.heap.size w ((w.alloc (.cells #[.int .i64 x.hi,.int .i64 x.lo] 167)).alloc (.cells #[.int .i64 0,.int .i64 0] 167)):=zb;generalize (w.alloc (.cells #[.int .i64 x.hi,.int .i64 x.lo] 167)).alloc (.cells #[.int .i64 0,.int .i64 0] 167)=W0 at*;go_at_call 286;(with_reducible refine(HR.out _).mono ?_);rintro e1 w1 ⟨rfl,b1⟩;have m0:=(b1.block _ (am n0)).trans n0;have m1:=(b1.block _ (am n1)).trans n1;have c0:w1.cell? ⟨w.heap.size,0,none⟩=some (.int .i64 x.hi):=aa m0 0;have c1:w1.cell? ⟨w.heap.size,1,none⟩=some (.int .i64 x.lo):=aa m0 1;have d0:w1.cell? ⟨w.heap.size+1,0,none⟩=some (.int .i64 0):=aa m1 0;have d1:w1.cell? ⟨w.heap.size+1,1,none⟩=some (.int .i64 0):=aa m1 1;have f0:=ak m0 0;have f1:=ak m0 1;have g0:=ak m1 0;have g1:=ak m1 1;have hb1:=hb0.trans (b1.mono hb0.size);go_wp2_with fail;have q0:((w1.setCell ⟨w.heap.size,0,none⟩ (.int .i64 x.hi)).setCell ⟨w.heap.size,1,none⟩ (.int .i64 x.lo)).heap[w.heap.size]?=some (.cells #[.int .i64 x.hi,.int .i64 x.lo] 167 (0,0)):=aq (aq m0 0 _) 1 _;have q1:((w1.setCell ⟨w.heap.size,0,none⟩ (.int .i64 x.hi)).setCell ⟨w.heap.size,1,none⟩ (.int .i64 x.lo)).heap[w.heap.size+1]?=some (.cells #[.int .i64 0,.int .i64 0] 167 (0,0)):=aw (aw m1 (by omega) _) (by omega) _;have hb2:Below w.heap.size w ((w1.setCell ⟨w.heap.size,0,none⟩ (.int .i64 x.hi)).setCell ⟨w.heap.size,1,none⟩ (.int .i64 x.lo)):=(hb1.setCell (by simp) _).setCell (by simp) _;generalize (w1.setCell ⟨w.heap.size,0,none⟩ (.int .i64 x.hi)).setCell ⟨w.heap.size,1,none⟩ (.int .i64 x.lo)=W1 at*;clear c0 c1 d0 d1 f0 f1 g0 g1 m0 m1 n0 n1 hb0 hb1 b1;refine zr (fun V=>V.heap[w.heap.size]?=some (.cells #[.int .i64 x.hi,.int .i64 x.lo] 167 (0,0))) q0 fun hS0=>?_;(refine zh hS0 4 4 0 ?_;simp only[zd];((iterate 4 (refine zt (fun W hW=>by have y1:W.cell? ⟨w.heap.size,1,none⟩=some (.int .i64 x.lo):=aa hW 1;exact zq) ?_;simp only[zp]));refine ac ?_));(refine zo 4 rfl fun K hK=>?_;go_simp);go_at_call 287;(with_reducible refine(HD.out _).mono ?_);rintro e2 w2 ⟨rfl,rfl⟩;go_wp2_with fail;(refine zu hK hS0 ?_;clear hK K;try simp only[zp]);(refine zh hS0 1 2 5 ?_;simp only[zd];((iterate 2 (refine zU ?_;simp only[zp]));refine ac ?_));(refine zo 7 rfl fun K hK=>?_;go_simp);(refine zu hK hS0 ?_;clear hK K;try simp only[zp]);(refine ze ?_);have c0:W1.cell? ⟨w.heap.size,0,none⟩=some (.int .i64 x.hi):=aa q0 0;have c1:W1.cell? ⟨w.heap.size,1,none⟩=some (.int .i64 x.lo):=aa q0 1;have d0:W1.cell? ⟨w.heap.size+1,0,none⟩=some (.int .i64 0):=aa q1 0;have d1:W1.cell? ⟨w.heap.size+1,1,none⟩=some (.int .i64 0):=aa q1 1;have f0:=ak q0 0;have f1:=ak q0 1;have g0:=ak q1 0;have g1:=ak q1 1;have z1:((W1.setCell ⟨w.heap.size,0,none⟩ (.int .i64 (x.hi+(x.lo+bN d) / 4611686018427387904))).setCell ⟨w.heap.size,1,none⟩ (.int .i64 ((x.lo+bN d) % 4611686018427387904))).heap[w.heap.size+1]?=some (.cells #[.int .i64 0,.int .i64 0] 167 (0,0)):=aw (aw q1 (by omega) _) (by omega) _;have hb3:Below w.heap.size w ((W1.setCell ⟨w.heap.size,0,none⟩ (.int .i64 (x.hi+(x.lo+bN d) / 4611686018427387904))).setCell ⟨w.heap.size,1,none⟩ (.int .i64 ((x.lo+bN d) % 4611686018427387904))):=(hb2.setCell (by simp) _).setCell (by simp) _;have HZ:=zH (Uq z1 hb3);clear z1 hb3 q0 q1 hb2 hS0;go_wp2_with fail
 ·obtain⟨z1,hb3⟩:=HZ.out;have ez:fT x d=FM:=by unfold fT;rw[Pj (by assumption)]
  generalize (W1.setCell ⟨w.heap.size,0,none⟩ (.int .i64 (x.hi+(x.lo+bN d) / 4611686018427387904))).setCell ⟨w.heap.size,1,none⟩ (.int .i64 ((x.lo+bN d) % 4611686018427387904))=W2 at*;go_at_call 288;(with_reducible refine(sR _).mono ?_);rintro e3 w3 ⟨rfl,b3⟩;have m1:=(b3.block _ (am z1)).trans z1;have d2:w3.cell? ⟨w.heap.size+1,0,none⟩=some (.int .i64 0):=aa m1 0;have d3:w3.cell? ⟨w.heap.size+1,1,none⟩=some (.int .i64 0):=aa m1 1;have f2:=ak m1;have hb4:=(hb3.drew).trans (b3.mono hb3.size);go_wp2_with fail;have q:((w3.setCell ⟨w.heap.size+1,0,none⟩ (.int .i64 4294967296)).setCell ⟨w.heap.size+1,1,none⟩ (.int .i64 4611686018427387903)).heap[w.heap.size+1]?=some (.cells #[.int .i64 4294967296,.int .i64 4611686018427387903] 167 (0,0)):=aq (aq m1 0 _) 1 _;have r0:=aa q 0;have r1:=aa q 1;refine Ux (v:=.agg #[.int .i64 4294967296,.int .i64 4611686018427387903]) (by simp[results,results226,go_sem,r0,r1]) rfl ?_;exact⟨by rw[ez];rfl,(hb4.setCell (by simp) _).setCell (by simp) _⟩
 ·obtain⟨z1,hb3⟩:=HZ.out;have ez:fT x d=⟨x.hi+(x.lo+bN d) / 4611686018427387904,(x.lo+bN d) % 4611686018427387904⟩:=by unfold fT;rw[Pm (by omega)]
  generalize (W1.setCell ⟨w.heap.size,0,none⟩ (.int .i64 (x.hi+(x.lo+bN d) / 4611686018427387904))).setCell ⟨w.heap.size,1,none⟩ (.int .i64 ((x.lo+bN d) % 4611686018427387904))=W2 at*;have q:((W2.setCell ⟨w.heap.size+1,0,none⟩ (.int .i64 (x.hi+(x.lo+bN d) / 4611686018427387904))).setCell ⟨w.heap.size+1,1,none⟩ (.int .i64 ((x.lo+bN d) % 4611686018427387904))).heap[w.heap.size+1]?=some (.cells #[.int .i64 (x.hi+(x.lo+bN d) / 4611686018427387904),.int .i64 ((x.lo+bN d) % 4611686018427387904)] 167 (0,0)):=aq (aq z1 0 _) 1 _;have r0:=aa q 0;have r1:=aa q 1;refine Ux (v:=.agg #[.int .i64 (x.hi+(x.lo+bN d) / 4611686018427387904),.int .i64 ((x.lo+bN d) % 4611686018427387904)]) (by simp[results,results226,go_sem,r0,r1]) rfl ?_;exact⟨by rw[ez],((hb3.setCell (by simp) _).setCell (by simp) _).drew⟩
theorem uV{P:Prop}(h:P:=by
 obtain⟨T,rfl,rfl,i1,i2,i3⟩:=hT;have hbw:=am hB;have hBT:B∉T.blocks:=fun h=>hBt (i1.at B h).1;have HP:=zH (jE k v T own w hO i1 i2 i3 (by omega));have c0:w.cell? ⟨B,q,none⟩=some (.pointer T.ptr):=(aa hB q).trans h0;have HC':∀own1 (T1:AT K V) (w1:World),cG nd own t w w1 T.blocks own1 T1→w1.heap[B]?=some (.cells cs ty (0,0)):=fun own1 T1 w1 p1=>p1.kp.at hB hBT;have HF':∀own1 (T1:AT K V) (w1 w2:World),cG nd own t w w1 T.blocks own1 T1→T1.toL=ay O T.toL k v→w2.heap[B]?=some (.cells ((cs.setIfInBounds q (.pointer T1.ptr)).setIfInBounds (q+1) (.int .i64 ((ay O T.toL k v).length:Nat))) ty (0,0))→Kp (fun b=>b=B) w1 w2→w2.heap.size=w1.heap.size→
   bI nd O own t w w2 B q cs ty (ay O T.toL k v) own1 T1.ptr:=fun own1 T1 w1 w2 p1 e1 hb2 k2 s2=>by
  have hB1:own1 B≠t:=by rw[p1.ext B hbw];exact hBt
  exact N0
 have HL:=zH (cM O i3 k v);have HF:=zH HF';have HC:=zH HC';have H1:=zH h1;have H0:=zH h0;have hln:(T.toL.length:Int)≤700000:=by omega
 generalize T.toL.length=ln at*;rcases hg:ag O T.toL k with _ |v0
 ·rw[hg]at HL;have HG:=zH hg;clear hg hB h0 h1 i1 i2 i3 hO HF' HC';go_enter fN,fK;go_wp2_with ((with_reducible refine(HP.out).mono ?_);rintro e1 w1 ⟨own1,T1,rfl,p1,e1'⟩;rw[HG.out];have hb1:=HC.out _ _ _ p1;have HB1:=zH hb1;have u0:w1.cell? ⟨B,q,none⟩=some (.pointer T.ptr):=(aa hb1 q).trans H0.out;have u1:w1.cell? ⟨B,q+1,none⟩=some (.int .i64 (ln:Nat)):=(aa hb1 (q+1)).trans H1.out;have f0:=ak hb1 q;have f1:=ak hb1 (q+1);clear hb1);exact N4
 ·rw[hg]at HL;have HG:=zH hg;clear hg hB h0 h1 i1 i2 i3 hO HF' HC';go_enter fN,fK;go_wp2_with ((with_reducible refine(HP.out).mono ?_);rintro e1 w1 ⟨own1,T1,rfl,p1,e1'⟩;rw[HG.out];have hb1:=HC.out _ _ _ p1;have HB1:=zH hb1;have u0:w1.cell? ⟨B,q,none⟩=some (.pointer T.ptr):=(aa hb1 q).trans H0.out;have f0:=ak hb1 q;clear hb1);go_ret;refine⟨own1,T1.ptr,rfl,HF.out _ _ _ _ p1 e1' ?_ (lX _ _ _ _) (by rw[PK])⟩;have hE:(((ay O T.toL k v).length:Nat):Int)=(ln:Nat):=by rw[HL.out];simp
  rw[hE,qZ (vy H1.out (by omega))];exact aq HB1.out q _):P:=h
theorem qv{P:Prop}(h:P:=by
 obtain⟨T,rfl,rfl,i1,i2,i3⟩:=hT;have hbw:=am hB;have hBT:B∉T.blocks:=fun h=>hBt (i1.at B h).1;have hB0:=zB w (.cells (gN v) VT);have hBn:Below w.heap.size w (w.alloc (.cells (gN v) VT)).drew:=hB0.drew;have HP:=zH (jE k v T own (w.alloc (.cells (gN v) VT)).drew (hO.mono hB0.size) (i1.below hBn) i2 i3 (by omega));have HFrom:=zH (fun(own1:Nat→Nat) (T1:AT K V) (w1:World) (p1:cG nd own t (w.alloc (.cells (gN v) VT)).drew w1 T.blocks own1 T1)=>p1.from hBn);have HS':∀own1 (T1:AT K V) (w1:World),cG nd own t (w.alloc (.cells (gN v) VT)).drew w1 T.blocks own1 T1→w1.heap[B]?=some (.cells cs ty (0,0))∧w1.heap[w.heap.size]?=some (.cells (gN v) VT (0,0)):=fun own1 T1 w1 p1=>⟨p1.kp.at (ar hB _) hBT,p1.kp.at (Up w _) fun h=>absurd (i1.at _ h).2 (VH _)⟩;have HS:=zH HS';have HC':∀own1 (T1:AT K V) (w1:World),cG nd own t w w1 T.blocks own1 T1→w1.heap[B]?=some (.cells cs ty (0,0)):=fun own1 T1 w1 p1=>p1.kp.at hB hBT;have HF':∀own1 (T1:AT K V) (w1 w2:World),cG nd own t w w1 T.blocks own1 T1→T1.toL=ay O T.toL k v→w2.heap[B]?=some (.cells ((cs.setIfInBounds q (.pointer T1.ptr)).setIfInBounds (q+1) (.int .i64 ((ay O T.toL k v).length:Nat))) ty (0,0))→Kp (fun b=>b=B) w1 w2→w2.heap.size=w1.heap.size→
   bI nd O own t w w2 B q cs ty (ay O T.toL k v) own1 T1.ptr:=fun own1 T1 w1 w2 p1 e1 hb2 k2 s2=>by
  have hB1:own1 B≠t:=by rw[p1.ext B hbw];exact hBt
  exact N0
 have HBB:=zH (show(w.alloc (.cells (gN v) VT)).drew.heap[B]?=some (.cells cs ty (0,0))from ar hB _);have HL:=zH (cM O i3 k v);have HF:=zH HF';have HC:=zH HC';have H1:=zH h1;have H0:=zH h0;have hln:(T.toL.length:Int)≤700000:=by omega
 generalize T.toL.length=ln at*;rcases hg:ag O T.toL k with _ |v0
 ·rw[hg]at HL;have HG:=zH hg;clear hg hB h0 h1 i1 i2 i3 hO HF' HC' HS' hB0 hBn;go_enter fN,fK;go_wp2_with fail;refine zr (fun V=>V.heap[B]?=some (.cells cs ty (0,0))∧V.heap[w.heap.size]?=some (.cells (gN v) VT (0,0))) ⟨HBB.out,Up w _⟩ fun hS0=>?_;generalize hV:(w.alloc (.cells (gN v) VT)).drew=v0 at*;refine cA (by kernel_rfl) (fun _ _ _ _ _ h=>h) hS0 6 6 0 _ _ (by decide) (by kernel_rfl) ?_;simp only[Qo,UJ,UN];((iterate 6 (refine zt (fun W hW=>by obtain⟨hW1,hW⟩:=hW;have u0:W.cell? ⟨B,q,none⟩=some (.pointer T.ptr):=(aa hW1 q).trans H0.out;(first |(have y0:W.cell? ⟨w.heap.size,0,none⟩=some (.int .i64 v.tr):=aa hW 0;have y1:W.cell? ⟨w.heap.size,1,none⟩=some (.int .i64 v.id):=aa hW 1;have y2:W.cell? ⟨w.heap.size,2,none⟩=some (.int .i64 v.pa):=aa hW 2;have y3:W.cell? ⟨w.heap.size,3,none⟩=some (.int .i64 v.rv):=aa hW 3;have y4:W.cell? ⟨w.heap.size,4,none⟩=some (.string v.sv):=aa hW 4;have y5:W.cell? ⟨w.heap.size,5,none⟩=some (.string v.op):=aa hW 5;have y6:W.cell? ⟨w.heap.size,6,none⟩=some (.int .i64 v.st):=aa hW 6;have y7:W.cell? ⟨w.heap.size,7,none⟩=some (.int .i64 v.du):=aa hW 7;have y8:W.cell? ⟨w.heap.size,8,none⟩=some (.bool v.gn):=aa hW 8) |(have y0:W.cell? ⟨w.heap.size,0,none⟩=some (.int .i64 v.tr):=aa hW 0;have y1:W.cell? ⟨w.heap.size,1,none⟩=some (.int .i64 v.id):=aa hW 1;have y2:W.cell? ⟨w.heap.size,2,none⟩=some (.int .i64 v.cl):=aa hW 2;have y3:W.cell? ⟨w.heap.size,3,none⟩=some (.int .i64 v.de):=aa hW 3;have y4:W.cell? ⟨w.heap.size,4,none⟩=some (.int .i64 v.to):=aa hW 4;have y5:W.cell? ⟨w.heap.size,5,none⟩=some (.int .i64 v.fa):=aa hW 5) |skip);exact zq) ?_;simp only[zp]));refine ac ?_);refine aE 6 (by kernel_rfl) rfl (fun KK hKK=>?_);rw[Pj (by rfl)];go_simp;(first |go_at_call 107 |go_at_call 307 |go_at_call 297 |go_at_call 245);(with_reducible refine(HP.out).mono ?_);rintro e1 w1 ⟨own1,T1,rfl,p1',e1'⟩;rw[HG.out];have hS1:=HS.out _ _ _ p1';have p1:=HFrom.out _ _ _ p1';go_wp2_with fail;refine hKK.out _ _ hS1 (fun _=>?_);clear hKK KK;(try simp only[zp]);refine cA (by kernel_rfl) (fun _ _ _ _ _ h=>h) hS1 0 5 7 _ _ (by decide) (by kernel_rfl) ?_;simp only[QG,Qo,UJ,UN];((iterate 5 (refine zU ?_;simp only[zp]));refine ac ?_);refine wpAnyH_done (by kernel_rfl) ?_ _;refine Vz ?_;have hb1:=hS1.1;have HB1:=zH hb1;have u0:w1.cell? ⟨B,q,none⟩=some (.pointer T.ptr):=(aa hb1 q).trans H0.out;have u1:w1.cell? ⟨B,q+1,none⟩=some (.int .i64 (ln:Nat)):=(aa hb1 (q+1)).trans H1.out;have f0:=ak hb1 q;have f1:=ak hb1 (q+1);clear hb1 hS1 hS0 p1' hV;go_wp2_with fail;exact N4
 ·rw[hg]at HL;have HG:=zH hg;clear hg hB h0 h1 i1 i2 i3 hO HF' HC' HS' hB0 hBn;go_enter fN,fK;go_wp2_with fail;refine zr (fun V=>V.heap[B]?=some (.cells cs ty (0,0))∧V.heap[w.heap.size]?=some (.cells (gN v) VT (0,0))) ⟨HBB.out,Up w _⟩ fun hS0=>?_;generalize hV:(w.alloc (.cells (gN v) VT)).drew=v0 at*;refine cA (by kernel_rfl) (fun _ _ _ _ _ h=>h) hS0 6 6 0 _ _ (by decide) (by kernel_rfl) ?_;simp only[Qo,UJ,UN];((iterate 6 (refine zt (fun W hW=>by obtain⟨hW1,hW⟩:=hW;have u0:W.cell? ⟨B,q,none⟩=some (.pointer T.ptr):=(aa hW1 q).trans H0.out;(first |(have y0:W.cell? ⟨w.heap.size,0,none⟩=some (.int .i64 v.tr):=aa hW 0;have y1:W.cell? ⟨w.heap.size,1,none⟩=some (.int .i64 v.id):=aa hW 1;have y2:W.cell? ⟨w.heap.size,2,none⟩=some (.int .i64 v.pa):=aa hW 2;have y3:W.cell? ⟨w.heap.size,3,none⟩=some (.int .i64 v.rv):=aa hW 3;have y4:W.cell? ⟨w.heap.size,4,none⟩=some (.string v.sv):=aa hW 4;have y5:W.cell? ⟨w.heap.size,5,none⟩=some (.string v.op):=aa hW 5;have y6:W.cell? ⟨w.heap.size,6,none⟩=some (.int .i64 v.st):=aa hW 6;have y7:W.cell? ⟨w.heap.size,7,none⟩=some (.int .i64 v.du):=aa hW 7;have y8:W.cell? ⟨w.heap.size,8,none⟩=some (.bool v.gn):=aa hW 8) |(have y0:W.cell? ⟨w.heap.size,0,none⟩=some (.int .i64 v.tr):=aa hW 0;have y1:W.cell? ⟨w.heap.size,1,none⟩=some (.int .i64 v.id):=aa hW 1;have y2:W.cell? ⟨w.heap.size,2,none⟩=some (.int .i64 v.cl):=aa hW 2;have y3:W.cell? ⟨w.heap.size,3,none⟩=some (.int .i64 v.de):=aa hW 3;have y4:W.cell? ⟨w.heap.size,4,none⟩=some (.int .i64 v.to):=aa hW 4;have y5:W.cell? ⟨w.heap.size,5,none⟩=some (.int .i64 v.fa):=aa hW 5) |skip);exact zq) ?_;simp only[zp]));refine ac ?_);refine aE 6 (by kernel_rfl) rfl (fun KK hKK=>?_);rw[Pj (by rfl)];go_simp;(first |go_at_call 107 |go_at_call 307 |go_at_call 297 |go_at_call 245);(with_reducible refine(HP.out).mono ?_);rintro e1 w1 ⟨own1,T1,rfl,p1',e1'⟩;rw[HG.out];have hS1:=HS.out _ _ _ p1';have p1:=HFrom.out _ _ _ p1';go_wp2_with fail;refine hKK.out _ _ hS1 (fun _=>?_);clear hKK KK;(try simp only[zp]);refine cA (by kernel_rfl) (fun _ _ _ _ _ h=>h) hS1 0 5 7 _ _ (by decide) (by kernel_rfl) ?_;simp only[QG,Qo,UJ,UN];((iterate 5 (refine zU ?_;simp only[zp]));refine ac ?_);refine wpAnyH_done (by kernel_rfl) ?_ _;refine Vz ?_;have hb1:=hS1.1;have HB1:=zH hb1;have u0:w1.cell? ⟨B,q,none⟩=some (.pointer T.ptr):=(aa hb1 q).trans H0.out;have f0:=ak hb1 q;clear hb1 hS1 hS0 p1' hV;go_wp2_with fail;go_ret;refine⟨own1,T1.ptr,rfl,HF.out _ _ _ _ p1 e1' ?_ (lX _ _ _ _) (by rw[PK])⟩;have hE:(((ay O T.toL k v).length:Nat):Int)=(ln:Nat):=by rw[HL.out];simp
  rw[hE,qZ (vy H1.out (by omega))];exact aq HB1.out q _):P:=h
theorem js{P:Prop}(h:P:=by
 obtain⟨T,rfl,rfl,i1,i2,i3⟩:=hT;have hBT:B∉T.blocks:=fun h=>hBt (i1.at B h).1;have HP:=zH (yI k T w i1 i2 i3 (by omega));have c0:w.cell? ⟨B,q,none⟩=some (.pointer T.ptr):=(aa hB q).trans h0;have HC':∀(T1:AT K V) (w1:World),eR nd own t T T1 w w1→w1.heap[B]?=some (.cells cs ty (0,0)):=fun T1 w1 p1=>p1.kp.at hB hBT;have HF':∀(T1:AT K V) (w1 w2:World),eR nd own t T T1 w w1→T1.toL=aK O T.toL k→w2.heap[B]?=some (.cells ((cs.setIfInBounds q (.pointer T1.ptr)).setIfInBounds (q+1) (.int .i64 ((aK O T.toL k).length:Nat))) ty (0,0))→Kp (fun b=>b=B) w1 w2→w2.heap.size=w1.heap.size→
   bI nd O own t w w2 B q cs ty (aK O T.toL k) own T1.ptr:=fun T1 w1 w2 p1 e1 hb2 k2 s2=>by
  refine⟨hb2,⟨T1,rfl,e1,p1.inT.kp k2 (fun y hy e=>hBt (by rw[←e];exact(p1.inT.at y hy).1)) (aO.refl _ _),p1.nod,lG O i3 k⟩,?_,aO.refl _ _,hO.mono (by have:=p1.size;omega)⟩;exact(p1.kp.mono fun y _ hy=>.inr (i1.at y hy).1).trans' k2 fun y _ hy=>.inl hy
 have HL:=zH (yK O i3 k);have HF:=zH HF';have HC:=zH HC';have H1:=zH h1;have H0:=zH h0;have HPOS:=zH (fun(h:(ag O T.toL k).isSome=true)=>(by cases hl:T.toL with |nil=>rw[hl]at h;simp[ag]at h |cons _ _=>simp:0<T.toL.length));have hln:(T.toL.length:Int)≤700000:=by omega
 generalize T.toL.length=ln at*;rcases hg:ag O T.toL k with _ |v0
 ·rw[hg]at HL;have HG:=zH hg;clear hg hB h0 h1 i1 i2 i3 hO HF' HC';go_enter fO,fL;go_wp2_with ((with_reducible refine(HP.out).mono ?_);rintro e1 w1 ⟨T1,rfl,p1,e1'⟩;rw[HG.out];have hb1:=HC.out _ _ p1;have HB1:=zH hb1;have u0:w1.cell? ⟨B,q,none⟩=some (.pointer T.ptr):=(aa hb1 q).trans H0.out;have f0:=ak hb1 q;clear hb1);go_ret;refine⟨T1.ptr,rfl,HF.out _ _ _ p1 e1' ?_ (lX _ _ _ _) (by rw[PK])⟩;have hE:(((aK O T.toL k).length:Nat):Int)=(ln:Nat):=by rw[HL.out];simp
  rw[hE,qZ (vy H1.out (by omega))];exact aq HB1.out q _
 ·rw[hg]at HL;have HG:=zH hg;have hpos:=HPOS.out (by rw[hg];rfl);clear hg hB h0 h1 i1 i2 i3 hO HF' HC';go_enter fO,fL;go_wp2_with ((with_reducible refine(HP.out).mono ?_);rintro e1 w1 ⟨T1,rfl,p1,e1'⟩;rw[HG.out];have hb1:=HC.out _ _ p1;have HB1:=zH hb1;have u0:w1.cell? ⟨B,q,none⟩=some (.pointer T.ptr):=(aa hb1 q).trans H0.out;have u1:w1.cell? ⟨B,q+1,none⟩=some (.int .i64 (ln:Nat)):=(aa hb1 (q+1)).trans H1.out;have f0:=ak hb1 q;have f1:=ak hb1 (q+1);clear hb1);go_ret;refine⟨T1.ptr,rfl,HF.out _ _ _ p1 e1' ?_ (vL _ _ _ _ _ _) (by rw[PK,PK])⟩;have hE:(((aK O T.toL k).length:Nat):Int)=(ln:Int) - 1:=by rw[HL.out];simp;omega
  rw[hE];exact aq (aq HB1.out q _) (q+1) _):P:=h
end
section
open AvlP
namespace AvI
section
variable{t:Nat}{own:Nat→Nat}
theorem mV(B q:Nat)(cs:Array Value)(ty:TypeId)(p:Option Addr)(L:List (ByteArray×Int))(k:ByteArray)(v:Int)(w:World)(hO:Ow own w)(hB:w.heap[B]?=some (.cells cs ty (0,0)))(h0:cs[q]?=some (.pointer p))(h1:cs[q+1]?=some (.int .i64 (L.length:Nat)))(hBt:own B≠t)(hT:dm nd oS own t w p L)(hlen:L.length≤700000):
 Calls prog 168 #[.pointer (some ⟨B,q,none⟩),.string k,.int .i64 v] w fun e w'=>∃own' p',e=.returned (.bool (ag oS L k).isNone)∧bI nd oS own t w w' B q cs ty (ay oS L k v) own' p':=uV
theorem jg(B q:Nat)(cs:Array Value)(ty:TypeId)(p:Option Addr)(L:List (ByteArray×Int))(k:ByteArray)(w:World)(hO:Ow own w)(hB:w.heap[B]?=some (.cells cs ty (0,0)))(h0:cs[q]?=some (.pointer p))(h1:cs[q+1]?=some (.int .i64 (L.length:Nat)))(hBt:own B≠t)(hT:dm nd oS own t w p L)(hlen:L.length≤700000):
 Calls prog 232 #[.pointer (some ⟨B,q,none⟩),.string k] w fun e w'=>∃p',e=.returned (.bool (ag oS L k).isSome)∧bI nd oS own t w w' B q cs ty (aK oS L k) own p':=js
end
end AvI
abbrev xM:=@AvI.mV
abbrev AC:=@AvI.jg
namespace AvK
section
variable{t:Nat}{own:Nat→Nat}
theorem mV(B q:Nat)(cs:Array Value)(ty:TypeId)(p:Option Addr)(L:List (ByteArray×Unit))(k:ByteArray)(v:Unit)(w:World)(hO:Ow own w)(hB:w.heap[B]?=some (.cells cs ty (0,0)))(h0:cs[q]?=some (.pointer p))(h1:cs[q+1]?=some (.int .i64 (L.length:Nat)))(hBt:own B≠t)(hT:dm nd oS own t w p L)(hlen:L.length≤700000):
 Calls prog 236 #[.pointer (some ⟨B,q,none⟩),.string k,.agg #[]] w fun e w'=>∃own' p',e=.returned (.bool (ag oS L k).isNone)∧bI nd oS own t w w' B q cs ty (ay oS L k v) own' p':=qv
theorem jg(B q:Nat)(cs:Array Value)(ty:TypeId)(p:Option Addr)(L:List (ByteArray×Unit))(k:ByteArray)(w:World)(hO:Ow own w)(hB:w.heap[B]?=some (.cells cs ty (0,0)))(h0:cs[q]?=some (.pointer p))(h1:cs[q+1]?=some (.int .i64 (L.length:Nat)))(hBt:own B≠t)(hT:dm nd oS own t w p L)(hlen:L.length≤700000):
 Calls prog 233 #[.pointer (some ⟨B,q,none⟩),.string k] w fun e w'=>∃p',e=.returned (.bool (ag oS L k).isSome)∧bI nd oS own t w w' B q cs ty (aK oS L k) own p':=js
end
end AvK
abbrev Mt:=@AvK.mV
abbrev Lw:=@AvK.jg
namespace AvS
section
variable{t:Nat}{own:Nat→Nat}
theorem mV(B q:Nat)(cs:Array Value)(ty:TypeId)(p:Option Addr)(L:List (ByteArray×Sp))(k:ByteArray)(v:Sp)(w:World)(hO:Ow own w)(hB:w.heap[B]?=some (.cells cs ty (0,0)))(h0:cs[q]?=some (.pointer p))(h1:cs[q+1]?=some (.int .i64 (L.length:Nat)))(hBt:own B≠t)(hT:dm nd oS own t w p L)(hlen:L.length≤700000):
 Calls prog 56 #[.pointer (some ⟨B,q,none⟩),.string k,.agg (SA v)] w fun e w'=>∃own' p',e=.returned (.bool (ag oS L k).isNone)∧bI nd oS own t w w' B q cs ty (ay oS L k v) own' p':=qv
theorem jg(B q:Nat)(cs:Array Value)(ty:TypeId)(p:Option Addr)(L:List (ByteArray×Sp))(k:ByteArray)(w:World)(hO:Ow own w)(hB:w.heap[B]?=some (.cells cs ty (0,0)))(h0:cs[q]?=some (.pointer p))(h1:cs[q+1]?=some (.int .i64 (L.length:Nat)))(hBt:own B≠t)(hT:dm nd oS own t w p L)(hlen:L.length≤700000):
 Calls prog 55 #[.pointer (some ⟨B,q,none⟩),.string k] w fun e w'=>∃p',e=.returned (.bool (ag oS L k).isSome)∧bI nd oS own t w w' B q cs ty (aK oS L k) own p':=js
end
end AvS
abbrev Gj:=@AvS.mV
abbrev Lt:=@AvS.jg
namespace AvE
section
variable{t:Nat}{own:Nat→Nat}
theorem mV(B q:Nat)(cs:Array Value)(ty:TypeId)(p:Option Addr)(L:List (ByteArray×Unit))(k:ByteArray)(v:Unit)(w:World)(hO:Ow own w)(hB:w.heap[B]?=some (.cells cs ty (0,0)))(h0:cs[q]?=some (.pointer p))(h1:cs[q+1]?=some (.int .i64 (L.length:Nat)))(hBt:own B≠t)(hT:dm nd oS own t w p L)(hlen:L.length≤700000):
 Calls prog 169 #[.pointer (some ⟨B,q,none⟩),.string k,.agg #[]] w fun e w'=>∃own' p',e=.returned (.bool (ag oS L k).isNone)∧bI nd oS own t w w' B q cs ty (ay oS L k v) own' p':=qv
theorem jg(B q:Nat)(cs:Array Value)(ty:TypeId)(p:Option Addr)(L:List (ByteArray×Unit))(k:ByteArray)(w:World)(hO:Ow own w)(hB:w.heap[B]?=some (.cells cs ty (0,0)))(h0:cs[q]?=some (.pointer p))(h1:cs[q+1]?=some (.int .i64 (L.length:Nat)))(hBt:own B≠t)(hT:dm nd oS own t w p L)(hlen:L.length≤700000):
 Calls prog 243 #[.pointer (some ⟨B,q,none⟩),.string k] w fun e w'=>∃p',e=.returned (.bool (ag oS L k).isSome)∧bI nd oS own t w w' B q cs ty (aK oS L k) own p':=js
end
end AvE
abbrev Mv:=@AvE.mV
abbrev Ly:=@AvE.jg
namespace AvP
section
variable{t:Nat}{own:Nat→Nat}
theorem mV(B q:Nat)(cs:Array Value)(ty:TypeId)(p:Option Addr)(L:List (ByteArray×Pl))(k:ByteArray)(v:Pl)(w:World)(hO:Ow own w)(hB:w.heap[B]?=some (.cells cs ty (0,0)))(h0:cs[q]?=some (.pointer p))(h1:cs[q+1]?=some (.int .i64 (L.length:Nat)))(hBt:own B≠t)(hT:dm nd oS own t w p L)(hlen:L.length≤700000):
 Calls prog 259 #[.pointer (some ⟨B,q,none⟩),.string k,.agg (PA v)] w fun e w'=>∃own' p',e=.returned (.bool (ag oS L k).isNone)∧bI nd oS own t w w' B q cs ty (ay oS L k v) own' p':=qv
theorem jg(B q:Nat)(cs:Array Value)(ty:TypeId)(p:Option Addr)(L:List (ByteArray×Pl))(k:ByteArray)(w:World)(hO:Ow own w)(hB:w.heap[B]?=some (.cells cs ty (0,0)))(h0:cs[q]?=some (.pointer p))(h1:cs[q+1]?=some (.int .i64 (L.length:Nat)))(hBt:own B≠t)(hT:dm nd oS own t w p L)(hlen:L.length≤700000):
 Calls prog 253 #[.pointer (some ⟨B,q,none⟩),.string k] w fun e w'=>∃p',e=.returned (.bool (ag oS L k).isSome)∧bI nd oS own t w w' B q cs ty (aK oS L k) own p':=js
end
end AvP
abbrev Gk:=@AvP.mV
abbrev Lu:=@AvP.jg
namespace AvN
section
variable{t:Nat}{own:Nat→Nat}
theorem mV(B q:Nat)(cs:Array Value)(ty:TypeId)(p:Option Addr)(L:List (Int×Int))(k:Int)(v:Int)(w:World)(hO:Ow own w)(hB:w.heap[B]?=some (.cells cs ty (0,0)))(h0:cs[q]?=some (.pointer p))(h1:cs[q+1]?=some (.int .i64 (L.length:Nat)))(hBt:own B≠t)(hT:dm nd oN own t w p L)(hlen:L.length≤700000):
 Calls prog 325 #[.pointer (some ⟨B,q,none⟩),.int .i64 k,.int .i64 v] w fun e w'=>∃own' p',e=.returned (.bool (ag oN L k).isNone)∧bI nd oN own t w w' B q cs ty (ay oN L k v) own' p':=uV
theorem jg(B q:Nat)(cs:Array Value)(ty:TypeId)(p:Option Addr)(L:List (Int×Int))(k:Int)(w:World)(hO:Ow own w)(hB:w.heap[B]?=some (.cells cs ty (0,0)))(h0:cs[q]?=some (.pointer p))(h1:cs[q+1]?=some (.int .i64 (L.length:Nat)))(hBt:own B≠t)(hT:dm nd oN own t w p L)(hlen:L.length≤700000):
 Calls prog 324 #[.pointer (some ⟨B,q,none⟩),.int .i64 k] w fun e w'=>∃p',e=.returned (.bool (ag oN L k).isSome)∧bI nd oN own t w w' B q cs ty (aK oN L k) own p':=js
end
end AvN
abbrev Ms:=@AvN.mV
abbrev Lv:=@AvN.jg
namespace AvT
section
variable{t:Nat}{own:Nat→Nat}
theorem mV(B q:Nat)(cs:Array Value)(ty:TypeId)(p:Option Addr)(L:List (ByteArray×ByteArray))(k:ByteArray)(v:ByteArray)(w:World)(hO:Ow own w)(hB:w.heap[B]?=some (.cells cs ty (0,0)))(h0:cs[q]?=some (.pointer p))(h1:cs[q+1]?=some (.int .i64 (L.length:Nat)))(hBt:own B≠t)(hT:dm nd oS own t w p L)(hlen:L.length≤700000):
 Calls prog 158 #[.pointer (some ⟨B,q,none⟩),.string k,.string v] w fun e w'=>∃own' p',e=.returned (.bool (ag oS L k).isNone)∧bI nd oS own t w w' B q cs ty (ay oS L k v) own' p':=uV
theorem jg(B q:Nat)(cs:Array Value)(ty:TypeId)(p:Option Addr)(L:List (ByteArray×ByteArray))(k:ByteArray)(w:World)(hO:Ow own w)(hB:w.heap[B]?=some (.cells cs ty (0,0)))(h0:cs[q]?=some (.pointer p))(h1:cs[q+1]?=some (.int .i64 (L.length:Nat)))(hBt:own B≠t)(hT:dm nd oS own t w p L)(hlen:L.length≤700000):
 Calls prog 156 #[.pointer (some ⟨B,q,none⟩),.string k] w fun e w'=>∃p',e=.returned (.bool (ag oS L k).isSome)∧bI nd oS own t w w' B q cs ty (aK oS L k) own p':=js
end
end AvT
abbrev Mr:=@AvT.mV
abbrev Ls:=@AvT.jg
namespace AvH
section
variable{t:Nat}{own:Nat→Nat}
theorem mV(B q:Nat)(cs:Array Value)(ty:TypeId)(p:Option Addr)(L:List (ByteArray×Nat))(k:ByteArray)(v:Nat)(w:World)(hO:Ow own w)(hB:w.heap[B]?=some (.cells cs ty (0,0)))(h0:cs[q]?=some (.pointer p))(h1:cs[q+1]?=some (.int .i64 (L.length:Nat)))(hBt:own B≠t)(hT:dm nd oS own t w p L)(hlen:L.length≤700000):
 Calls prog 150 #[.pointer (some ⟨B,q,none⟩),.string k,.pointer (some ⟨v,0,none⟩)] w fun e w'=>∃own' p',e=.returned (.bool (ag oS L k).isNone)∧bI nd oS own t w w' B q cs ty (ay oS L k v) own' p':=uV
theorem jg(B q:Nat)(cs:Array Value)(ty:TypeId)(p:Option Addr)(L:List (ByteArray×Nat))(k:ByteArray)(w:World)(hO:Ow own w)(hB:w.heap[B]?=some (.cells cs ty (0,0)))(h0:cs[q]?=some (.pointer p))(h1:cs[q+1]?=some (.int .i64 (L.length:Nat)))(hBt:own B≠t)(hT:dm nd oS own t w p L)(hlen:L.length≤700000):
 Calls prog 310 #[.pointer (some ⟨B,q,none⟩),.string k] w fun e w'=>∃p',e=.returned (.bool (ag oS L k).isSome)∧bI nd oS own t w w' B q cs ty (aK oS L k) own p':=js
end
end AvH
abbrev Mu:=@AvH.mV
abbrev Lx:=@AvH.jg
def cu(F:Nat→Prop)(W W':World):Prop:=∀b,F b→W'.heap[b]?=W.heap[b]?
theorem cu.refl(F:Nat→Prop)(W:World):cu F W W:=fun _ _=>rfl
theorem fh{F:Nat→Prop}{A B C:World}(h:cu F A B)(k:cu F B C):cu F A C:=fun b hb=>(k b hb).trans (h b hb)
theorem bG{F:Nat→Prop}{n:Nat}{A B:World}(hf:∀b,F b→b<n)(h:Below n A B):cu F A B:=fun b hb=>h.block b (hf b hb)
theorem gP{F:Nat→Prop}{w:World}(hn:∀b,F b→b<w.heap.size)(W:World)(l:Nat)(o o':Obj)(hl:w.heap.size≤l)(h:W.heap[l]?=some o)(h1:o.isCells=false)(h2:o.isWalk=false):cu F W (W.putObj l o'):=
 bG hn (belowK_b (Po _) W l o o' hl h h1 h2)
theorem uY{m:Nat}{P:Program}{l:Nat}{args:Array Value}{W:World}{R:Ending→World→Prop}(h:YieldAt Fence.wide m P l args W R):YieldAt Fence.wide 0 P l args W R:=by
 obtain⟨fn,tmps,assign,body,hy,hR⟩:=h;exact⟨fn,tmps,assign,body,hy,hR.1,fun c cs _=>hR.2 c cs (room_wide _)⟩
theorem wu{α:Type}{J:List α→World→Prop}{B:Nat}(hJ:AbidesFrom B J){zs:List α}{W W':World}(hj:J zs W)(hb:Below W.heap.size W W'):J zs W':=
 hJ zs W W' none hj ⟨hb.os,hb.tape,hb.output,hb.size,fun k hk _=>hb.block k hk⟩ (by simp)
section
variable{K V:Type}
structure np(N:Nd K V)(o:eN K)(w0:World)(ty:TypeId)(B:Nat)(Z:Nat→Prop)(w:World)(L:List (K×V))(own:Nat→Nat)(p:Option Addr):Prop where
 box:w.heap[B]?=some (.cells #[.pointer p,.int .i64 (L.length:Nat)] ty (0,0))
 tr:dm N o own 1 w p L
 ow:Ow own w
 b0:own B=0
 old:∀b,b<w0.heap.size→own b=0
 le:w0.heap.size≤B
 z:∀b,Z b→own b=0∧b≠B∧b<w.heap.size
 below:Below w0.heap.size w0 w
def pJ(N:Nd K V)(o:eN K)(w0:World)(ty:TypeId)(B:Nat)(Z:Nat→Prop)(w:World)(L:List (K×V)):Prop:=∃own p,np N o w0 ty B Z w L own p
variable{N:Nd K V}{o:eN K}{w0 w w':World}{ty:TypeId}{B:Nat}{Z Z':Nat→Prop}{L L':List (K×V)}{own own':Nat→Nat}{p p':Option Addr}
theorem Gv(w0:World)(ty:TypeId):pJ N o w0 ty w0.heap.size (fun _=>False) (w0.alloc (.cells #[.pointer none,.int .i64 0] ty)) ([]:List (K×V)):=
 ⟨fun _=>0,none,Up _ _,bM N o _ 1 _,fun _ _=>rfl,rfl,fun _ _=>rfl,Po _,fun _ h=>h.elim,ae _ (Pk _ _)⟩
theorem np.kept(h:np N o w0 ty B Z w L own p)(hb:Below w.heap.size w w'):np N o w0 ty B Z w' L own p:=
 ⟨af h.box hb,h.tr.below hb,h.ow.mono hb.size,h.b0,h.old,h.le,fun b hz=>⟨(h.z b hz).1,(h.z b hz).2.1,Ut (h.z b hz).2.2 hb.size⟩,h.below.trans (hb.mono h.below.size)⟩
theorem pJ.kept(h:pJ N o w0 ty B Z w L)(hb:Below w.heap.size w w'):pJ N o w0 ty B Z w' L:=by
 obtain⟨own,p,h⟩:=h;exact⟨own,p,h.kept hb⟩
theorem pJ.below(h:pJ N o w0 ty B Z w L):Below w0.heap.size w0 w:=by
 obtain⟨own,p,h⟩:=h;exact h.below
theorem pJ.more(h:pJ N o w0 ty B Z w L)(hb:Below w.heap.size w w')(hz:∀b,Z' b→Z b∨(w.heap.size≤b∧b<w'.heap.size)):pJ N o w0 ty B Z' w' L:=by
 obtain⟨own,p,h⟩:=h;have k:=h.kept hb;refine⟨own,p,⟨k.box,k.tr,k.ow,k.b0,k.old,k.le,fun b hb'=>(hz b hb').elim (k.z b) fun hge=>⟨h.ow b hge.1,?_,hge.2⟩,k.below⟩⟩;have:=am h.box;omega
theorem pJ.less(h:pJ N o w0 ty B Z w L)(hz:∀b,Z' b→Z b):pJ N o w0 ty B Z' w L:=h.more (Pk _ _) fun b hb=>.inl (hz b hb)
theorem np.post(h:np N o w0 ty B Z w L own p)(m:bI N o own 1 w w' B 0 #[.pointer p,.int .i64 (L.length:Nat)] ty L' own' p'):np N o w0 ty B Z w' L' own' p'∧Below w0.heap.size w w'∧cu Z w w':=by
 have hBw:=am h.box;have hb:Below w0.heap.size w w':=m.kp.below (fun b hb hf=>hf.elim (fun e=>by have:=h.le;omega) (fun e=>by rw[h.old b hb]at e;omega)) h.below.size;have eB:=m.ext B hBw;have hbox:=m.box;simp only[UY,U9,U3,Rf]at hbox;refine⟨⟨hbox,m.tr,m.ow,by rw[eB];exact h.b0,fun b hb'=>by rw[m.ext b (Ut hb' h.below.size)];exact h.old b hb',h.le,fun b hz=>?_,h.below.trans hb⟩,hb,fun b hz=>?_⟩
 ·obtain⟨z1,z2,z3⟩:=h.z b hz;exact⟨by rw[m.ext b z3];exact z1,z2,Ut z3 m.kp.size⟩
 ·obtain⟨z1,z2,z3⟩:=h.z b hz;exact m.kp.block b z3 fun hf=>hf.elim z2 (fun e=>by omega)
end
end
