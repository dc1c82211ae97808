/- For WholeGone: contracts of functions and plain laws. -/
import Derived.Test.YtfgfbacnkpeneaaGreatDoorZAi
import Derived.Deep.LoopGhost
set_option maxRecDepth 100000
set_option maxHeartbeats 4000000
set_option linter.unusedVariables false
set_option linter.unusedSimpArgs false
namespace Go.Proofs.YtfgfbacnkpeneaaGreatDoor
open Go.Proofs.Tryz Go.ChangeShapes Go.WideShapes Go.ChangeAt Go.RowKit Go.Deep AvlP
abbrev Uq:=@And.intro
abbrev Ux:=@Go.bodyPost_ret
abbrev Uy:=@Go.World.block_lt_of_cell?
abbrev UL:=@Array.getElem?_setIfInBounds
abbrev VE:=@List.filter_eq_self
abbrev VG:=@List.filter_append
theorem NP{P:Prop}(h:P:=by
 clear HL' HFR' hb hl hr hA hn hs ih1 ih2 hlen hdis;simp only[AT.ptr];go_enter fm,fg;go_wp2_with (first
  |((with_reducible refine(HI.out).mono ?_);rintro e1 w1 ⟨T1,rfl,p,e1'⟩;obtain⟨u1,f1⟩:=HFR.out _ _ p)
  |((with_reducible refine(HLV.out _ _ p e1').mono ?_);rintro e2 w2 ⟨T2,rfl,p2,e2'⟩))
 go_ret2;exact⟨T2,by rw[HG.out];rfl,p2,e2'⟩):P:=h
theorem Ob{P:Prop}(h:P:=by
 have HLN:=zH hlen;clear j2 j3 HI hb hl hrr hA h1 h2 hlen;simp only[AT.ptr];go_wp2_with fail;go_roundg (rr.toL.length+1)
 case measure=>rw[HLN.out];omega
 case rel=>exact⟨rr,rfl,rfl,HN,rfl⟩):P:=h
theorem Od{P:Prop}(h:P:=by
 have HLN:=zH hlen;clear j2 j3 HI hb hl hrr hA h1 hlen;simp only[AT.ptr];go_wp2_with fail;go_roundg (l.toL.length+1)
 case measure=>rw[HLN.out];omega
 case rel=>exact⟨l,rfl,rfl,HN,rfl⟩):P:=h
theorem OZ{P:Prop}(h:P:=by
 rw[UL,UL,Pm (by omega),Pm (by omega)]):P:=h
section
theorem ju{P:Prop}(h:P:=by
 induction T with
 |nil=>intro w h;exact absurd rfl h
 |node b l k v r ih1 _=>
  intro w _ hi hn hlen;obtain⟨ob,hb,hl,hr⟩:=hi;obtain⟨hbl,hbr,hnl,hnr,hdis⟩:=jR hn;have hlen2:l.toL.length+r.toL.length+1≤800000:=by simp only[AT.toL,Pu,PC]at hlen;omega
  have c2:w.cell? ⟨b,OL,none⟩=some (.pointer l.ptr):=aa hb OL;have c3:w.cell? ⟨b,OH,none⟩=some (.pointer r.ptr):=aa hb OH;cases l with
  |nil=>
   have HF:=zH (show eE nd own t (.node b .nil k v r) w (.returned (.tuple #[.pointer r.ptr,.pointer (some ⟨b,0,none⟩)])) w from⟨r,b,k,v,_,_,_,rfl,⟨hr,ob,hb,rfl,Q0 _,Kp.refl _ _,rfl⟩⟩);clear hb hl hr hn hdis ih1;simp only[AT.ptr]at c2⊢;go_enter fM,fJ;go_wp2;go_ret2;exact HF.out
  |node bl ll kl vl rl=>
   have HI:=zH (ih1 w (by simp) hl hnl (by omega));have HL':∀(R1:AT K V) c kc vc lp rp d w1,jr nd own t (.node bl ll kl vl rl) R1 c kc vc lp rp d w w1→
     Calls prog cP #[.pointer (some ⟨b,0,none⟩)] (w1.setCell ⟨b,OL,none⟩ (.pointer R1.ptr)) fun e w'=>∃T',e=.returned (.pointer T'.ptr)∧jr nd own t (.node b (.node bl ll kl vl rl) k v r) T' c kc vc lp rp d w w':=fun R1 c kc vc lp rp d w1 p=>by
    obtain⟨s1,s2,s3,s4⟩:=p.sep hnl;have hbR:b∉R1.blocks:=fun h=>hbl (s4 b h);have hb1:=p.kp.at hb (fun h=>hbl h);have hr1:aC nd own t w1 r:=hr.kp p.kp (fun y hy h=>hdis y h y hy rfl) (aO.refl _ _);have hh1:=R1.hgt_le;have hh2:=r.hgt_le;have hh3:=congrArg List.length p.toL;rw[PC]at hh3;refine(gX b k v R1 r _ _ ob (aq hb1 OL _) (p.inT.setCell hbR _) (hr1.setCell hbr _) (jf hbR hbr s2 hnr fun x hx y hy=>hdis x (s4 x hx) y hy) (by omega)).mono ?_;rintro e w' ⟨T',rfl,q1,q2,q3,q4,q5⟩;exact⟨T',rfl,Ed hn p q1 q2 q3 q4 q5⟩
   have HLV:=zH HL';have HFR':∀(R1:AT K V) c kc vc lp rp d w1,jr nd own t (.node bl ll kl vl rl) R1 c kc vc lp rp d w w1→w1.cell? ⟨b,OL,none⟩=some (.pointer (some ⟨bl,0,none⟩))∧w1.frozen? ⟨b,OL,none⟩=false:=fun R1 c kc vc lp rp d w1 p=>⟨aa (p.kp.at hb (fun h=>hbl h)) OL,ak (p.kp.at hb (fun h=>hbl h)) OL⟩;have HFR:=zH HFR';clear HL' HFR' hb hl hr hn hdis ih1 hlen hlen2 hnl;simp only[AT.ptr]at c2 HI⊢;go_enter fM,fJ;go_wp2_with (first
    |((with_reducible refine(HI.out).mono ?_);rintro e1 w1 ⟨R1,c,kc,vc,lp,rp,d,rfl,p⟩;obtain⟨u1,f1⟩:=HFR.out _ _ _ _ _ _ _ _ p)
    |((with_reducible refine(HLV.out _ _ _ _ _ _ _ _ p).mono ?_);rintro e2 w2 ⟨T2,rfl,p2⟩))
   go_ret2;exact⟨T2,c,kc,vc,lp,rp,d,rfl,p2⟩):P:=h
theorem lg{P:Prop}(h:P:=by
 induction T with
 |nil=>
  intro w _ _ _ _;have HF:=zH (show fW nd O own t .nil k w (.returned (.tuple #[.pointer none,.bool false])) w from⟨.nil,rfl,⟨trivial,by simp[AT.blocks],fun y hy=>hy,Kp.refl _ _,rfl⟩,rfl⟩);simp only[AT.ptr];go_enter fm,fg;go_wp2;go_ret2;exact HF.out
 |node b l k0 v0 r ih1 ih2=>
  intro w hi hn hs hlen;obtain⟨ob,hb,hl,hr⟩:=hi;obtain⟨hbl,hbr,hnl,hnr,hdis⟩:=jR hn;have hA:=dO O hs;have hlen2:l.toL.length+r.toL.length+1≤800000:=by simp only[AT.toL,Pu,PC]at hlen;omega
  have c0:w.cell? ⟨b,0,none⟩=some ((KV k0)):=aa hb 0;have c2:w.cell? ⟨b,OL,none⟩=some (.pointer l.ptr):=aa hb OL;have c3:w.cell? ⟨b,OH,none⟩=some (.pointer r.ptr):=aa hb OH;have hh1:=l.hgt_le;have hh2:=r.hgt_le;by_cases h1:(O).lt k k0=true
  ·(first |have g1:Op.bytesLess k.toList k0.toList=true:=h1 |have g1:@LT.lt Int _ k k0:=by simpa[oN]using h1);have HI:=zH (ih1 w hl hnl hA.2.2.1 (by omega));have HL':∀(T1:AT K V) w1,eR nd own t l T1 w w1→T1.toL=aK O l.toL k→
     Calls prog cP #[.pointer (some ⟨b,0,none⟩)] (w1.setCell ⟨b,OL,none⟩ (.pointer T1.ptr)) fun e w'=>∃T',e=.returned (.pointer T'.ptr)∧eR nd own t (.node b l k0 v0 r) T' w w'∧T'.toL=aK O (AT.node b l k0 v0 r).toL k:=fun T1 w1 p e1=>by
    have hbT:b∉T1.blocks:=fun h=>hbl (p.sub b h);have hb1:=p.kp.at hb (fun h=>hbl h);have hr1:aC nd own t w1 r:=hr.kp p.kp (fun y hy h=>hdis y h y hy rfl) (aO.refl _ _);have hh3:=T1.hgt_le;have hh4:=(lF O l.toL k).length_le;rw[e1]at hh3;refine(gX b k0 v0 T1 r _ _ ob (aq hb1 OL _) (p.inT.setCell hbT _) (hr1.setCell hbr _) (jf hbT hbr p.nod hnr fun x hx y hy=>hdis x (p.sub x hx) y hy) (by omega)).mono ?_;rintro e w' ⟨T',rfl,q1,q2,q3,q4,q5⟩;obtain⟨z1,z2,_⟩:=Hv hn p e1 h1 q1 q2 q3 q4 q5;exact⟨T',rfl,z1,z2⟩
   have HLV:=zH HL';have HFR':∀(T1:AT K V) w1,eR nd own t l T1 w w1→w1.cell? ⟨b,OL,none⟩=some (.pointer l.ptr)∧w1.frozen? ⟨b,OL,none⟩=false:=fun T1 w1 p=>⟨aa (p.kp.at hb (fun h=>hbl h)) OL,ak (p.kp.at hb (fun h=>hbl h)) OL⟩;have HFR:=zH HFR';have HG:=zH (show ag O (AT.node b l k0 v0 r).toL k=ag O l.toL k from jl O h1);exact NP
  ·(first |have g1:Op.bytesLess k.toList k0.toList=false:=by simpa[oS,oN]using h1 |have g1:¬@LT.lt Int _ k k0:=by simpa[oS,oN]using h1);by_cases h2:(O).lt k0 k=true
   ·(first |have g2:Op.bytesLess k0.toList k.toList=true:=h2 |have g2:@LT.lt Int _ k0 k:=by simpa[oN]using h2)
    try have g3:=eh ((O).ne h2).symm
    have HI:=zH (ih2 w hr hnr hA.2.2.2 (by omega));have HL':∀(T1:AT K V) w1,eR nd own t r T1 w w1→T1.toL=aK O r.toL k→
      Calls prog cP #[.pointer (some ⟨b,0,none⟩)] (w1.setCell ⟨b,OH,none⟩ (.pointer T1.ptr)) fun e w'=>∃T',e=.returned (.pointer T'.ptr)∧eR nd own t (.node b l k0 v0 r) T' w w'∧T'.toL=aK O (AT.node b l k0 v0 r).toL k:=fun T1 w1 p e1=>by
     have hbT:b∉T1.blocks:=fun h=>hbr (p.sub b h);have hb1:=p.kp.at hb (fun h=>hbr h);have hl1:aC nd own t w1 l:=hl.kp p.kp (fun y hy h=>hdis y hy y h rfl) (aO.refl _ _);have hh3:=T1.hgt_le;have hh4:=(lF O r.toL k).length_le;rw[e1]at hh3;refine(gX b k0 v0 l T1 _ _ ob (aq hb1 OH _) (hl1.setCell hbl _) (p.inT.setCell hbT _) (jf hbl hbT hnl p.nod fun x hx y hy=>hdis x hx y (p.sub y hy)) (by omega)).mono ?_;rintro e w' ⟨T',rfl,q1,q2,q3,q4,q5⟩;obtain⟨z1,z2,_⟩:=EL hn hs p e1 h2 q1 q2 q3 q4 q5;exact⟨T',rfl,z1,z2⟩
    have HLV:=zH HL';have HFR':∀(T1:AT K V) w1,eR nd own t r T1 w w1→w1.cell? ⟨b,OH,none⟩=some (.pointer r.ptr)∧w1.frozen? ⟨b,OH,none⟩=false:=fun T1 w1 p=>⟨aa (p.kp.at hb (fun h=>hbr h)) OH,ak (p.kp.at hb (fun h=>hbr h)) OH⟩;have HFR:=zH HFR';have HG:=zH (show ag O (AT.node b l k0 v0 r).toL k=ag O r.toL k from gD O hA.1 h2);exact NP
   ·(first |have g2:Op.bytesLess k0.toList k.toList=false:=by simpa[oS,oN]using h2 |have g2:¬@LT.lt Int _ k0 k:=by simpa[oS,oN]using h2);obtain rfl:k=k0:=(O).tri _ _ (by simpa using h1) (by simpa using h2);have HG:=zH (show ag O (AT.node b l k v0 r).toL k=some v0 from mc O hA.1);cases r with
    |nil=>
     have HF:=zH (show eR nd own t (.node b l k v0 .nil) l w w∧l.toL=aK O (AT.node b l k v0 .nil).toL k from⟨⟨hl,hnl,fun y hy=>by simp[AT.blocks,hy],Kp.refl _ _,rfl⟩,by have:=CP O (A:=l.toL) (B:=[]) (a:=k) (x:=v0) hA.1;rw[Q7]at this;exact this.symm⟩);clear hb hl hr hA hn hs ih1 ih2 hlen hdis h1 h2;simp only[AT.ptr]at c3⊢;go_enter fm,fg;go_wp2;go_ret2;exact⟨l,by rw[HG.out];rfl,HF.out.1,HF.out.2⟩
    |node br lr kr vr rr=>
     have HI:=zH (pW (.node br lr kr vr rr) w (by simp) hr hnr (by omega));have HL':∀(R1:AT K V) c kc vc lp rp d w1,jr nd own t (.node br lr kr vr rr) R1 c kc vc lp rp d w w1→
       Calls prog cP #[.pointer (some ⟨c,0,none⟩)] ((w1.setCell ⟨c,OL,none⟩ (.pointer l.ptr)).setCell ⟨c,OH,none⟩ (.pointer R1.ptr)) fun e w'=>∃T',e=.returned (.pointer T'.ptr)∧eR nd own t (.node b l k v0 (.node br lr kr vr rr)) T' w w'∧T'.toL=aK O (AT.node b l k v0 (.node br lr kr vr rr)).toL k:=fun R1 c kc vc lp rp d w1 p=>by
      obtain⟨s1,s2,s3,s4⟩:=p.sep hnr;have hcl:c∉l.blocks:=fun h=>hdis c h c s3 rfl;have hl1:aC nd own t w1 l:=hl.kp p.kp (fun y hy h=>hdis y hy y h rfl) (aO.refl _ _);have hh3:=R1.hgt_le;have hh4:=congrArg List.length p.toL;rw[PC]at hh4;refine(gX c kc vc l R1 _ _ p.ob (aq (aq p.hb OL _) OH _) ((hl1.setCell hcl _).setCell hcl _) ((p.inT.setCell s1 _).setCell s1 _) (jf hcl s1 hnl s2 fun x hx y hy=>hdis x hx y (s4 y hy)) (by omega)).mono ?_;rintro e w' ⟨T',rfl,q1,q2,q3,q4,q5⟩;obtain⟨z1,z2⟩:=Hu (o:=O) hn hs p q1 q2 q3 q4 q5;exact⟨T',rfl,z1,z2⟩
     have HLV:=zH HL';have HFR':∀(R1:AT K V) c kc vc lp rp d w1,jr nd own t (.node br lr kr vr rr) R1 c kc vc lp rp d w w1→w1.cell? ⟨b,OL,none⟩=some (.pointer l.ptr)∧w1.cell? ⟨c,OL,none⟩=some (.pointer lp)∧w1.cell? ⟨c,OH,none⟩=some (.pointer rp)∧w1.frozen? ⟨c,OL,none⟩=false∧w1.frozen? ⟨c,OH,none⟩=false:=fun R1 c kc vc lp rp d w1 p=>⟨aa (p.kp.at hb (fun h=>hbr h)) OL,aa p.hb OL,aa p.hb OH,ak p.hb OL,ak p.hb OH⟩;have HFR:=zH HFR';clear HL' HFR' hb hl hr hA hn hs ih1 ih2 hlen hdis h1 h2;simp only[AT.ptr]at c3 HI⊢;go_enter fm,fg;go_wp2_with (first
      |((with_reducible refine(HI.out).mono ?_);rintro e1 w1 ⟨R1,c,kc,vc,lp,rp,d,rfl,p⟩;obtain⟨u1,u2,u3,f2,f3⟩:=HFR.out _ _ _ _ _ _ _ _ p)
      |((with_reducible refine(HLV.out _ _ _ _ _ _ _ _ p).mono ?_);rintro e2 w2 ⟨T2,rfl,p2,e2'⟩))
     go_ret2;exact⟨T2,by rw[HG.out];rfl,p2,e2'⟩):P:=h
namespace AvI
section
variable{t:Nat}{own:Nat→Nat}
theorem pW(T:AT ByteArray Int):∀(w:World),T≠ .nil→aC nd own t w T→T.blocks.Nodup→T.toL.length≤800000→
 Calls prog 334 #[.pointer T.ptr] w (eE nd own t T w):=ju
theorem yI(k:ByteArray)(T:AT ByteArray Int):∀(w:World),aC nd own t w T→T.blocks.Nodup→aX oS T.toL→T.toL.length≤800000→
 Calls prog 293 #[.pointer T.ptr,.string k] w (fW nd oS own t T k w):=lg
end
end AvI
theorem ql{w:World}{a:Addr}{u:Value}(h:w.cell? a=some u)(o:Obj):(w.alloc o).cell? a=some u:=(((Pk w.heap.size w).alloc (Po _) o).cell (Uy w a h)).trans h
theorem lX(w:World)(B j:Nat)(v:Value):Kp (fun b=>b=B) w (w.setCell ⟨B,j,none⟩ v):=Kp.setCell (F:=fun b=>b=B) (Kp.refl _ w) (b:=B) (j:=j) (fun _=>rfl) v
theorem vL(w:World)(B i j:Nat)(u v:Value):Kp (fun b=>b=B) w ((w.setCell ⟨B,i,none⟩ u).setCell ⟨B,j,none⟩ v):=(lX w B i u).trans (lX _ B j v)
section
variable{K V:Type}
def dm(N:Nd K V)(o:eN K)(own:Nat→Nat)(t:Nat)(w:World)(p:Option Addr)(L:List (K×V)):Prop:=
 ∃T:AT K V,T.ptr=p∧T.toL=L∧aC N own t w T∧T.blocks.Nodup∧aX o L
variable{N:Nd K V}{o:eN K}{own own':Nat→Nat}{t:Nat}{w w':World}{p:Option Addr}{L:List (K×V)}
theorem dm.srt(h:dm N o own t w p L):aX o L:=by
 obtain⟨_,_,_,_,_,h⟩:=h;exact h
theorem bM(N:Nd K V)(o:eN K)(own:Nat→Nat)(t:Nat)(w:World):dm N o own t w none []:=⟨.nil,rfl,rfl,trivial,by simp[AT.blocks],fH o⟩
theorem dm.kp{F:Nat→Prop}(h:dm N o own t w p L)(hk:Kp F w w')(hf:∀b,b<w.heap.size→own b=t→¬F b)(he:aO own own' w):dm N o own' t w' p L:=by
 obtain⟨T,h1,h2,h3,h4,h5⟩:=h;exact⟨T,h1,h2,h3.kp hk (fun b hb=>hf b (h3.at b hb).2 (h3.at b hb).1) he,h4,h5⟩
theorem dm.below(h:dm N o own t w p L)(hb:Below w.heap.size w w'):dm N o own t w' p L:=by
 obtain⟨T,h1,h2,h3,h4,h5⟩:=h;exact⟨T,h1,h2,h3.below hb,h4,h5⟩
theorem dm.ext(h:dm N o own t w p L)(he:aO own own' w):dm N o own' t w p L:=h.kp (Kp.refl (fun _=>False) w) (fun _ _ _ h=>h) he
theorem dm.setCell(h:dm N o own t w p L){B j:Nat}(hB:own B≠t)(v:Value):dm N o own t (w.setCell ⟨B,j,none⟩ v) p L:=
 h.kp (Kp.setCell (F:=fun b=>b=B) (Kp.refl _ w) (b:=B) (j:=j) (fun _=>rfl) v) (fun b _ e h=>hB (by rw[←h];exact e)) (aO.refl _ _)
structure bI(N:Nd K V)(o:eN K)(own:Nat→Nat)(t:Nat)(w w':World)(B q:Nat)(cs:Array Value)(ty:TypeId)(L':List (K×V))(own':Nat→Nat)(p':Option Addr):Prop where
 box:w'.heap[B]?=some (.cells ((cs.setIfInBounds q (.pointer p')).setIfInBounds (q+1) (.int .i64 (L'.length:Nat))) ty (0,0))
 tr:dm N o own' t w' p' L'
 kp:Kp (fun b=>b=B∨own b=t) w w'
 ext:aO own own' w
 ow:Ow own' w'
theorem qZ{cs:Array Value}{i:Nat}{v:Value}(h:cs[i]?=some v):cs.setIfInBounds i v=cs:=by
 refine Array.ext_getElem? fun j=>?_;rw[UL];split
 ·rename_i e;subst e;split
  ·exact h.symm
  ·rename_i hn;rw[Array.getElem?_eq_none (by omega)]at h;cases h
 ·rfl
theorem vy{cs:Array Value}{i j:Nat}{v x:Value}(h:cs[j]?=some x)(hne:i≠j):(cs.setIfInBounds i v)[j]?=some x:=by
 rw[UL,Pm hne];exact h
end
namespace AvK
abbrev K:=ByteArray
abbrev V:=Unit
abbrev OL:Nat:=1
abbrev OH:Nat:=2
abbrev OD:Nat:=3
abbrev O:=oS
abbrev TY:TypeId:=431
abbrev KV(k:K):Value:=.string k
abbrev gN(_v:V):Array Value:=#[]
abbrev uT(_v:V):List Value:=[]
abbrev Kv(k:K)(_v:V)(l r:Option Addr)(d:Int):Array Value:=#[.string k,.pointer l,.pointer r,.int .i64 d]
abbrev VT:TypeId:=354
abbrev fO:=func233
abbrev fL:=ntmps233
abbrev fN:=func236
abbrev fK:=ntmps236
abbrev iN:=func380
abbrev iJ:=ntmps380
abbrev fm:=func294
abbrev fg:=ntmps294
abbrev iM:=func333
abbrev iI:=ntmps333
abbrev jA:=func366
abbrev jx:=ntmps366
abbrev fM:=func335
abbrev fJ:=ntmps335
abbrev cP:FuncId:=336
abbrev dD:=func336
abbrev dy:=ntmps336
abbrev eG:FuncId:=365
abbrev dT:=func365
abbrev dQ:=ntmps365
abbrev fu:=func297
abbrev ft:=ntmps297
abbrev cR:FuncId:=367
abbrev dl:=func367
abbrev di:=ntmps367
abbrev dK:FuncId:=368
abbrev dS:=func368
abbrev dP:=ntmps368
def nd:Nd ByteArray Unit:=⟨fun k _ l r d=>#[.string k,.pointer l,.pointer r,.int .i64 d],431⟩
section
variable{own:Nat→Nat}{t:Nat}
theorem sw(T:AT ByteArray Unit)(w:World)(h:aC nd own t w T):Calls prog 380 #[.pointer T.ptr] w fun e w'=>e=.returned (.int .i64 (T.hgt:Nat))∧w=w':=lh
theorem tg(b:Nat)(k:ByteArray)(v:Unit)(l r:AT ByteArray Unit)(d:Int)(w:World)(hb:w.heap[b]?=some (.cells (nd.cells k v l.ptr r.ptr d) nd.ty (0,0)))(hl:aC nd own t w l)(hr:aC nd own t w r)(hlr:l.hgt≤1000000∧r.hgt≤1000000):
 Calls prog 366 #[.pointer (some ⟨b,0,none⟩)] w fun e w'=>e=.returned (.int .i64 ((r.hgt:Int) - l.hgt))∧∃n,w'=w.drewN n:=kZ
theorem measure(b:Nat)(k:ByteArray)(v:Unit)(l r:AT ByteArray Unit)(d:Int)(w:World)(hb:w.heap[b]?=some (.cells (nd.cells k v l.ptr r.ptr d) nd.ty (0,0)))(hl:aC nd own t w l)(hr:aC nd own t w r)(hlr:l.hgt≤1000000∧r.hgt≤1000000):
 Calls prog 365 #[.pointer (some ⟨b,0,none⟩)] w fun e w'=>e=.returned (.tuple #[])∧w'.heap[b]?=some (.cells (nd.cells k v l.ptr r.ptr ((1+max l.hgt r.hgt:Nat):Int)) nd.ty (0,0))∧Kp (fun x=>x=b) w w'∧w'.heap.size=w.heap.size:=fw
theorem gO(b c:Nat)(k k2:ByteArray)(v v2:Unit)(l x r:AT ByteArray Unit)(d d2:Int)(w:World)(ob:own b=t)(oc:own c=t)(hb:w.heap[b]?=some (.cells (nd.cells k v l.ptr (some ⟨c,0,none⟩) d) nd.ty (0,0)))(hc:w.heap[c]?=some (.cells (nd.cells k2 v2 x.ptr r.ptr d2) nd.ty (0,0)))
 (hl:aC nd own t w l)(hx:aC nd own t w x)(hr:aC nd own t w r)(hn:(b::c::(l.blocks++x.blocks++r.blocks)).Nodup)(hs:l.hgt≤999990∧x.hgt≤999990∧r.hgt≤999990):
 Calls prog 368 #[.pointer (some ⟨b,0,none⟩)] w fun e w'=>e=.returned (.pointer (some ⟨c,0,none⟩))∧aC nd own t w' (.node c (.node b l k v x) k2 v2 r)∧Kp (fun y=>y=b∨y=c) w w'∧w'.heap.size=w.heap.size:=fv
theorem eS(b c:Nat)(k k2:ByteArray)(v v2:Unit)(l x r:AT ByteArray Unit)(d d2:Int)(w:World)(ob:own b=t)(oc:own c=t)(hb:w.heap[b]?=some (.cells (nd.cells k v (some ⟨c,0,none⟩) l.ptr d) nd.ty (0,0)))(hc:w.heap[c]?=some (.cells (nd.cells k2 v2 r.ptr x.ptr d2) nd.ty (0,0)))
 (hl:aC nd own t w l)(hx:aC nd own t w x)(hr:aC nd own t w r)(hn:(b::c::(l.blocks++x.blocks++r.blocks)).Nodup)(hs:l.hgt≤999990∧x.hgt≤999990∧r.hgt≤999990):
 Calls prog 367 #[.pointer (some ⟨b,0,none⟩)] w fun e w'=>e=.returned (.pointer (some ⟨c,0,none⟩))∧aC nd own t w' (.node c r k2 v2 (.node b x k v l))∧Kp (fun y=>y=b∨y=c) w w'∧w'.heap.size=w.heap.size:=dM
theorem gX(b:Nat)(k:ByteArray)(v:Unit)(l r:AT ByteArray Unit)(d:Int)(w:World)(ob:own b=t)(hb:w.heap[b]?=some (.cells (nd.cells k v l.ptr r.ptr d) nd.ty (0,0)))(hl:aC nd own t w l)(hr:aC nd own t w r)(hn:(b::(l.blocks++r.blocks)).Nodup)(hs:l.hgt≤900000∧r.hgt≤900000):
 Calls prog 336 #[.pointer (some ⟨b,0,none⟩)] w (gK nd own t b l k v r w):=jt
end
end AvK
namespace AvK
section
variable{t:Nat}{own:Nat→Nat}
theorem pW(T:AT ByteArray Unit):∀(w:World),T≠ .nil→aC nd own t w T→T.blocks.Nodup→T.toL.length≤800000→
 Calls prog 335 #[.pointer T.ptr] w (eE nd own t T w):=ju
theorem yI(k:ByteArray)(T:AT ByteArray Unit):∀(w:World),aC nd own t w T→T.blocks.Nodup→aX oS T.toL→T.toL.length≤800000→
 Calls prog 294 #[.pointer T.ptr,.string k] w (fW nd oS own t T k w):=lg
end
end AvK
theorem fC{K V:Type}(o:eN K)(L:List (K×V))(k:K):(aK o L k).length≤L.length:=by
 induction L with
 |nil=>simp[aK]
 |cons z r ih=>
  obtain⟨a,x⟩:=z;simp only[aK];split
  ·exact Po _
  ·split
   ·simp only[PC];omega
   ·simp
structure aT(q n:Nat)(cs cs':Array Value):Prop where
 size:cs'.size=cs.size
 far:∀j,j<q∨q+n≤j→cs'[j]?=cs[j]?
theorem aT.refl(q n:Nat)(cs:Array Value):aT q n cs cs:=⟨rfl,fun _ _=>rfl⟩
theorem aT.trans{q n:Nat}{a b c:Array Value}(h:aT q n a b)(k:aT q n b c):aT q n a c:=⟨k.size.trans h.size,fun j hj=>(k.far j hj).trans (h.far j hj)⟩
theorem aT.wide{q n q' n':Nat}{a b:Array Value}(h:aT q n a b)(h1:q'≤q)(h2:q+n≤q'+n'):aT q' n' a b:=⟨h.size,fun j hj=>h.far j (by omega)⟩
theorem cX(q:Nat)(cs:Array Value)(u v:Value):aT q 2 cs ((cs.setIfInBounds q u).setIfInBounds (q+1) v):=by
 refine⟨by simp,fun j hj=>?_⟩;exact OZ
theorem gh{q:Nat}{cs:Array Value}{a b u v:Value}(h0:cs[q]?=some a)(h1:cs[q+1]?=some b):((cs.setIfInBounds q u).setIfInBounds (q+1) v)[q]?=some u∧((cs.setIfInBounds q u).setIfInBounds (q+1) v)[q+1]?=some v:=by
 obtain⟨z0,_⟩:=Rj.1 h0;obtain⟨z1,_⟩:=Rj.1 h1;constructor
 ·rw[UL,Pm (by omega),UL,Pj rfl,Pj z0]
 ·rw[UL,Pj rfl,Pj (by simpa using z1)]
section
variable{K1 V1 K2 V2:Type}(N1:Nd K1 V1)(o1:eN K1)(N2:Nd K2 V2)(o2:eN K2)
structure ID(own:Nat→Nat)(t1 t2:Nat)(w:World)(B q:Nat)(cs:Array Value)(ty:TypeId)(p1 p2:Option Addr)(A:List (K1×V1))(C:List (K2×V2)):Prop where
 box:w.heap[B]?=some (.cells cs ty (0,0))
 c0:cs[q]?=some (.pointer p1)
 c1:cs[q+1]?=some (.int .i64 (A.length:Nat))
 c2:cs[q+2]?=some (.pointer p2)
 c3:cs[q+3]?=some (.int .i64 (C.length:Nat))
 a:dm N1 o1 own t1 w p1 A
 c:dm N2 o2 own t2 w p2 C
 ow:Ow own w
 n1:own B≠t1
 n2:own B≠t2
 ne:t1≠t2
structure cn(own:Nat→Nat)(t1 t2:Nat)(w w':World)(B q:Nat)(cs:Array Value)(ty:TypeId)(A:List (K1×V1))(C:List (K2×V2))(own':Nat→Nat)(cs':Array Value)(p1 p2:Option Addr):Prop where
 st:ID N1 o1 N2 o2 own' t1 t2 w' B q cs' ty p1 p2 A C
 near:aT q 4 cs cs'
 kp:Kp (fun b=>b=B∨own b=t1∨own b=t2) w w'
 ext:aO own own' w
variable{N1 o1 N2 o2}{own own1 own2:Nat→Nat}{t1 t2:Nat}{w w1 w2:World}{B q:Nat}{cs cs1 cs2:Array Value}{ty:TypeId}{p1 p2 r1 r2 s1 s2:Option Addr}{A A1 A2:List (K1×V1)}{C C1 C2:List (K2×V2)}
theorem ID.below(h:ID N1 o1 N2 o2 own t1 t2 w B q cs ty p1 p2 A C)(hb:Below w.heap.size w w1):ID N1 o1 N2 o2 own t1 t2 w1 B q cs ty p1 p2 A C:=
 ⟨(hb.block B (am h.box)).trans h.box,h.c0,h.c1,h.c2,h.c3,h.a.below hb,h.c.below hb,h.ow.mono hb.size,h.n1,h.n2,h.ne⟩
theorem cn.of_below(h:ID N1 o1 N2 o2 own t1 t2 w B q cs ty p1 p2 A C)(hb:Below w.heap.size w w1):cn N1 o1 N2 o2 own t1 t2 w w1 B q cs ty A C own cs p1 p2:=
 ⟨h.below hb,aT.refl _ _ _,Kp.of_below _ hb,aO.refl _ _⟩
theorem cn.trans(h:cn N1 o1 N2 o2 own t1 t2 w w1 B q cs ty A1 C1 own1 cs1 r1 r2)(k:cn N1 o1 N2 o2 own1 t1 t2 w1 w2 B q cs1 ty A2 C2 own2 cs2 s1 s2):cn N1 o1 N2 o2 own t1 t2 w w2 B q cs ty A2 C2 own2 cs2 s1 s2:=
 ⟨k.st,h.near.trans k.near,h.kp.trans' k.kp fun b hb hg=>by rw[h.ext b hb]at hg;exact hg,h.ext.trans k.ext h.kp.size⟩
theorem ID.first(h:ID N1 o1 N2 o2 own t1 t2 w B q cs ty p1 p2 A C)(m:bI N1 o1 own t1 w w1 B q cs ty A1 own1 r1):∃cs1,cn N1 o1 N2 o2 own t1 t2 w w1 B q cs ty A1 C own1 cs1 r1 p2:=by
 have hn:=cX q cs (.pointer r1) (.int .i64 (A1.length:Nat));have ha:=gh (u:=.pointer r1) (v:=.int .i64 (A1.length:Nat)) h.c0 h.c1;have hBw:=am h.box;have eB:=m.ext B hBw;exact⟨_,⟨m.box,ha.1,ha.2,(hn.far _ (by omega)).trans h.c2,(hn.far _ (by omega)).trans h.c3,m.tr,h.c.kp m.kp (fun b _ e hf=>hf.elim (fun e'=>h.n2 (by rw[←e'];exact e)) (fun e'=>h.ne (e'.symm.trans e))) m.ext,m.ow,by rw[eB];exact h.n1,by rw[eB];exact h.n2,h.ne⟩,
  hn.wide (Po _) (by omega),m.kp.mono fun b _ hf=>hf.imp id .inl,m.ext⟩
theorem ID.second(h:ID N1 o1 N2 o2 own t1 t2 w B q cs ty p1 p2 A C)(m:bI N2 o2 own t2 w w1 B (q+2) cs ty C1 own1 r2):∃cs1,cn N1 o1 N2 o2 own t1 t2 w w1 B q cs ty A C1 own1 cs1 p1 r2:=by
 have hn:=cX (q+2) cs (.pointer r2) (.int .i64 (C1.length:Nat));have ha:=gh (u:=.pointer r2) (v:=.int .i64 (C1.length:Nat)) h.c2 h.c3;have hBw:=am h.box;have eB:=m.ext B hBw;exact⟨_,⟨m.box,(hn.far _ (by omega)).trans h.c0,(hn.far _ (by omega)).trans h.c1,ha.1,ha.2,h.a.kp m.kp (fun b _ e hf=>hf.elim (fun e'=>h.n1 (by rw[←e'];exact e)) (fun e'=>h.ne (e.symm.trans e'))) m.ext,m.tr,m.ow,by rw[eB];exact h.n1,by rw[eB];exact h.n2,h.ne⟩,
  hn.wide (by omega) (by omega),m.kp.mono fun b _ hf=>hf.imp id .inr,m.ext⟩
end
namespace AvlP
section
variable{K V:Type}
def aQ(o:eN K)(fk:Option K)(L:List (K×V)):List (K×V):=L.filter fun z=>match fk with
 |none=>true
 |some k=>!o.lt z.1 k
theorem dr(o:eN K)(L:List (K×V)):aQ o none L=L:=by
 unfold aQ;exact VE.2 fun _ _=>rfl
theorem uv(o:eN K)(fk:Option K)(A B:List (K×V)):aQ o fk (A++B)=aQ o fk A++aQ o fk B:=VG ..
theorem EA{o:eN K}{b:Nat}{l r:AT K V}{k0 k:K}{v0:V}(hs:aX o (AT.node b l k0 v0 r).toL)(h:o.lt k0 k=true):aQ o (some k) (AT.node b l k0 v0 r).toL=aQ o (some k) r.toL:=by
 have hA:=dO o hs;have h1:aQ o (some k) l.toL=[]:=List.filter_eq_nil_iff.2 fun z hz=>by
  have:=o.tr _ _ _ (hA.1 z hz) h;simp[this]
 simp only[AT.toL];rw[uv,h1,PQ];unfold aQ;rw[List.filter_cons_of_neg (by simp[h])]
theorem Ez{o:eN K}{b:Nat}{l r:AT K V}{k0 k:K}{v0:V}(hs:aX o (AT.node b l k0 v0 r).toL)(h:o.lt k0 k=false):aQ o (some k) (AT.node b l k0 v0 r).toL=aQ o (some k) l.toL++(k0,v0)::r.toL:=by
 have hA:=dO o hs;have h1:aQ o (some k) r.toL=r.toL:=VE.2 fun z hz=>by
  rcases hz2:o.lt z.1 k with _ |_
  ·simp[hz2]
  ·exfalso;have:=o.tr _ _ _ (hA.2.1 z hz) hz2;rw[h]at this;cases this
 simp only[AT.toL];rw[uv];congr 1;show aQ o (some k) ((k0,v0)::r.toL)=_;rw[show aQ o (some k) ((k0,v0)::r.toL)=(k0,v0)::aQ o (some k) r.toL from List.filter_cons_of_pos (by simp[h]),h1]
end
end AvlP
namespace AvS
abbrev K:=ByteArray
abbrev V:=Sp
abbrev OL:Nat:=10
abbrev OH:Nat:=11
abbrev OD:Nat:=12
abbrev O:=oS
abbrev TY:TypeId:=277
abbrev KV(k:K):Value:=.string k
abbrev L5(v:V):Value:=.agg (SA v)
abbrev gN(v:V):Array Value:=(SA v)
abbrev uT(v:V):List Value:=[.int .i64 v.tr,.int .i64 v.id,.int .i64 v.pa,.int .i64 v.rv,.string v.sv,.string v.op,.int .i64 v.st,.int .i64 v.du,.bool v.gn]
abbrev Kv(k:K)(v:V)(l r:Option Addr)(d:Int):Array Value:=#[.string k,.int .i64 v.tr,.int .i64 v.id,.int .i64 v.pa,.int .i64 v.rv,.string v.sv,.string v.op,.int .i64 v.st,.int .i64 v.du,.bool v.gn,.pointer l,.pointer r,.int .i64 d]
abbrev Ns:Value:=.agg SZ
abbrev VT:TypeId:=93
abbrev IM:Array Value:=SZ
abbrev fO:=func55
abbrev fL:=ntmps55
abbrev kJ:=func105
abbrev kE:=ntmps105
abbrev fN:=func56
abbrev fK:=ntmps56
abbrev iN:=func303
abbrev iJ:=ntmps303
abbrev fm:=func106
abbrev fg:=ntmps106
abbrev iM:=func92
abbrev iI:=ntmps92
abbrev jA:=func247
abbrev jx:=ntmps247
abbrev fM:=func178
abbrev fJ:=ntmps178
abbrev cP:FuncId:=179
abbrev dD:=func179
abbrev dy:=ntmps179
abbrev eG:FuncId:=246
abbrev dT:=func246
abbrev dQ:=ntmps246
abbrev fu:=func107
abbrev ft:=ntmps107
abbrev cR:FuncId:=248
abbrev dl:=func248
abbrev di:=ntmps248
abbrev dK:FuncId:=249
abbrev dS:=func249
abbrev dP:=ntmps249
def nd:Nd ByteArray Sp:=⟨fun k v l r d=>#[.string k,.int .i64 v.tr,.int .i64 v.id,.int .i64 v.pa,.int .i64 v.rv,.string v.sv,.string v.op,.int .i64 v.st,.int .i64 v.du,.bool v.gn,.pointer l,.pointer r,.int .i64 d],277⟩
section
variable{own:Nat→Nat}{t:Nat}
theorem sw(T:AT ByteArray Sp)(w:World)(h:aC nd own t w T):Calls prog 303 #[.pointer T.ptr] w fun e w'=>e=.returned (.int .i64 (T.hgt:Nat))∧w=w':=lh
theorem tg(b:Nat)(k:ByteArray)(v:Sp)(l r:AT ByteArray Sp)(d:Int)(w:World)(hb:w.heap[b]?=some (.cells (nd.cells k v l.ptr r.ptr d) nd.ty (0,0)))(hl:aC nd own t w l)(hr:aC nd own t w r)(hlr:l.hgt≤1000000∧r.hgt≤1000000):
 Calls prog 247 #[.pointer (some ⟨b,0,none⟩)] w fun e w'=>e=.returned (.int .i64 ((r.hgt:Int) - l.hgt))∧∃n,w'=w.drewN n:=kZ
theorem measure(b:Nat)(k:ByteArray)(v:Sp)(l r:AT ByteArray Sp)(d:Int)(w:World)(hb:w.heap[b]?=some (.cells (nd.cells k v l.ptr r.ptr d) nd.ty (0,0)))(hl:aC nd own t w l)(hr:aC nd own t w r)(hlr:l.hgt≤1000000∧r.hgt≤1000000):
 Calls prog 246 #[.pointer (some ⟨b,0,none⟩)] w fun e w'=>e=.returned (.tuple #[])∧w'.heap[b]?=some (.cells (nd.cells k v l.ptr r.ptr ((1+max l.hgt r.hgt:Nat):Int)) nd.ty (0,0))∧Kp (fun x=>x=b) w w'∧w'.heap.size=w.heap.size:=fw
theorem gO(b c:Nat)(k k2:ByteArray)(v v2:Sp)(l x r:AT ByteArray Sp)(d d2:Int)(w:World)(ob:own b=t)(oc:own c=t)(hb:w.heap[b]?=some (.cells (nd.cells k v l.ptr (some ⟨c,0,none⟩) d) nd.ty (0,0)))(hc:w.heap[c]?=some (.cells (nd.cells k2 v2 x.ptr r.ptr d2) nd.ty (0,0)))
 (hl:aC nd own t w l)(hx:aC nd own t w x)(hr:aC nd own t w r)(hn:(b::c::(l.blocks++x.blocks++r.blocks)).Nodup)(hs:l.hgt≤999990∧x.hgt≤999990∧r.hgt≤999990):
 Calls prog 249 #[.pointer (some ⟨b,0,none⟩)] w fun e w'=>e=.returned (.pointer (some ⟨c,0,none⟩))∧aC nd own t w' (.node c (.node b l k v x) k2 v2 r)∧Kp (fun y=>y=b∨y=c) w w'∧w'.heap.size=w.heap.size:=fv
theorem eS(b c:Nat)(k k2:ByteArray)(v v2:Sp)(l x r:AT ByteArray Sp)(d d2:Int)(w:World)(ob:own b=t)(oc:own c=t)(hb:w.heap[b]?=some (.cells (nd.cells k v (some ⟨c,0,none⟩) l.ptr d) nd.ty (0,0)))(hc:w.heap[c]?=some (.cells (nd.cells k2 v2 r.ptr x.ptr d2) nd.ty (0,0)))
 (hl:aC nd own t w l)(hx:aC nd own t w x)(hr:aC nd own t w r)(hn:(b::c::(l.blocks++x.blocks++r.blocks)).Nodup)(hs:l.hgt≤999990∧x.hgt≤999990∧r.hgt≤999990):
 Calls prog 248 #[.pointer (some ⟨b,0,none⟩)] w fun e w'=>e=.returned (.pointer (some ⟨c,0,none⟩))∧aC nd own t w' (.node c r k2 v2 (.node b x k v l))∧Kp (fun y=>y=b∨y=c) w w'∧w'.heap.size=w.heap.size:=dM
theorem gX(b:Nat)(k:ByteArray)(v:Sp)(l r:AT ByteArray Sp)(d:Int)(w:World)(ob:own b=t)(hb:w.heap[b]?=some (.cells (nd.cells k v l.ptr r.ptr d) nd.ty (0,0)))(hl:aC nd own t w l)(hr:aC nd own t w r)(hn:(b::(l.blocks++r.blocks)).Nodup)(hs:l.hgt≤900000∧r.hgt≤900000):
 Calls prog 179 #[.pointer (some ⟨b,0,none⟩)] w (gK nd own t b l k v r w):=jt
end
end AvS
namespace AvS
section
variable{t:Nat}{own:Nat→Nat}
theorem pW(T:AT ByteArray Sp):∀(w:World),T≠ .nil→aC nd own t w T→T.blocks.Nodup→T.toL.length≤800000→
 Calls prog 178 #[.pointer T.ptr] w (eE nd own t T w):=ju
theorem yI(k:ByteArray)(T:AT ByteArray Sp):∀(w:World),aC nd own t w T→T.blocks.Nodup→aX oS T.toL→T.toL.length≤800000→
 Calls prog 106 #[.pointer T.ptr,.string k] w (fW nd oS own t T k w):=lg
end
end AvS
namespace AvP
abbrev K:=ByteArray
abbrev V:=Pl
abbrev OL:Nat:=7
abbrev OH:Nat:=8
abbrev OD:Nat:=9
abbrev O:=oS
abbrev TY:TypeId:=371
abbrev KV(k:K):Value:=.string k
abbrev L5(v:V):Value:=.agg (PA v)
abbrev gN(v:V):Array Value:=(PA v)
abbrev uT(v:V):List Value:=[.int .i64 v.tr,.int .i64 v.id,.int .i64 v.cl,.int .i64 v.de,.int .i64 v.to,.int .i64 v.fa]
abbrev Kv(k:K)(v:V)(l r:Option Addr)(d:Int):Array Value:=#[.string k,.int .i64 v.tr,.int .i64 v.id,.int .i64 v.cl,.int .i64 v.de,.int .i64 v.to,.int .i64 v.fa,.pointer l,.pointer r,.int .i64 d]
abbrev Ns:Value:=.agg PZ
abbrev VT:TypeId:=98
abbrev IM:Array Value:=PZ
abbrev fO:=func253
abbrev fL:=ntmps253
abbrev kJ:=func183
abbrev kE:=ntmps183
abbrev fN:=func259
abbrev fK:=ntmps259
abbrev iN:=func381
abbrev iJ:=ntmps381
abbrev fm:=func304
abbrev fg:=ntmps304
abbrev iM:=func200
abbrev iI:=ntmps200
abbrev jA:=func373
abbrev jx:=ntmps373
abbrev fM:=func350
abbrev fJ:=ntmps350
abbrev cP:FuncId:=351
abbrev dD:=func351
abbrev dy:=ntmps351
abbrev eG:FuncId:=372
abbrev dT:=func372
abbrev dQ:=ntmps372
abbrev fu:=func307
abbrev ft:=ntmps307
abbrev cR:FuncId:=374
abbrev dl:=func374
abbrev di:=ntmps374
abbrev dK:FuncId:=375
abbrev dS:=func375
abbrev dP:=ntmps375
def nd:Nd ByteArray Pl:=⟨fun k v l r d=>#[.string k,.int .i64 v.tr,.int .i64 v.id,.int .i64 v.cl,.int .i64 v.de,.int .i64 v.to,.int .i64 v.fa,.pointer l,.pointer r,.int .i64 d],371⟩
section
variable{own:Nat→Nat}{t:Nat}
theorem sw(T:AT ByteArray Pl)(w:World)(h:aC nd own t w T):Calls prog 381 #[.pointer T.ptr] w fun e w'=>e=.returned (.int .i64 (T.hgt:Nat))∧w=w':=lh
theorem tg(b:Nat)(k:ByteArray)(v:Pl)(l r:AT ByteArray Pl)(d:Int)(w:World)(hb:w.heap[b]?=some (.cells (nd.cells k v l.ptr r.ptr d) nd.ty (0,0)))(hl:aC nd own t w l)(hr:aC nd own t w r)(hlr:l.hgt≤1000000∧r.hgt≤1000000):
 Calls prog 373 #[.pointer (some ⟨b,0,none⟩)] w fun e w'=>e=.returned (.int .i64 ((r.hgt:Int) - l.hgt))∧∃n,w'=w.drewN n:=kZ
theorem measure(b:Nat)(k:ByteArray)(v:Pl)(l r:AT ByteArray Pl)(d:Int)(w:World)(hb:w.heap[b]?=some (.cells (nd.cells k v l.ptr r.ptr d) nd.ty (0,0)))(hl:aC nd own t w l)(hr:aC nd own t w r)(hlr:l.hgt≤1000000∧r.hgt≤1000000):
 Calls prog 372 #[.pointer (some ⟨b,0,none⟩)] w fun e w'=>e=.returned (.tuple #[])∧w'.heap[b]?=some (.cells (nd.cells k v l.ptr r.ptr ((1+max l.hgt r.hgt:Nat):Int)) nd.ty (0,0))∧Kp (fun x=>x=b) w w'∧w'.heap.size=w.heap.size:=fw
theorem gO(b c:Nat)(k k2:ByteArray)(v v2:Pl)(l x r:AT ByteArray Pl)(d d2:Int)(w:World)(ob:own b=t)(oc:own c=t)(hb:w.heap[b]?=some (.cells (nd.cells k v l.ptr (some ⟨c,0,none⟩) d) nd.ty (0,0)))(hc:w.heap[c]?=some (.cells (nd.cells k2 v2 x.ptr r.ptr d2) nd.ty (0,0)))
 (hl:aC nd own t w l)(hx:aC nd own t w x)(hr:aC nd own t w r)(hn:(b::c::(l.blocks++x.blocks++r.blocks)).Nodup)(hs:l.hgt≤999990∧x.hgt≤999990∧r.hgt≤999990):
 Calls prog 375 #[.pointer (some ⟨b,0,none⟩)] w fun e w'=>e=.returned (.pointer (some ⟨c,0,none⟩))∧aC nd own t w' (.node c (.node b l k v x) k2 v2 r)∧Kp (fun y=>y=b∨y=c) w w'∧w'.heap.size=w.heap.size:=fv
theorem eS(b c:Nat)(k k2:ByteArray)(v v2:Pl)(l x r:AT ByteArray Pl)(d d2:Int)(w:World)(ob:own b=t)(oc:own c=t)(hb:w.heap[b]?=some (.cells (nd.cells k v (some ⟨c,0,none⟩) l.ptr d) nd.ty (0,0)))(hc:w.heap[c]?=some (.cells (nd.cells k2 v2 r.ptr x.ptr d2) nd.ty (0,0)))
 (hl:aC nd own t w l)(hx:aC nd own t w x)(hr:aC nd own t w r)(hn:(b::c::(l.blocks++x.blocks++r.blocks)).Nodup)(hs:l.hgt≤999990∧x.hgt≤999990∧r.hgt≤999990):
 Calls prog 374 #[.pointer (some ⟨b,0,none⟩)] w fun e w'=>e=.returned (.pointer (some ⟨c,0,none⟩))∧aC nd own t w' (.node c r k2 v2 (.node b x k v l))∧Kp (fun y=>y=b∨y=c) w w'∧w'.heap.size=w.heap.size:=dM
theorem gX(b:Nat)(k:ByteArray)(v:Pl)(l r:AT ByteArray Pl)(d:Int)(w:World)(ob:own b=t)(hb:w.heap[b]?=some (.cells (nd.cells k v l.ptr r.ptr d) nd.ty (0,0)))(hl:aC nd own t w l)(hr:aC nd own t w r)(hn:(b::(l.blocks++r.blocks)).Nodup)(hs:l.hgt≤900000∧r.hgt≤900000):
 Calls prog 351 #[.pointer (some ⟨b,0,none⟩)] w (gK nd own t b l k v r w):=jt
end
end AvP
namespace AvE
abbrev K:=ByteArray
abbrev V:=Unit
abbrev OL:Nat:=1
abbrev OH:Nat:=2
abbrev OD:Nat:=3
abbrev O:=oS
abbrev TY:TypeId:=411
abbrev KV(k:K):Value:=.string k
abbrev gN(_v:V):Array Value:=#[]
abbrev uT(_v:V):List Value:=[]
abbrev Kv(k:K)(_v:V)(l r:Option Addr)(d:Int):Array Value:=#[.string k,.pointer l,.pointer r,.int .i64 d]
abbrev VT:TypeId:=284
abbrev fO:=func243
abbrev fL:=ntmps243
abbrev fN:=func169
abbrev fK:=ntmps169
abbrev iN:=func371
abbrev iJ:=ntmps371
abbrev fm:=func300
abbrev fg:=ntmps300
abbrev jA:=func347
abbrev jx:=ntmps347
abbrev fM:=func341
abbrev fJ:=ntmps341
abbrev cP:FuncId:=302
abbrev dD:=func302
abbrev dy:=ntmps302
abbrev eG:FuncId:=346
abbrev dT:=func346
abbrev dQ:=ntmps346
abbrev fu:=func245
abbrev ft:=ntmps245
abbrev cR:FuncId:=348
abbrev dl:=func348
abbrev di:=ntmps348
abbrev dK:FuncId:=349
abbrev dS:=func349
abbrev dP:=ntmps349
def nd:Nd ByteArray Unit:=⟨fun k _ l r d=>#[.string k,.pointer l,.pointer r,.int .i64 d],411⟩
section
variable{own:Nat→Nat}{t:Nat}
theorem sw(T:AT ByteArray Unit)(w:World)(h:aC nd own t w T):Calls prog 371 #[.pointer T.ptr] w fun e w'=>e=.returned (.int .i64 (T.hgt:Nat))∧w=w':=lh
theorem tg(b:Nat)(k:ByteArray)(v:Unit)(l r:AT ByteArray Unit)(d:Int)(w:World)(hb:w.heap[b]?=some (.cells (nd.cells k v l.ptr r.ptr d) nd.ty (0,0)))(hl:aC nd own t w l)(hr:aC nd own t w r)(hlr:l.hgt≤1000000∧r.hgt≤1000000):
 Calls prog 347 #[.pointer (some ⟨b,0,none⟩)] w fun e w'=>e=.returned (.int .i64 ((r.hgt:Int) - l.hgt))∧∃n,w'=w.drewN n:=kZ
theorem measure(b:Nat)(k:ByteArray)(v:Unit)(l r:AT ByteArray Unit)(d:Int)(w:World)(hb:w.heap[b]?=some (.cells (nd.cells k v l.ptr r.ptr d) nd.ty (0,0)))(hl:aC nd own t w l)(hr:aC nd own t w r)(hlr:l.hgt≤1000000∧r.hgt≤1000000):
 Calls prog 346 #[.pointer (some ⟨b,0,none⟩)] w fun e w'=>e=.returned (.tuple #[])∧w'.heap[b]?=some (.cells (nd.cells k v l.ptr r.ptr ((1+max l.hgt r.hgt:Nat):Int)) nd.ty (0,0))∧Kp (fun x=>x=b) w w'∧w'.heap.size=w.heap.size:=fw
theorem gO(b c:Nat)(k k2:ByteArray)(v v2:Unit)(l x r:AT ByteArray Unit)(d d2:Int)(w:World)(ob:own b=t)(oc:own c=t)(hb:w.heap[b]?=some (.cells (nd.cells k v l.ptr (some ⟨c,0,none⟩) d) nd.ty (0,0)))(hc:w.heap[c]?=some (.cells (nd.cells k2 v2 x.ptr r.ptr d2) nd.ty (0,0)))
 (hl:aC nd own t w l)(hx:aC nd own t w x)(hr:aC nd own t w r)(hn:(b::c::(l.blocks++x.blocks++r.blocks)).Nodup)(hs:l.hgt≤999990∧x.hgt≤999990∧r.hgt≤999990):
 Calls prog 349 #[.pointer (some ⟨b,0,none⟩)] w fun e w'=>e=.returned (.pointer (some ⟨c,0,none⟩))∧aC nd own t w' (.node c (.node b l k v x) k2 v2 r)∧Kp (fun y=>y=b∨y=c) w w'∧w'.heap.size=w.heap.size:=fv
theorem eS(b c:Nat)(k k2:ByteArray)(v v2:Unit)(l x r:AT ByteArray Unit)(d d2:Int)(w:World)(ob:own b=t)(oc:own c=t)(hb:w.heap[b]?=some (.cells (nd.cells k v (some ⟨c,0,none⟩) l.ptr d) nd.ty (0,0)))(hc:w.heap[c]?=some (.cells (nd.cells k2 v2 r.ptr x.ptr d2) nd.ty (0,0)))
 (hl:aC nd own t w l)(hx:aC nd own t w x)(hr:aC nd own t w r)(hn:(b::c::(l.blocks++x.blocks++r.blocks)).Nodup)(hs:l.hgt≤999990∧x.hgt≤999990∧r.hgt≤999990):
 Calls prog 348 #[.pointer (some ⟨b,0,none⟩)] w fun e w'=>e=.returned (.pointer (some ⟨c,0,none⟩))∧aC nd own t w' (.node c r k2 v2 (.node b x k v l))∧Kp (fun y=>y=b∨y=c) w w'∧w'.heap.size=w.heap.size:=dM
theorem gX(b:Nat)(k:ByteArray)(v:Unit)(l r:AT ByteArray Unit)(d:Int)(w:World)(ob:own b=t)(hb:w.heap[b]?=some (.cells (nd.cells k v l.ptr r.ptr d) nd.ty (0,0)))(hl:aC nd own t w l)(hr:aC nd own t w r)(hn:(b::(l.blocks++r.blocks)).Nodup)(hs:l.hgt≤900000∧r.hgt≤900000):
 Calls prog 302 #[.pointer (some ⟨b,0,none⟩)] w (gK nd own t b l k v r w):=jt
end
end AvE
namespace AvE
section
variable{t:Nat}{own:Nat→Nat}
theorem pW(T:AT ByteArray Unit):∀(w:World),T≠ .nil→aC nd own t w T→T.blocks.Nodup→T.toL.length≤800000→
 Calls prog 341 #[.pointer T.ptr] w (eE nd own t T w):=ju
theorem yI(k:ByteArray)(T:AT ByteArray Unit):∀(w:World),aC nd own t w T→T.blocks.Nodup→aX oS T.toL→T.toL.length≤800000→
 Calls prog 300 #[.pointer T.ptr,.string k] w (fW nd oS own t T k w):=lg
end
end AvE
namespace AvP
section
variable{t:Nat}{own:Nat→Nat}
theorem pW(T:AT ByteArray Pl):∀(w:World),T≠ .nil→aC nd own t w T→T.blocks.Nodup→T.toL.length≤800000→
 Calls prog 350 #[.pointer T.ptr] w (eE nd own t T w):=ju
theorem yI(k:ByteArray)(T:AT ByteArray Pl):∀(w:World),aC nd own t w T→T.blocks.Nodup→aX oS T.toL→T.toL.length≤800000→
 Calls prog 304 #[.pointer T.ptr,.string k] w (fW nd oS own t T k w):=lg
end
end AvP
namespace AvN
abbrev K:=Int
abbrev V:=Int
abbrev OL:Nat:=2
abbrev OH:Nat:=3
abbrev OD:Nat:=4
abbrev O:=oN
abbrev TY:TypeId:=444
abbrev KV(k:K):Value:=.int .i64 k
abbrev L5(v:V):Value:=.int .i64 v
abbrev uT(v:V):List Value:=[.int .i64 v]
abbrev Kv(k:K)(v:V)(l r:Option Addr)(d:Int):Array Value:=#[.int .i64 k,.int .i64 v,.pointer l,.pointer r,.int .i64 d]
abbrev fO:=func324
abbrev fL:=ntmps324
abbrev kJ:=func323
abbrev kE:=ntmps323
abbrev fN:=func325
abbrev fK:=ntmps325
abbrev iN:=func387
abbrev iJ:=ntmps387
abbrev fm:=func362
abbrev fg:=ntmps362
abbrev iM:=func313
abbrev iI:=ntmps313
abbrev jA:=func384
abbrev jx:=ntmps384
abbrev fM:=func378
abbrev fJ:=ntmps378
abbrev cP:FuncId:=379
abbrev dD:=func379
abbrev dy:=ntmps379
abbrev eG:FuncId:=383
abbrev dT:=func383
abbrev dQ:=ntmps383
abbrev fu:=func363
abbrev ft:=ntmps363
abbrev cR:FuncId:=385
abbrev dl:=func385
abbrev di:=ntmps385
abbrev dK:FuncId:=386
abbrev dS:=func386
abbrev dP:=ntmps386
def nd:Nd Int Int:=⟨fun k v l r d=>#[.int .i64 k,.int .i64 v,.pointer l,.pointer r,.int .i64 d],444⟩
section
variable{own:Nat→Nat}{t:Nat}
theorem sw(T:AT Int Int)(w:World)(h:aC nd own t w T):Calls prog 387 #[.pointer T.ptr] w fun e w'=>e=.returned (.int .i64 (T.hgt:Nat))∧w=w':=lh
theorem tg(b:Nat)(k:Int)(v:Int)(l r:AT Int Int)(d:Int)(w:World)(hb:w.heap[b]?=some (.cells (nd.cells k v l.ptr r.ptr d) nd.ty (0,0)))(hl:aC nd own t w l)(hr:aC nd own t w r)(hlr:l.hgt≤1000000∧r.hgt≤1000000):
 Calls prog 384 #[.pointer (some ⟨b,0,none⟩)] w fun e w'=>e=.returned (.int .i64 ((r.hgt:Int) - l.hgt))∧∃n,w'=w.drewN n:=kZ
theorem measure(b:Nat)(k:Int)(v:Int)(l r:AT Int Int)(d:Int)(w:World)(hb:w.heap[b]?=some (.cells (nd.cells k v l.ptr r.ptr d) nd.ty (0,0)))(hl:aC nd own t w l)(hr:aC nd own t w r)(hlr:l.hgt≤1000000∧r.hgt≤1000000):
 Calls prog 383 #[.pointer (some ⟨b,0,none⟩)] w fun e w'=>e=.returned (.tuple #[])∧w'.heap[b]?=some (.cells (nd.cells k v l.ptr r.ptr ((1+max l.hgt r.hgt:Nat):Int)) nd.ty (0,0))∧Kp (fun x=>x=b) w w'∧w'.heap.size=w.heap.size:=fw
theorem gO(b c:Nat)(k k2:Int)(v v2:Int)(l x r:AT Int Int)(d d2:Int)(w:World)(ob:own b=t)(oc:own c=t)(hb:w.heap[b]?=some (.cells (nd.cells k v l.ptr (some ⟨c,0,none⟩) d) nd.ty (0,0)))(hc:w.heap[c]?=some (.cells (nd.cells k2 v2 x.ptr r.ptr d2) nd.ty (0,0)))
 (hl:aC nd own t w l)(hx:aC nd own t w x)(hr:aC nd own t w r)(hn:(b::c::(l.blocks++x.blocks++r.blocks)).Nodup)(hs:l.hgt≤999990∧x.hgt≤999990∧r.hgt≤999990):
 Calls prog 386 #[.pointer (some ⟨b,0,none⟩)] w fun e w'=>e=.returned (.pointer (some ⟨c,0,none⟩))∧aC nd own t w' (.node c (.node b l k v x) k2 v2 r)∧Kp (fun y=>y=b∨y=c) w w'∧w'.heap.size=w.heap.size:=fv
theorem eS(b c:Nat)(k k2:Int)(v v2:Int)(l x r:AT Int Int)(d d2:Int)(w:World)(ob:own b=t)(oc:own c=t)(hb:w.heap[b]?=some (.cells (nd.cells k v (some ⟨c,0,none⟩) l.ptr d) nd.ty (0,0)))(hc:w.heap[c]?=some (.cells (nd.cells k2 v2 r.ptr x.ptr d2) nd.ty (0,0)))
 (hl:aC nd own t w l)(hx:aC nd own t w x)(hr:aC nd own t w r)(hn:(b::c::(l.blocks++x.blocks++r.blocks)).Nodup)(hs:l.hgt≤999990∧x.hgt≤999990∧r.hgt≤999990):
 Calls prog 385 #[.pointer (some ⟨b,0,none⟩)] w fun e w'=>e=.returned (.pointer (some ⟨c,0,none⟩))∧aC nd own t w' (.node c r k2 v2 (.node b x k v l))∧Kp (fun y=>y=b∨y=c) w w'∧w'.heap.size=w.heap.size:=dM
theorem gX(b:Nat)(k:Int)(v:Int)(l r:AT Int Int)(d:Int)(w:World)(ob:own b=t)(hb:w.heap[b]?=some (.cells (nd.cells k v l.ptr r.ptr d) nd.ty (0,0)))(hl:aC nd own t w l)(hr:aC nd own t w r)(hn:(b::(l.blocks++r.blocks)).Nodup)(hs:l.hgt≤900000∧r.hgt≤900000):
 Calls prog 379 #[.pointer (some ⟨b,0,none⟩)] w (gK nd own t b l k v r w):=jt
end
end AvN
namespace AvN
section
variable{t:Nat}
theorem jE(k:Int)(v:Int)(T:AT Int Int):∀(own:Nat→Nat) (w:World),Ow own w→aC nd own t w T→T.blocks.Nodup→aX oN T.toL→T.toL.length≤800000→
 Calls prog 363 #[.pointer T.ptr,.int .i64 k,.int .i64 v] w (gR nd oN own t T k v w):=BL
end
end AvN
namespace AvN
section
variable{t:Nat}{own:Nat→Nat}
theorem pW(T:AT Int Int):∀(w:World),T≠ .nil→aC nd own t w T→T.blocks.Nodup→T.toL.length≤800000→
 Calls prog 378 #[.pointer T.ptr] w (eE nd own t T w):=ju
theorem yI(k:Int)(T:AT Int Int):∀(w:World),aC nd own t w T→T.blocks.Nodup→aX oN T.toL→T.toL.length≤800000→
 Calls prog 362 #[.pointer T.ptr,.int .i64 k] w (fW nd oN own t T k w):=lg
end
end AvN
namespace AvT
abbrev K:=ByteArray
abbrev V:=ByteArray
abbrev OL:Nat:=2
abbrev OH:Nat:=3
abbrev OD:Nat:=4
abbrev O:=oS
abbrev TY:TypeId:=396
abbrev KV(k:K):Value:=.string k
abbrev L5(v:V):Value:=.string v
abbrev uT(v:V):List Value:=[.string v]
abbrev Kv(k:K)(v:V)(l r:Option Addr)(d:Int):Array Value:=#[.string k,.string v,.pointer l,.pointer r,.int .i64 d]
abbrev fO:=func156
abbrev fL:=ntmps156
abbrev kJ:=func229
abbrev kE:=ntmps229
abbrev fN:=func158
abbrev fK:=ntmps158
abbrev iN:=func369
abbrev iJ:=ntmps369
abbrev fm:=func235
abbrev fg:=ntmps235
abbrev jA:=func338
abbrev jx:=ntmps338
abbrev fM:=func295
abbrev fJ:=ntmps295
abbrev cP:FuncId:=296
abbrev dD:=func296
abbrev dy:=ntmps296
abbrev eG:FuncId:=337
abbrev dT:=func337
abbrev dQ:=ntmps337
abbrev fu:=func237
abbrev ft:=ntmps237
abbrev cR:FuncId:=339
abbrev dl:=func339
abbrev di:=ntmps339
abbrev dK:FuncId:=340
abbrev dS:=func340
abbrev dP:=ntmps340
def nd:Nd ByteArray ByteArray:=⟨fun k v l r d=>#[.string k,.string v,.pointer l,.pointer r,.int .i64 d],396⟩
section
variable{own:Nat→Nat}{t:Nat}
theorem sw(T:AT ByteArray ByteArray)(w:World)(h:aC nd own t w T):Calls prog 369 #[.pointer T.ptr] w fun e w'=>e=.returned (.int .i64 (T.hgt:Nat))∧w=w':=lh
theorem tg(b:Nat)(k:ByteArray)(v:ByteArray)(l r:AT ByteArray ByteArray)(d:Int)(w:World)(hb:w.heap[b]?=some (.cells (nd.cells k v l.ptr r.ptr d) nd.ty (0,0)))(hl:aC nd own t w l)(hr:aC nd own t w r)(hlr:l.hgt≤1000000∧r.hgt≤1000000):
 Calls prog 338 #[.pointer (some ⟨b,0,none⟩)] w fun e w'=>e=.returned (.int .i64 ((r.hgt:Int) - l.hgt))∧∃n,w'=w.drewN n:=kZ
theorem measure(b:Nat)(k:ByteArray)(v:ByteArray)(l r:AT ByteArray ByteArray)(d:Int)(w:World)(hb:w.heap[b]?=some (.cells (nd.cells k v l.ptr r.ptr d) nd.ty (0,0)))(hl:aC nd own t w l)(hr:aC nd own t w r)(hlr:l.hgt≤1000000∧r.hgt≤1000000):
 Calls prog 337 #[.pointer (some ⟨b,0,none⟩)] w fun e w'=>e=.returned (.tuple #[])∧w'.heap[b]?=some (.cells (nd.cells k v l.ptr r.ptr ((1+max l.hgt r.hgt:Nat):Int)) nd.ty (0,0))∧Kp (fun x=>x=b) w w'∧w'.heap.size=w.heap.size:=fw
theorem gO(b c:Nat)(k k2:ByteArray)(v v2:ByteArray)(l x r:AT ByteArray ByteArray)(d d2:Int)(w:World)(ob:own b=t)(oc:own c=t)(hb:w.heap[b]?=some (.cells (nd.cells k v l.ptr (some ⟨c,0,none⟩) d) nd.ty (0,0)))(hc:w.heap[c]?=some (.cells (nd.cells k2 v2 x.ptr r.ptr d2) nd.ty (0,0)))
 (hl:aC nd own t w l)(hx:aC nd own t w x)(hr:aC nd own t w r)(hn:(b::c::(l.blocks++x.blocks++r.blocks)).Nodup)(hs:l.hgt≤999990∧x.hgt≤999990∧r.hgt≤999990):
 Calls prog 340 #[.pointer (some ⟨b,0,none⟩)] w fun e w'=>e=.returned (.pointer (some ⟨c,0,none⟩))∧aC nd own t w' (.node c (.node b l k v x) k2 v2 r)∧Kp (fun y=>y=b∨y=c) w w'∧w'.heap.size=w.heap.size:=fv
theorem eS(b c:Nat)(k k2:ByteArray)(v v2:ByteArray)(l x r:AT ByteArray ByteArray)(d d2:Int)(w:World)(ob:own b=t)(oc:own c=t)(hb:w.heap[b]?=some (.cells (nd.cells k v (some ⟨c,0,none⟩) l.ptr d) nd.ty (0,0)))(hc:w.heap[c]?=some (.cells (nd.cells k2 v2 r.ptr x.ptr d2) nd.ty (0,0)))
 (hl:aC nd own t w l)(hx:aC nd own t w x)(hr:aC nd own t w r)(hn:(b::c::(l.blocks++x.blocks++r.blocks)).Nodup)(hs:l.hgt≤999990∧x.hgt≤999990∧r.hgt≤999990):
 Calls prog 339 #[.pointer (some ⟨b,0,none⟩)] w fun e w'=>e=.returned (.pointer (some ⟨c,0,none⟩))∧aC nd own t w' (.node c r k2 v2 (.node b x k v l))∧Kp (fun y=>y=b∨y=c) w w'∧w'.heap.size=w.heap.size:=dM
theorem gX(b:Nat)(k:ByteArray)(v:ByteArray)(l r:AT ByteArray ByteArray)(d:Int)(w:World)(ob:own b=t)(hb:w.heap[b]?=some (.cells (nd.cells k v l.ptr r.ptr d) nd.ty (0,0)))(hl:aC nd own t w l)(hr:aC nd own t w r)(hn:(b::(l.blocks++r.blocks)).Nodup)(hs:l.hgt≤900000∧r.hgt≤900000):
 Calls prog 296 #[.pointer (some ⟨b,0,none⟩)] w (gK nd own t b l k v r w):=jt
end
end AvT
namespace AvT
section
variable{t:Nat}
theorem jE(k:ByteArray)(v:ByteArray)(T:AT ByteArray ByteArray):∀(own:Nat→Nat) (w:World),Ow own w→aC nd own t w T→T.blocks.Nodup→aX oS T.toL→T.toL.length≤800000→
 Calls prog 237 #[.pointer T.ptr,.string k,.string v] w (gR nd oS own t T k v w):=BL
end
end AvT
namespace AvT
section
variable{t:Nat}{own:Nat→Nat}
theorem pW(T:AT ByteArray ByteArray):∀(w:World),T≠ .nil→aC nd own t w T→T.blocks.Nodup→T.toL.length≤800000→
 Calls prog 295 #[.pointer T.ptr] w (eE nd own t T w):=ju
theorem yI(k:ByteArray)(T:AT ByteArray ByteArray):∀(w:World),aC nd own t w T→T.blocks.Nodup→aX oS T.toL→T.toL.length≤800000→
 Calls prog 235 #[.pointer T.ptr,.string k] w (fW nd oS own t T k w):=lg
end
end AvT
namespace AvH
abbrev K:=ByteArray
abbrev V:=Nat
abbrev OL:Nat:=2
abbrev OH:Nat:=3
abbrev OD:Nat:=4
abbrev O:=oS
abbrev TY:TypeId:=319
abbrev KV(k:K):Value:=.string k
abbrev L5(v:V):Value:=.pointer (some ⟨v,0,none⟩)
abbrev uT(v:V):List Value:=[.pointer (some ⟨v,0,none⟩)]
abbrev Kv(k:K)(v:V)(l r:Option Addr)(d:Int):Array Value:=#[.string k,.pointer (some ⟨v,0,none⟩),.pointer l,.pointer r,.int .i64 d]
abbrev fO:=func310
abbrev fL:=ntmps310
abbrev kJ:=func148
abbrev kE:=ntmps148
abbrev fN:=func150
abbrev fK:=ntmps150
abbrev iN:=func364
abbrev iJ:=ntmps364
abbrev fm:=func357
abbrev fg:=ntmps357
abbrev iM:=func130
abbrev iI:=ntmps130
abbrev jA:=func327
abbrev jx:=ntmps327
abbrev fM:=func376
abbrev fJ:=ntmps376
abbrev cP:FuncId:=285
abbrev dD:=func285
abbrev dy:=ntmps285
abbrev eG:FuncId:=326
abbrev dT:=func326
abbrev dQ:=ntmps326
abbrev fu:=func224
abbrev ft:=ntmps224
abbrev cR:FuncId:=328
abbrev dl:=func328
abbrev di:=ntmps328
abbrev dK:FuncId:=329
abbrev dS:=func329
abbrev dP:=ntmps329
def nd:Nd ByteArray Nat:=⟨fun k v l r d=>#[.string k,.pointer (some ⟨v,0,none⟩),.pointer l,.pointer r,.int .i64 d],319⟩
section
variable{own:Nat→Nat}{t:Nat}
theorem sw(T:AT ByteArray Nat)(w:World)(h:aC nd own t w T):Calls prog 364 #[.pointer T.ptr] w fun e w'=>e=.returned (.int .i64 (T.hgt:Nat))∧w=w':=lh
theorem tg(b:Nat)(k:ByteArray)(v:Nat)(l r:AT ByteArray Nat)(d:Int)(w:World)(hb:w.heap[b]?=some (.cells (nd.cells k v l.ptr r.ptr d) nd.ty (0,0)))(hl:aC nd own t w l)(hr:aC nd own t w r)(hlr:l.hgt≤1000000∧r.hgt≤1000000):
 Calls prog 327 #[.pointer (some ⟨b,0,none⟩)] w fun e w'=>e=.returned (.int .i64 ((r.hgt:Int) - l.hgt))∧∃n,w'=w.drewN n:=kZ
theorem measure(b:Nat)(k:ByteArray)(v:Nat)(l r:AT ByteArray Nat)(d:Int)(w:World)(hb:w.heap[b]?=some (.cells (nd.cells k v l.ptr r.ptr d) nd.ty (0,0)))(hl:aC nd own t w l)(hr:aC nd own t w r)(hlr:l.hgt≤1000000∧r.hgt≤1000000):
 Calls prog 326 #[.pointer (some ⟨b,0,none⟩)] w fun e w'=>e=.returned (.tuple #[])∧w'.heap[b]?=some (.cells (nd.cells k v l.ptr r.ptr ((1+max l.hgt r.hgt:Nat):Int)) nd.ty (0,0))∧Kp (fun x=>x=b) w w'∧w'.heap.size=w.heap.size:=fw
theorem gO(b c:Nat)(k k2:ByteArray)(v v2:Nat)(l x r:AT ByteArray Nat)(d d2:Int)(w:World)(ob:own b=t)(oc:own c=t)(hb:w.heap[b]?=some (.cells (nd.cells k v l.ptr (some ⟨c,0,none⟩) d) nd.ty (0,0)))(hc:w.heap[c]?=some (.cells (nd.cells k2 v2 x.ptr r.ptr d2) nd.ty (0,0)))
 (hl:aC nd own t w l)(hx:aC nd own t w x)(hr:aC nd own t w r)(hn:(b::c::(l.blocks++x.blocks++r.blocks)).Nodup)(hs:l.hgt≤999990∧x.hgt≤999990∧r.hgt≤999990):
 Calls prog 329 #[.pointer (some ⟨b,0,none⟩)] w fun e w'=>e=.returned (.pointer (some ⟨c,0,none⟩))∧aC nd own t w' (.node c (.node b l k v x) k2 v2 r)∧Kp (fun y=>y=b∨y=c) w w'∧w'.heap.size=w.heap.size:=fv
theorem eS(b c:Nat)(k k2:ByteArray)(v v2:Nat)(l x r:AT ByteArray Nat)(d d2:Int)(w:World)(ob:own b=t)(oc:own c=t)(hb:w.heap[b]?=some (.cells (nd.cells k v (some ⟨c,0,none⟩) l.ptr d) nd.ty (0,0)))(hc:w.heap[c]?=some (.cells (nd.cells k2 v2 r.ptr x.ptr d2) nd.ty (0,0)))
 (hl:aC nd own t w l)(hx:aC nd own t w x)(hr:aC nd own t w r)(hn:(b::c::(l.blocks++x.blocks++r.blocks)).Nodup)(hs:l.hgt≤999990∧x.hgt≤999990∧r.hgt≤999990):
 Calls prog 328 #[.pointer (some ⟨b,0,none⟩)] w fun e w'=>e=.returned (.pointer (some ⟨c,0,none⟩))∧aC nd own t w' (.node c r k2 v2 (.node b x k v l))∧Kp (fun y=>y=b∨y=c) w w'∧w'.heap.size=w.heap.size:=dM
theorem gX(b:Nat)(k:ByteArray)(v:Nat)(l r:AT ByteArray Nat)(d:Int)(w:World)(ob:own b=t)(hb:w.heap[b]?=some (.cells (nd.cells k v l.ptr r.ptr d) nd.ty (0,0)))(hl:aC nd own t w l)(hr:aC nd own t w r)(hn:(b::(l.blocks++r.blocks)).Nodup)(hs:l.hgt≤900000∧r.hgt≤900000):
 Calls prog 285 #[.pointer (some ⟨b,0,none⟩)] w (gK nd own t b l k v r w):=jt
end
end AvH
namespace AvH
section
variable{t:Nat}
theorem jE(k:ByteArray)(v:Nat)(T:AT ByteArray Nat):∀(own:Nat→Nat) (w:World),Ow own w→aC nd own t w T→T.blocks.Nodup→aX oS T.toL→T.toL.length≤800000→
 Calls prog 224 #[.pointer T.ptr,.string k,.pointer (some ⟨v,0,none⟩)] w (gR nd oS own t T k v w):=BL
end
end AvH
namespace AvH
section
variable{t:Nat}{own:Nat→Nat}
theorem pW(T:AT ByteArray Nat):∀(w:World),T≠ .nil→aC nd own t w T→T.blocks.Nodup→T.toL.length≤800000→
 Calls prog 376 #[.pointer T.ptr] w (eE nd own t T w):=ju
theorem yI(k:ByteArray)(T:AT ByteArray Nat):∀(w:World),aC nd own t w T→T.blocks.Nodup→aX oS T.toL→T.toL.length≤800000→
 Calls prog 357 #[.pointer T.ptr,.string k] w (fW nd oS own t T k w):=lg
end
end AvH
theorem uW{P:Prop}(h:P:=by
 obtain⟨T,rfl,rfl,i1,_,i3⟩:=hT;have HTOP:=zH (nH B q T.ptr w hc);have HREL:=zH (Uq i1 (Uq i3 hr));clear i1 i3 hr hc;go_enter kJ,kE;go_wp2_with ((with_reducible refine(HTOP.out).mono ?_);rintro e w0 ⟨rfl,rfl⟩);go_loopg [6] (T.toL.length+1) (fun g pv wr=>∃T':AT K V,pv=.pointer T'.ptr∧g=T'.toL.length+1∧Hid (aC nd own t w T'∧aX O T'.toL∧ag O T'.toL k=r)∧wr=w)
 case atStart=>exact⟨T,rfl,rfl,HREL,rfl⟩
 case round=>
  obtain⟨T',rfl,rfl,HI,rfl⟩:=hrel;obtain⟨j1,j2,j3⟩:=HI.out;clear HREL HTOP;generalize T.ptr=pp at*;cases T' with
  |nil=>
   have hr0:r=none:=j3.symm;subst hr0;clear j1 j2 j3 HI;simp only[AT.ptr];go_wp2_with fail;go_ret2;exact⟨rfl,rfl⟩
  |node b l k0 v0 rr=>
   obtain⟨_,hb,hl,hrr⟩:=j1;have c0:wr.cell? ⟨b,0,none⟩=some ((KV k0)):=aa hb 0;simp only[KV]at c0;have c1:wr.cell? ⟨b,1,none⟩=some ((L5 v0)):=aa hb 1;have c2:wr.cell? ⟨b,OL,none⟩=some (.pointer l.ptr):=aa hb OL;have c3:wr.cell? ⟨b,OH,none⟩=some (.pointer rr.ptr):=aa hb OH;have hA:=dO O j2;have hlen:(AT.node b l k0 v0 rr).toL.length=l.toL.length+(rr.toL.length+1):=by simp only[AT.toL,Pu,PC]
   by_cases h1:(O).lt k k0=true
   ·(first |have g1:Op.bytesLess k.toList k0.toList=true:=h1 |have g1:@LT.lt Int _ k k0:=by simpa[oN]using h1)
    try have g0:=eh ((O).ne h1).symm
    have HN:=zH (show aC nd own t wr l∧aX O l.toL∧ag O l.toL k=r from⟨hl,hA.2.2.1,(jl O h1).symm.trans j3⟩);exact Od
   ·(first |have g1:Op.bytesLess k.toList k0.toList=false:=by simpa[oS,oN]using h1 |have g1:¬@LT.lt Int _ k k0:=by simpa[oS,oN]using h1);by_cases h2:(O).lt k0 k=true
    ·(first |have g2:Op.bytesLess k0.toList k.toList=true:=h2 |have g2:@LT.lt Int _ k0 k:=by simpa[oN]using h2)
     try have g0:=eh ((O).ne h2)
     have HN:=zH (show aC nd own t wr rr∧aX O rr.toL∧ag O rr.toL k=r from⟨hrr,hA.2.2.2,(gD O hA.1 h2).symm.trans j3⟩);exact Ob
    ·obtain rfl:k=k0:=(O).tri _ _ (by simpa using h1) (by simpa using h2);have hr0:r=some v0:=j3.symm.trans (mc O hA.1);subst hr0;clear j2 j3 HI hb hl hrr hA h1 h2 hlen g1;simp only[AT.ptr];go_wp2_with fail;go_ret2;exact⟨rfl,rfl⟩):P:=h
theorem BM{P:Prop}(h:P:=by
 obtain⟨T,rfl,rfl,i1,_,i3⟩:=hT;have hB0:=zB w (.cells IM VT);have HBL:=zH hB0;have HTOP:=zH (nH B q T.ptr (w.alloc (.cells IM VT)) (ql hc _));have HREL:=zH (Uq (i1.below hB0) (Uq i3 hr));clear i1 i3 hr hc hB0;go_enter kJ,kE;go_wp2_with ((with_reducible refine(HTOP.out).mono ?_);rintro e w0 ⟨rfl,rfl⟩);go_loopg [6] (T.toL.length+1) (fun g pv wr=>∃T':AT K V,pv=.pointer T'.ptr∧g=T'.toL.length+1∧Hid (aC nd own t (w.alloc (.cells IM VT)) T'∧aX O T'.toL∧ag O T'.toL k=r)∧wr=(w.alloc (.cells IM VT)))
 case atStart=>exact⟨T,rfl,rfl,HREL,rfl⟩
 case round=>
  obtain⟨T',rfl,rfl,HI,rfl⟩:=hrel;obtain⟨j1,j2,j3⟩:=HI.out;clear HREL HTOP;generalize T.ptr=pp at*;cases T' with
  |nil=>
   have hr0:r=none:=j3.symm;subst hr0;clear j1 j2 j3 HI;simp only[AT.ptr];go_wp2_with fail;refine Ux (v:=.tuple #[Ns,.bool false]) (by rw[results_cell_tmp rfl];go_simp) rfl ?_;exact⟨rfl,zb⟩
  |node b l k0 v0 rr=>
   obtain⟨_,hb,hl,hrr⟩:=j1;have c0:(w.alloc (.cells IM VT)).cell? ⟨b,0,none⟩=some ((KV k0)):=aa hb 0;(first |(have cv1:(w.alloc (.cells SZ 93)).cell? ⟨b,1,none⟩=some (.int .i64 v0.tr):=aa hb 1;have cv2:(w.alloc (.cells SZ 93)).cell? ⟨b,2,none⟩=some (.int .i64 v0.id):=aa hb 2;have cv3:(w.alloc (.cells SZ 93)).cell? ⟨b,3,none⟩=some (.int .i64 v0.pa):=aa hb 3;have cv4:(w.alloc (.cells SZ 93)).cell? ⟨b,4,none⟩=some (.int .i64 v0.rv):=aa hb 4;have cv5:(w.alloc (.cells SZ 93)).cell? ⟨b,5,none⟩=some (.string v0.sv):=aa hb 5;have cv6:(w.alloc (.cells SZ 93)).cell? ⟨b,6,none⟩=some (.string v0.op):=aa hb 6;have cv7:(w.alloc (.cells SZ 93)).cell? ⟨b,7,none⟩=some (.int .i64 v0.st):=aa hb 7;have cv8:(w.alloc (.cells SZ 93)).cell? ⟨b,8,none⟩=some (.int .i64 v0.du):=aa hb 8;have cv9:(w.alloc (.cells SZ 93)).cell? ⟨b,9,none⟩=some (.bool v0.gn):=aa hb 9) |(have cv1:(w.alloc (.cells PZ 98)).cell? ⟨b,1,none⟩=some (.int .i64 v0.tr):=aa hb 1;have cv2:(w.alloc (.cells PZ 98)).cell? ⟨b,2,none⟩=some (.int .i64 v0.id):=aa hb 2;have cv3:(w.alloc (.cells PZ 98)).cell? ⟨b,3,none⟩=some (.int .i64 v0.cl):=aa hb 3;have cv4:(w.alloc (.cells PZ 98)).cell? ⟨b,4,none⟩=some (.int .i64 v0.de):=aa hb 4;have cv5:(w.alloc (.cells PZ 98)).cell? ⟨b,5,none⟩=some (.int .i64 v0.to):=aa hb 5;have cv6:(w.alloc (.cells PZ 98)).cell? ⟨b,6,none⟩=some (.int .i64 v0.fa):=aa hb 6));have c2:(w.alloc (.cells IM VT)).cell? ⟨b,OL,none⟩=some (.pointer l.ptr):=aa hb OL;have c3:(w.alloc (.cells IM VT)).cell? ⟨b,OH,none⟩=some (.pointer rr.ptr):=aa hb OH;have hA:=dO O j2;have hlen:(AT.node b l k0 v0 rr).toL.length=l.toL.length+(rr.toL.length+1):=by simp only[AT.toL,Pu,PC]
   by_cases h1:(O).lt k k0=true
   ·have g1:Op.bytesLess k.toList k0.toList=true:=h1
    try have g0:=eh ((O).ne h1).symm
    have HN:=zH (show aC nd own t (w.alloc (.cells IM VT)) l∧aX O l.toL∧ag O l.toL k=r from⟨hl,hA.2.2.1,(jl O h1).symm.trans j3⟩);exact Od
   ·have g1:Op.bytesLess k.toList k0.toList=false:=by simpa[oS,oN]using h1
    by_cases h2:(O).lt k0 k=true
    ·have g2:Op.bytesLess k0.toList k.toList=true:=h2
     try have g0:=eh ((O).ne h2)
     have HN:=zH (show aC nd own t (w.alloc (.cells IM VT)) rr∧aX O rr.toL∧ag O rr.toL k=r from⟨hrr,hA.2.2.2,(gD O hA.1 h2).symm.trans j3⟩);exact Ob
    ·obtain rfl:k=k0:=(O).tri _ _ (by simpa using h1) (by simpa using h2);have hr0:r=some v0:=j3.symm.trans (mc O hA.1);subst hr0;clear j2 j3 HI hb hl hrr hA h1 h2 hlen g1;simp only[AT.ptr];go_wp2_with fail;refine Ux (v:=.tuple #[(L5 v0),.bool true]) (by rw[results_cell_tmp rfl];go_simp) rfl ?_;exact⟨rfl,zb⟩):P:=h
end
