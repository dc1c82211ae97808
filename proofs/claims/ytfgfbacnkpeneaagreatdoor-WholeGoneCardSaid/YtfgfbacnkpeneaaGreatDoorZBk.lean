/- For WholeGone: contracts of functions and plain laws. -/
import Derived.Test.YtfgfbacnkpeneaaGreatDoorZBj
import Derived.Test.YtfgfbacnkpeneaaGreatDoorZAs
import Derived.Defers
set_option maxRecDepth 100000
set_option maxHeartbeats 4000000
set_option linter.unusedVariables false
set_option linter.unusedSimpArgs false
namespace Go.Proofs.YtfgfbacnkpeneaaGreatDoor
open Go.Proofs.Tryz Go.ChangeShapes Go.WideShapes Go.ChangeAt Go.RowKit Go.Deep
abbrev Vh:=@Go.Proofs.Tryz.underlying66
abbrev Ub:=@List.reverse_perm
abbrev V8:=@Go.Proofs.Tryz.underlying189
abbrev V9:=@Option.getD_some
abbrev Wa:=@List.getElem?_eq_none
abbrev Wk:=@List.count_cons_of_ne
abbrev Wl:=@Bool.false_eq_true
theorem Um{P:Prop}(h:P:=by
 refine aU 5 7 (by kernel_rfl) rfl rfl (fun K hK=>?_) (fun K hK=>?_)
 ·rw[Pj (by rfl)];go_simp;(refine zu hK hS0 ?_;clear hK K;try simp only[zp]);(refine zh hS0 3 1 6 ?_;simp only[zd];((iterate 1 (refine zU ?_;simp only[zp]));refine ac ?_));(refine zo 7 rfl fun K hK=>?_;go_simp);(refine zu hK S2 ?_;clear hK K;try simp only[zp]);(refine zh S2 1 1 8 ?_;simp only[zd];((iterate 1 (refine zU ?_;simp only[zp]));refine ac ?_));(refine zo 9 rfl fun K hK=>?_;go_simp);(refine zu hK S3 ?_;clear hK K;try simp only[zp]);(refine ze ?_);exact HG
 ·rw[Pj (by rfl)];go_simp;(refine zu hK S2 ?_;clear hK K;try simp only[zp]);(refine zh S2 3 1 8 ?_;simp only[zd];((iterate 1 (refine zU ?_;simp only[zp]));refine ac ?_));(refine zo 5 rfl fun K hK=>?_;go_simp);(refine zu hK S2 ?_;clear hK K;try simp only[zp]);(refine zh S2 1 1 6 ?_;simp only[zd];((iterate 1 (refine zU ?_;simp only[zp]));refine ac ?_));(refine zo 9 rfl fun K hK=>?_;go_simp);(refine zu hK S3 ?_;clear hK K;try simp only[zp]);(refine ze ?_);exact HG):P:=h
theorem Wp{P:Prop}(h:P:=by
 exact ar (ar (ar (Up _ _) _) _) _):P:=h
theorem Wq{P:Prop}(h:P:=by
 exact ar (ar (Up _ _) _) _):P:=h
section
open AvlP
section
variable{own own':Nat→Nat}{tM tD tF:Nat}{w w' w1 w2:World}{B q:Nat}{cs cs':Array Value}{ty:TypeId}{P l l':List Pl}
theorem nN(hd:bD own tD w B (q+2) cs ty none [] 0)(hf:bD own tF w B (q+5) cs ty none [] 0)(hc0:cs[q]?=some (.map none))(hc1:cs[q+1]?=some (.map none))(hM0:tM≠0)(hMD:tM≠tD)(hMF:tM≠tF)(htD:tD≠0)(htF:tF≠0)(hDF:tD≠tF)
  (Ao Ai:Option Addr)(c1 c2:Nat)(co:List Pl)(hco:∀x∈co,x.Vd∧0≤x.de)(hm2:co.length≤50000)(hri:sK w Ai co)(hAi:∀g,Ai=some ⟨g,0,none⟩→own g=0∧g≠B):
  Calls prog 86 #[.pointer (some ⟨B,q,none⟩),.agg #[.slice Ao 0 c1,.slice Ai co.length c2]] w fun e w'=>e=.returned (.bool true)∧∃M N own' cs' p1 p2 L1 L2,own' M=tM∧own' N=tM∧M≠N∧ga own' tD tF w' B q cs' ty M N p1 p2 L1 L2 (co.reverse++[])∧aT q 8 cs cs'∧aO own own' w∧Km (fun b=>b=B∨own b=tD∨own b=tF) w w':=by
 have b0:Below w.heap.size w (w.alloc (.cells #[.slice Ao 0 c1,.slice Ai co.length c2] 207)):=ae _ (Pk _ _);have n0:=Up w (.cells #[.slice Ao 0 c1,.slice Ai co.length c2] 207);obtain⟨w0,hw0⟩:∃w0,w0=w.alloc (.cells #[.slice Ao 0 c1,.slice Ai co.length c2] 207):=⟨_,rfl⟩;rw[←hw0]at b0 n0;have hBw:=am hd.box;have HH:=zH (zQ (B:=B) (q:=q) Ao c1 w0);have hso:own w.heap.size=0:=hd.ow _ (Po _);have HN0:=zH n0;have HB0:=zH b0;have HCO:=zH hco;have HC0:=zH hc0;have HC1:=zH hc1;have HD:=zH hd;have HE:=zH hf;have HRI0:=zH hri;clear n0 b0 hco hc0 hc1 hd hf hri;go_enter func86,ntmps86;go_wp2_with fail;rw[←hw0];clear hw0;(with_reducible refine(HH.out).mono ?_);rintro e1 w1 ⟨rfl,b1⟩;have B1:=ah b1 HB0.out;have z1:w.heap.size≤w1.heap.size:=B1.size;have hn1:=af HN0.out b1;have hzs:=am hn1;have hbx:=af HD.out.box B1;have hcq:=(aa hbx q).trans HC0.out;have t0:=aa hn1 0;have t1:=aa hn1 1;have hnn:=JL w1;have hmk1:=QT (P:=prog) 47 w1;have hmk2:=QT (P:=prog) 48 (w1.alloc (.map #[] 0));have hbx2:=ar (ar hbx (.map #[] 0)) (.map #[] 0);have hfq:=ak hbx2 q;have hfq1:=ak hbx2 (q+1);have hcc:=(aa hbx2 q).trans HC0.out;have hcc1:=(aa hbx2 (q+1)).trans HC1.out;go_wp2_with fail;have hbF:=aq (aq hbx2 q (.map (some w1.heap.size))) (q+1) (.map (some (w1.heap.size+1)));have hnr:=cX q cs (.map (some w1.heap.size)) (.map (some (w1.heap.size+1)));have hat:=gh (u:=.map (some w1.heap.size)) (v:=.map (some (w1.heap.size+1))) HC0.out HC1.out;have hsB:w.heap.size≠B:=by omega
 have hn2:=aw (aw (ar (ar hn1 (.map #[] 0)) (.map #[] 0)) hsB (j:=q) (.map (some w1.heap.size))) hsB (j:=q+1) (.map (some (w1.heap.size+1)));have hkp:Kp (fun b=>b=B) w ((((w1.alloc (.map #[] 0)).alloc (.map #[] 0)).setCell ⟨B,q,none⟩ (.map (some w1.heap.size))).setCell ⟨B,q+1,none⟩ (.map (some (w1.heap.size+1)))):=((((Kp.of_below (fun b=>b=B) B1).alloc _).alloc _).setCell (b:=B) (fun _=>rfl) _).setCell (b:=B) (fun _=>rfl) _;have hkm2:Km (fun b=>b=B) ((w1.alloc (.map #[] 0)).alloc (.map #[] 0)) ((((w1.alloc (.map #[] 0)).alloc (.map #[] 0)).setCell ⟨B,q,none⟩ (.map (some w1.heap.size))).setCell ⟨B,q+1,none⟩ (.map (some (w1.heap.size+1)))):=((Km.refl (fun b=>b=B) _).setCell (b:=B) (fun _=>rfl) _).setCell (b:=B) (fun _=>rfl) _;have hmK:=((tY w1).below (ae (.map #[] 0) (Pk _ _))).kp hkm2 (by have:=am hbx;omega);have hmI:=(tZ (w1.alloc (.map #[] 0))).kp hkm2 (by rw[Pq];have:=am hbx;omega);rw[Pq]at hmI;have hzF:((((w1.alloc (.map #[] 0)).alloc (.map #[] 0)).setCell ⟨B,q,none⟩ (.map (some w1.heap.size))).setCell ⟨B,q+1,none⟩ (.map (some (w1.heap.size+1)))).heap.size=w1.heap.size+2:=by rw[PK,PK,Pq,Pq]
 generalize ((((w1.alloc (.map #[] 0)).alloc (.map #[] 0)).setCell ⟨B,q,none⟩ (.map (some w1.heap.size))).setCell ⟨B,q+1,none⟩ (.map (some (w1.heap.size+1))))=w2 at*;generalize hcs2:(cs.setIfInBounds q (.map (some w1.heap.size))).setIfInBounds (q+1) (.map (some (w1.heap.size+1)))=cs2 at*;clear hcs2 hkm2 hbx2 hfq hfq1 hcc hcc1 hmk1 hmk2 hnn t0 t1 hcq hbx hn1 b1 B1;obtain⟨M,hM⟩:∃M,M=w1.heap.size:=⟨_,rfl⟩;obtain⟨N,hN⟩:∃N,N=w1.heap.size+1:=⟨_,rfl⟩;rw[←hN]at hmI hat;rw[←hM]at hmK hat;obtain⟨own1,ho1⟩:∃own1:Nat→Nat,own1=fun b=>if b=M∨b=N then tM else own b:=⟨_,rfl⟩
 have hoM1:own1 M=tM:=by rw[ho1];exact Pj (.inl rfl)
 have hoN1:own1 N=tM:=by rw[ho1];exact Pj (.inr rfl)
 have hex:aO own own1 w:=fun b hb=>by rw[ho1];exact Pm (by omega)
 have how:Ow own1 w2:=fun b hb=>by
  rw[ho1];exact(Pm (by omega)).trans (HD.out.ow b (by omega))
 have bd2:=HD.out.far ⟨_,hbF,rfl⟩ hnr (by omega) hkp (fun b _ e hf=>HD.out.n1 (by rw[←hf];exact e)) hex how;have bf2:=HE.out.far ⟨_,hbF,rfl⟩ hnr (by omega) hkp (fun b _ e hf=>HE.out.n1 (by rw[←hf];exact e)) hex how;have hS2:ga own1 tD tF w2 B q cs2 ty M N none none [] [] []:=
  ⟨hat.1,hat.2,by rw[show iB []=fun _=>0 from funext fun _=>rfl];exact hmK,by rw[show bH []=fun _=>0 from funext fun _=>rfl];exact hmI,bd2,bf2,dF,dF⟩
 have hMw:M<w2.heap.size:=by omega
 have hNw:N<w2.heap.size:=by omega
 have hMN:M≠N:=by omega
 have hoM:own1 M≠tD∧own1 M≠tF:=by rw[hoM1];exact⟨hMD,hMF⟩
 have hoN:own1 N≠tD∧own1 N≠tF:=by rw[hoN1];exact⟨hMD,hMF⟩
 have hkF:∀wr,Km (fun b=>b=B∨b=M∨b=N∨own1 b=tD∨own1 b=tF) w2 wr→Km (fun b=>b=B∨own b=tD∨own b=tF) w wr:=fun wr k=>(hkp.toKm.mono (fun b _ e=>.inl e)).trans' k (fun b hb hf=>by
  rw[hex b hb]at hf;rcases hf with e |e |e |e
  ·exact .inl e
  ·omega
  ·omega
  ·exact .inr e)
 have HRI:=zH (fun wr (k:Km (fun b=>b=B∨b=M∨b=N∨own1 b=tD∨own1 b=tF) w2 wr)=>HRI0.out.km (hkF wr k) (fun g e hf=>by
  have:=hAi g e;rcases hf with e2 |e2 |e2
  ·exact this.2 e2
  ·exact htD (by rw[←e2];exact this.1)
  ·exact htF (by rw[←e2];exact this.1)))
 have HFIN:=zH (fun wr (hP:ce own1 tD tF w2 wr B q cs2 ty M N (co.reverse++[]))=>show ∃M N own' cs' p1 p2 L1 L2,own' M=tM∧own' N=tM∧M≠N∧ga own' tD tF wr B q cs' ty M N p1 p2 L1 L2 (co.reverse++[])∧aT q 8 cs cs'∧aO own own' w∧Km (fun b=>b=B∨own b=tD∨own b=tF) w wr from by
  obtain⟨⟨own3,cs3,p1,p2,L1,L2,s1,m1,e1⟩,k1⟩:=hP;exact⟨M,N,own3,cs3,p1,p2,L1,L2,(e1 M hMw).trans hoM1,(e1 N hNw).trans hoN1,hMN,s1,(hnr.wide (Po _) (by omega)).trans m1,fun b hb=>(e1 b (by omega)).trans (hex b hb),hkF wr k1⟩)
 have HS2:=zH hS2;have t1:=aa hn2 1;clear hM hN ho1 hat hmK hmI hbF hnr hkp how bd2 bf2 hS2 hkF hzF hex hoM1 hoN1 z1 hzs HN0 HB0 HH;go_loopw [42] (fun i wr=>i=.int .i64 0∧w2=wr) (fun _ _=>0)
 case atStart=>exact⟨rfl,rfl⟩
 case round=>
  obtain⟨rfl,rfl⟩:=hrel;have hP0:=ce.of HS2.out (Pk _ w2);go_wp2_with fail;go_loopw [53] (fun i wr=>∃k:Nat,k≤co.length∧i=.int .i64 k∧ce own1 tD tF w2 wr B q cs2 ty M N ((co.take k).reverse++[])) (fun i _=>co.length - (intOf i).toNat)
  case atStart=>exact⟨0,by omega,rfl,by simpa using hP0⟩
  case round=>
   obtain⟨k,hk,rfl,hP⟩:=hrel;by_cases hlt:k<co.length
   ·obtain⟨x,hk'⟩:=zg hlt;obtain⟨⟨own3,cs3,p1,p2,L1,L2,s1,m1,e1⟩,k1⟩:=hP;obtain⟨g,rfl,hg,hc⟩:=HRI.out _ k1 k x hk';have hv:=HCO.out x (Pv hk');have d0:=hc 0 _ rfl;have d1:=hc 1 _ rfl;have d2:=hc 2 _ rfl;have d3:=hc 3 _ rfl;have d4:=hc 4 _ rfl;have d5:=hc 5 _ rfl;rw[Ru]at d0;have hi1:(k:Int)< (co.length:Int):=by omega
    have oM1:=e1 M hMw;have oN1:=e1 N hNw;have s4:=s1.below (zB wr (.cells (PA x) 98));have hdr:(co.take (k+1)).reverse++[]=x::((co.take k).reverse++[]):=by
     rw[PO,hk'];simp
    have hll:((co.take k).reverse++[]).length≤100000:=by rw[Pu,Vq,UD,Qe];omega
    have HE:=zH (qY s4 x hv.1 hll hv.2 (by rw[oM1];exact hoM) (by rw[oN1];exact hoN) htD htF hDF hMN);have k2:=k1.alloc (.cells (PA x) 98);have HJ:=zH (fun w3=>ce.join (w2:=w3) (tD:=tD) (tF:=tF) (B:=B) (q:=q) (ty:=ty) (M:=M) (N:=N) (l:=x::((co.take k).reverse++[])) m1 e1 k2);clear s1 s4 m1 e1 k1 k2 oM1 oN1;go_wp2_with (go_at_call 146;(with_reducible refine(HE.out).mono ?_);rintro e2 w3 ⟨⟨_,rfl⟩,P2⟩);exact OR
   ·obtain rfl:k=co.length:=by omega
    go_wp2_with fail;go_ret;rw[PM]at hP;exact⟨rfl,HFIN.out _ hP⟩
end
section
variable{w w':World}
theorem FQ(A:Option Addr)(c:Nat)(co:List Pl)(hco:∀x∈co,x.Vd∧0≤x.de)(hm2:co.length≤50000)(w:World)(hri:sK w A co)(hA:∀g,A=some ⟨g,0,none⟩→g<w.heap.size):
  Calls prog 41 #[.slice A co.length c] w fun e w'=>∃v1 v2 LD LF,e=.returned (.agg #[.int .i64 (co.length:Nat),.int .i64 (bH co 1),.int .i64 (bH co 2),.int .i64 (bH co 3),v1,v2])∧bL LD (bT co)∧bL LF (cZ co)∧
   w'.ownsRow w.heap.size 237 2 v1 LD.length (LD.flatMap aP)∧w'.ownsRow w.heap.size 237 2 v2 LF.length (LF.flatMap aP)∧Below w.heap.size w w':=by
 obtain⟨w0,hw0⟩:∃w0,w0=(w.alloc (.cells #[.int .i64 0,.int .i64 0,.int .i64 0,.int .i64 0,.slice none 0 0,.slice none 0 0] 83)).alloc (.cells #[.map none,.map none,.pointer none,.int .i64 0,.int .i64 0,.pointer none,.int .i64 0,.int .i64 0] 57):=⟨_,rfl⟩;have b0:Below w.heap.size w w0:=by rw[hw0];exact ae _ (ae _ (Pk _ _))
 have hz:w0.heap.size=w.heap.size+2:=by rw[hw0,Pq,Pq]
 have hn:w0.heap[w.heap.size+1]?=some (.cells #[.map none,.map none,.pointer none,.int .i64 0,.int .i64 0,.pointer none,.int .i64 0,.int .i64 0] 57 (0,0)):=by
  have:=Up (w.alloc (.cells #[.int .i64 0,.int .i64 0,.int .i64 0,.int .i64 0,.slice none 0 0,.slice none 0 0] 83)) (.cells #[.map none,.map none,.pointer none,.int .i64 0,.int .i64 0,.pointer none,.int .i64 0,.int .i64 0] 57);rw[Pq]at this;rw[hw0];exact this
 have hn0:w0.heap[w.heap.size]?=some (.cells #[.int .i64 0,.int .i64 0,.int .i64 0,.int .i64 0,.slice none 0 0,.slice none 0 0] 83 (0,0)):=by
  rw[hw0];exact ar (Up _ _) _
 have hd:bD (fun _=>0) 1 w0 (w.heap.size+1) (0+2) #[.map none,.map none,.pointer none,.int .i64 0,.int .i64 0,.pointer none,.int .i64 0,.int .i64 0] 57 none [] 0:=⟨hn,rfl,rfl,rfl,bM _ _ _ _ _,fun _ _=>rfl,by decide⟩;have hf:bD (fun _=>0) 2 w0 (w.heap.size+1) (0+5) #[.map none,.map none,.pointer none,.int .i64 0,.int .i64 0,.pointer none,.int .i64 0,.int .i64 0] 57 none [] 0:=⟨hn,rfl,rfl,rfl,bM _ _ _ _ _,fun _ _=>rfl,by decide⟩;have hri0:sK w0 A co:=hri.km (Km.of_below (fun _=>False) b0) (fun _ _=>id);have HA:=zH (nN (tM:=3) hd hf rfl rfl (by decide) (by decide) (by decide) (by decide) (by decide) (by decide) none A 0 c co hco hm2 hri0 (fun g e=>⟨rfl,fun e2=>by have:=hA g e;omega⟩));clear hri hri0 hd hf;go_enter func41,ntmps41;go_wp2_with fail;rw[←hw0];clear hw0;(with_reducible refine(HA.out).mono ?_);rintro e1 w1 ⟨rfl,M,N,own2,cs2,p1,p2,L1,L2,_,_,_,s1,m1,x1,k1⟩;have hlow:∀b,b≤w.heap.size→¬(b=w.heap.size+1∨(fun _=>0:Nat→Nat) b=1∨(fun _=>0:Nat→Nat) b=2):=fun b hb hf=>by
  rcases hf with e |e |e
  ·omega
  ·cases e
  ·cases e
 have B1:=b0.trans (k1.below (B:=w.heap.size) (fun b hb=>hlow b (by omega)) (by omega));have hn1:=k1.at hn0 (hlow _ (Po _));have hz1:=am hn1;have hpm:(co.reverse++[]).Perm co:=by rw[Q7];exact Ub co
 have HS:=zH (pQ (s1.perm hpm) (by omega));have HTD:=zH (s1.perm hpm).td;have HTF:=zH (s1.perm hpm).tf;clear HA b0 hn hn0 k1 s1 m1 x1 hz;go_wp2_with (go_at_call 58;(with_reducible refine(HS.out).mono ?_);rintro e2 w2 ⟨v1,v2,rfl,o1,o2,b2⟩;obtain⟨A1,c1,rfl⟩:=an o1;obtain⟨A2,c2,rfl⟩:=an o2;have hn2:=af hn1 b2;have f0:=ak hn2;have g0:=aa hn2);have B2:=ah b2 B1;have r6:=aq (aq (aq (aq (aq (aq hn2 0 (.int .i64 (co.length:Nat))) 1 (.int .i64 (bH co 1))) 2 (.int .i64 (bH co 2))) 3 (.int .i64 (bH co 3))) 4 (.slice A1 L1.length c1)) 5 (.slice A2 L2.length c2);simp only[UY,U9,U3]at r6;have S6:=(((((B2.setCell (p:=⟨w.heap.size,0,none⟩) (Po _) (.int .i64 (co.length:Nat))).setCell (p:=⟨w.heap.size,1,none⟩) (Po _) (.int .i64 (bH co 1))).setCell (p:=⟨w.heap.size,2,none⟩) (Po _) (.int .i64 (bH co 2))).setCell (p:=⟨w.heap.size,3,none⟩) (Po _) (.int .i64 (bH co 3))).setCell (p:=⟨w.heap.size,4,none⟩) (Po _) (.slice A1 L1.length c1)).setCell (p:=⟨w.heap.size,5,none⟩) (Po _) (.slice A2 L2.length c2);have hne1:∀j,(Value.slice A1 L1.length c1).ownBlock≠some (Addr.block ⟨w.heap.size,j,none⟩):=fun j e=>by have:w1.heap.size≤w.heap.size:=(o1.lt _ e).1;omega
 have hne2:∀j,(Value.slice A2 L2.length c2).ownBlock≠some (Addr.block ⟨w.heap.size,j,none⟩):=fun j e=>by have:w1.heap.size≤w.heap.size:=(o2.lt _ e).1;omega
 have o1':=Us (Us (Us (Us (Us (Us o1 (hne1 0) (.int .i64 (co.length:Nat))) (hne1 1) (.int .i64 (bH co 1))) (hne1 2) (.int .i64 (bH co 2))) (hne1 3) (.int .i64 (bH co 3))) (hne1 4) (.slice A1 L1.length c1)) (hne1 5) (.slice A2 L2.length c2);have o2':=Us (Us (Us (Us (Us (Us o2 (hne2 0) (.int .i64 (co.length:Nat))) (hne2 1) (.int .i64 (bH co 1))) (hne2 2) (.int .i64 (bH co 2))) (hne2 3) (.int .i64 (bH co 3))) (hne2 4) (.slice A1 L1.length c1)) (hne2 5) (.slice A2 L2.length c2);have x0:=aa r6 0;have x1:=aa r6 1;have x2:=aa r6 2;have x3:=aa r6 3;have x4:=aa r6 4;have x5:=aa r6 5;refine Ux (v:=.agg #[.int .i64 (co.length:Nat),.int .i64 (bH co 1),.int .i64 (bH co 2),.int .i64 (bH co 3),.slice A1 L1.length c1,.slice A2 L2.length c2]) (by simp[results,results41,go_sem,x0,x1,x2,x3,x4,x5]) rfl ?_;exact⟨_,_,_,_,rfl,HTD.out,HTF.out,aI o1' (by omega),aI o2' (by omega),S6⟩
end
section
variable{own own':Nat→Nat}{tM tD tF:Nat}{w w':World}{B q:Nat}{cs cs':Array Value}{ty:TypeId}{P l l':List Pl}
def kq(own:Nat→Nat)(tM tD tF:Nat)(w:World)(B q:Nat)(cs:Array Value)(ty:TypeId)(P:List Pl):Prop:=
 (∃M N pD pF LD LF,own M=tM∧own N=tM∧M≠N∧ga own tD tF w B q cs ty M N pD pF LD LF P)∨
 (P=[]∧cs[q]?=some (.map none)∧cs[q+1]?=some (.map none)∧bD own tD w B (q+2) cs ty none [] 0∧bD own tF w B (q+5) cs ty none [] 0)
theorem kq.perm{P':List Pl}(h:kq own tM tD tF w B q cs ty P)(hp:P.Perm P'):kq own tM tD tF w B q cs ty P':=by
 rcases h with⟨M,N,pD,pF,LD,LF,h1,h2,h3,h4⟩ |⟨rfl,h⟩
 ·exact .inl ⟨M,N,pD,pF,LD,LF,h1,h2,h3,h4.perm hp⟩
 ·exact .inr ⟨hp.symm.eq_nil,h⟩
theorem xl(h:kq own tM tD tF w B q cs ty P)(hM0:tM≠0)(hMD:tM≠tD)(hMF:tM≠tF)(htD:tD≠0)(htF:tF≠0)(hDF:tD≠tF)
  (Ao Ai:Option Addr)(c1 c2:Nat)(go co R:List Pl)(hp:P.Perm (go++R))(hgo:∀x∈go,x.Vd∧0≤x.de)(hco:∀x∈co,x.Vd∧0≤x.de)(hm:P.length≤50000)(hm2:co.length≤50000)(hro:sK w Ao go)(hri:sK w Ai co)(hAo:∀g,Ao=some ⟨g,0,none⟩→own g=0∧g≠B)(hAi:∀g,Ai=some ⟨g,0,none⟩→own g=0∧g≠B):
  Calls prog 86 #[.pointer (some ⟨B,q,none⟩),.agg #[.slice Ao go.length c1,.slice Ai co.length c2]] w fun e w'=>e=.returned (.bool true)∧∃own' cs',kq own' tM tD tF w' B q cs' ty (co++R)∧aT q 8 cs cs'∧aO own own' w∧Km (fun b=>b=B∨own b=tM∨own b=tD∨own b=tF) w w':=by
 have hrp:(co.reverse++R).Perm (co++R):=(Ub co).append_right R;rcases h with⟨M,N,pD,pF,LD,LF,h1,h2,h3,h4⟩ |⟨rfl,hc0,hc1,hd,hf⟩
 ·refine(vw h4 (by rw[h1];exact⟨hMD,hMF⟩) (by rw[h2];exact⟨hMD,hMF⟩) (by rw[h1];exact hM0) (by rw[h2];exact hM0) htD htF hDF h3 Ao Ai c1 c2 go co R hp hgo hco hm hm2 hro hri hAo hAi).mono ?_;rintro e w' ⟨rfl,⟨own1,cs1,p1,p2,L1,L2,s1,m1,x1⟩,k1⟩;refine⟨rfl,own1,cs1,.inl ⟨M,N,p1,p2,L1,L2,(x1 M h4.mkd.lt).trans h1,(x1 N h4.mcl.lt).trans h2,h3,s1.perm hrp⟩,m1,x1,k1.mono (fun b _ hf=>?_)⟩;rcases hf with e |e |e |e |e
  ·exact .inl e
  ·exact .inr (.inl (by rw[e];exact h1))
  ·exact .inr (.inl (by rw[e];exact h2))
  ·exact .inr (.inr (.inl e))
  ·exact .inr (.inr (.inr e))
 ·obtain⟨rfl,rfl⟩:go=[]∧R=[]:=by
   have:=hp.symm.eq_nil;exact List.append_eq_nil_iff.1 this
  refine(nN hd hf hc0 hc1 hM0 hMD hMF htD htF hDF Ao Ai c1 c2 co hco hm2 hri hAi).mono ?_;rintro e w' ⟨rfl,M,N,own1,cs1,p1,p2,L1,L2,h1,h2,h3,s1,m1,x1,k1⟩;refine⟨rfl,own1,cs1,.inl ⟨M,N,p1,p2,L1,L2,h1,h2,h3,s1.perm hrp⟩,m1,x1,k1.mono (fun b _ hf=>?_)⟩;rcases hf with e |e |e
  ·exact .inl e
  ·exact .inr (.inr (.inl e))
  ·exact .inr (.inr (.inr e))
theorem zR(h:kq own tM tD tF w B q cs ty P)(hl:P.length≤100000):
  Calls prog 58 #[.pointer (some ⟨B,q,none⟩)] w fun e w'=>∃v1 v2 LD LF,e=.returned (.agg #[.int .i64 (P.length:Nat),.int .i64 (bH P 1),.int .i64 (bH P 2),.int .i64 (bH P 3),v1,v2])∧bL LD (bT P)∧bL LF (cZ P)∧
   w'.ownsRow w.heap.size 237 2 v1 LD.length (LD.flatMap aP)∧w'.ownsRow w.heap.size 237 2 v2 LF.length (LF.flatMap aP)∧Below w.heap.size w w':=by
 rcases h with⟨M,N,pD,pF,LD,LF,h1,h2,h3,h4⟩ |⟨rfl,hc0,hc1,hd,hf⟩
 ·refine(pQ h4 hl).mono ?_;rintro e w' ⟨v1,v2,rfl,o1,o2,b⟩;exact⟨v1,v2,LD,LF,rfl,h4.td,h4.tf,o1,o2,b⟩
 ·refine(vv hd hf hc1).mono ?_;rintro e w' ⟨v1,v2,rfl,o1,o2,b⟩;exact⟨v1,v2,[],[],rfl,dF,dF,o1,o2,b⟩
end
end
section
open Go.MapKept Go.ChangeMaps
abbrev Fg(a:Pr):Value:=.agg #[.string a.1,.string a.2]
abbrev jP(a:Pr):Prop:=zy a.1∧zy a.2
theorem Lg:prog.keyType 189=true:=by kernel_rfl
theorem xw:prog.cellsOf 189=2:=by kernel_rfl
theorem Ld:prog.cellsOf 9=1:=by kernel_rfl
theorem Le:(189:TypeId)<prog.types.size:=Wd (by kernel_rfl)
theorem JB:prog.keyTypeAt 2 189=true:=by kernel_rfl
theorem Lf:WideMaps.KeyLaw prog 189:=deep_law_laid Cx (m:=2) (by omega) Le JB (by rw[V8])
theorem GG(a:Pr)(h:jP a):∃l,keyOf prog 189 (Fg a)=some l:=by
 obtain⟨m,hm⟩:=Cw;obtain⟨h1,h2⟩:=h;refine⟨.string (keyBytes [.string a.1.data.toList,.string a.2.data.toList]),?_⟩;unfold keyOf;simp only[V8];rw[Pj (by simp[Lg,Value.formed,V8,xw]),hm];unfold Program.keyLits;simp only[V8,Value.cells];rw[Pj ⟨by rw[xw];rfl,by simp⟩];simp[Ld,Program.keyLits,UZ,Lit.wf,h1,h2]
theorem tX:MK prog 189 Fg jP:=⟨Maps.Keyed.of_law Lf,GG,fun a b h=>by
 obtain⟨a1,a2⟩:=a;obtain⟨b1,b2⟩:=b;simp only[Fg,Value.agg.injEq]at h;simpa using h⟩
def zz(n:Int):Option Int:=if n=0 then none else some n
theorem Fk(n:Int):(zz n).getD 0=n:=by
 unfold zz;split<;>simp_all
theorem KZ{n:Int}(h:n≠0):zz n=some n:=Pm h
structure fF(w:World)(M:Nat)(f:Pr→Int):Prop where
 ex:∃g:Pr→Option Int,cF prog 189 Fg jP iV w M g∧∀t,g t=zz (f t)
section
variable{w w':World}{M:Nat}{f f':Pr→Int}{a:Pr}
theorem fF.lt(h:fF w M f):M<w.heap.size:=by
 obtain⟨g,hm,_⟩:=h.ex;exact hm.lt
theorem fF.kp{F:Nat→Prop}(h:fF w M f)(hk:Km F w w')(hf:¬F M):fF w' M f:=by
 obtain⟨g,hm,hg⟩:=h.ex;exact⟨g,hm.kp hk hf,hg⟩
theorem fF.below(h:fF w M f)(hb:Below w.heap.size w w'):fF w' M f:=by
 obtain⟨g,hm,hg⟩:=h.ex;exact⟨g,hm.below hb,hg⟩
theorem Ea(w:World):fF (w.alloc (.map #[] 0)) w.heap.size (fun _=>0):=⟨_,gy w,fun _=>rfl⟩
theorem fF.look(h:fF w M f)(ha:jP a):(Instr.lookup 66 (.map (some M)) (.agg #[.string a.1,.string a.2]) false).run prog w=.ok (.int .i64 (f a)) w:=by
 obtain⟨g,hm,hg⟩:=h.ex;have:=hm.look tX Vh ha (fG w) false;rw[gz,hg,Fk]at this;exact this
theorem fF.entry(h:fF w M f)(ha:jP a):∃(v st:Value) (w1:World),(Instr.mapEntry 66 (.map (some M)) (.agg #[.string a.1,.string a.2])).run prog w=.ok (.tuple #[v,st]) w1∧Km (fun b=>b=M) w w1∧w1.heap.size=w.heap.size∧
  (Instr.lookup 66 (.map (some M)) (.agg #[.string a.1,.string a.2]) false).run prog w1=.ok (.int .i64 (f a)) w1∧
  ∀(n:Int),∃w',(Instr.entryStore 66 (.map (some M)) st (.int .i64 n)).run prog w1=.ok () w'∧cF prog 189 Fg jP iV w' M (fun x=>if x=a then some n else zz (f x))∧Km (fun b=>b=M) w1 w'∧w'.heap.size=w1.heap.size:=by
 obtain⟨g,hm,hg⟩:=h.ex;obtain⟨st,w1,h1,h2,h3,h4,h5⟩:=hm.entry tX Vh ha (zbq:=0) fG;have hl:=h2.look tX Vh ha (fG w1) false;rw[gz,Pj rfl,V9,hg,Fk]at hl;refine⟨_,_,w1,h1,h3,h4,hl,fun n=>?_⟩;obtain⟨w',k1,k2,k3,k4⟩:=h5 w1 n rfl;exact⟨w',k1,k2.congr fun x=>by split<;>first |rfl |exact(hg x).symm,k3,k4⟩
theorem xP{n:Int}(hn:n≠0)(h:cF prog 189 Fg jP iV w M (fun x=>if x=a then some n else zz (f x))):fF w M (fun x=>if x=a then n else f x):=
 ⟨_,h,fun x=>by
  by_cases e:x=a
  ·simp only[Pj e];exact(KZ hn).symm
  ·simp only[Pm e]⟩
theorem DZ{n:Int}(hn:n=0)(h:cF prog 189 Fg jP iV w M (fun x=>if x=a then none else if x=a then some n else zz (f x))):fF w M (fun x=>if x=a then n else f x):=
 ⟨_,h,fun x=>by
  by_cases e:x=a
  ·simp only[Pj e];subst hn;rfl
  ·simp only[Pm e]⟩
end
end
section
open AvlP
section
variable{w w':World}{B q M:Nat}{cs:Array Value}{ty:TypeId}{f:Pr→Int}{a:Pr}
theorem fF.ne(h:fF w M f)(hB:w.heap[B]?=some (.cells cs ty (0,0))):B≠M:=fun e=>by
 obtain⟨g,hm,_⟩:=h.ex;obtain⟨es,clock,hb,_⟩:=hm.ex;rw[e,hb]at hB;cases hB
theorem LR(hB:w.heap[B]?=some (.cells cs ty (0,0)))(hc:cs[q+6]?=some (.map (some M)))(h:fF w M f)(ha:jP a)(hl:0≤f a∧f a≤900000):
  Calls prog 159 #[.pointer (some ⟨B,q,none⟩),.agg #[.string a.1,.string a.2]] w fun e w'=>(∃v,e=.returned v)∧fF w' M (fun x=>if x=a then f a+1 else f x)∧Km (fun b=>b=M) w w':=by
 have b0:=zB w (.cells #[.string a.1,.string a.2] 189);have n0:=Up w (.cells #[.string a.1,.string a.2] 189);have hBM:=h.ne hB;have hMw:=h.lt;have hM1:=h.below b0.drew;have hlk:=hM1.look ha;obtain⟨v,st,w2,he1,k2,z2,hlk2,he2⟩:=hM1.entry ha;obtain⟨w3,he3,hM3,k3,z3⟩:=he2 (f a+1);have gw:=Qp (f a+1) (by omega);have S0:=Uq (af hB b0.drew) (show(w.alloc (.cells #[.string a.1,.string a.2] 189)).drew.heap[w.heap.size]?=_ from n0);have S2:=Uq (k2.at S0.1 hBM) (k2.at S0.2 (by omega));have S3:=Uq (k3.at S2.1 hBM) (k3.at S2.2 (by omega));have hfin:=xP (by omega) hM3;generalize hfa:f a=fa at hlk hlk2 he3 gw hfin⊢;have HK:=zH (((Km.of_below (fun b=>b=M) b0.drew).trans k2).trans k3);clear he2 h hB;go_enter func159,ntmps159;go_wp2_with fail;refine zr (fun V=>V.heap[B]?=some (.cells cs ty (0,0))∧V.heap[w.heap.size]?=some (.cells #[.string a.1,.string a.2] 189 (0,0))) S0 fun hS0=>?_;generalize (w.alloc (.cells #[.string a.1,.string a.2] 189)).drew=w1 at*;(refine zh hS0 5 5 0 ?_;simp only[zd];((iterate 5 (refine zt (fun W hW=>by obtain⟨hq,hn⟩:=hW;have c6:=(aa hq (q+6)).trans hc;have n0:=aa hn 0;have n1:=aa hn 1;exact zq) ?_;simp only[zp]));refine ac ?_));apply xO
 ·intro HG;exact Um
 go_wp2_with fail;go_end0;exact⟨⟨_,rfl⟩,hfin,HK.out⟩
theorem Ka(hB:w.heap[B]?=some (.cells cs ty (0,0)))(hc:cs[q+6]?=some (.map (some M)))(h:fF w M f)(ha:jP a)(hl: -900000≤f a∧f a≤900000):
  Calls prog 154 #[.pointer (some ⟨B,q,none⟩),.agg #[.string a.1,.string a.2]] w fun e w'=>(∃v,e=.returned v)∧fF w' M (fun x=>if x=a then f a - 1 else f x)∧Km (fun b=>b=M) w w':=by
 have b0:=zB w (.cells #[.string a.1,.string a.2] 189);have n0:=Up w (.cells #[.string a.1,.string a.2] 189);have hBM:=h.ne hB;have hMw:=h.lt;have hM1:=h.below b0.drew;have hlk:=hM1.look ha;obtain⟨v,st,w2,he1,k2,z2,hlk2,he2⟩:=hM1.entry ha;obtain⟨w3,he3,hM3,k3,z3⟩:=he2 (f a - 1);have gw:=Qp (f a - 1) (by omega);obtain⟨cN,hcN⟩:∃cN:Int,f a=cN:=⟨_,rfl⟩;rw[hcN]at hlk hlk2 he3 gw;have HCN:=zH hcN;have S0:=Uq (af hB b0.drew) (show(w.alloc (.cells #[.string a.1,.string a.2] 189)).drew.heap[w.heap.size]?=_ from n0);have S2:=Uq (k2.at S0.1 hBM) (k2.at S0.2 (by omega));have S3:=Uq (k3.at S2.1 hBM) (k3.at S2.2 (by omega));have HK:=zH (((Km.of_below (fun b=>b=M) b0.drew).trans k2).trans k3);clear he2 h hB;clear hl;go_enter func154,ntmps154;go_wp2_with fail;refine zr (fun V=>V.heap[B]?=some (.cells cs ty (0,0))∧V.heap[w.heap.size]?=some (.cells #[.string a.1,.string a.2] 189 (0,0))) S0 fun hS0=>?_;generalize (w.alloc (.cells #[.string a.1,.string a.2] 189)).drew=w1 at*;(refine zh hS0 5 5 0 ?_;simp only[zd];((iterate 5 (refine zt (fun W hW=>by obtain⟨hq,hn⟩:=hW;have c6:=(aa hq (q+6)).trans hc;have n0:=aa hn 0;have n1:=aa hn 1;exact zq) ?_;simp only[zp]));refine ac ?_));apply xO
 ·intro HG;exact Um
 have hlk3:=fun(V:World) (hV:cF prog 189 Fg jP iV V M (fun x=>if x=a then some (f a - 1)else zz (f x)))=>hV.look tX Vh ha (fG V) false;simp only[RT,gz,V9]at hlk3;have HLK:=zH (fun V hV=>by
  have:=hlk3 V hV;rw[hcN]at this;exact this)
 have HM3:=zH hM3;have B3:Below w3.heap.size w3 w3.drew:=(Pk _ _).drew;clear hlk hlk2 he1 he3 gw k2 k3 z2 z3 S0 S2 hM1 hlk3 hcN;go_wp2_with fail;refine zr (fun V=>cF prog 189 Fg jP iV V M (fun x=>if x=a then some (f a - 1)else zz (f x))∧V.heap[B]?=some (.cells cs ty (0,0))∧V.heap[w.heap.size]?=some (.cells #[.string a.1,.string a.2] 189 (0,0))) ⟨HM3.out.below B3,af S3.1 B3,af S3.2 B3⟩ fun hS0=>?_;(refine zh hS0 0 7 0 ?_;simp only[zd];((iterate 7 (refine zt (fun W hW=>by obtain⟨hm,hq,hn⟩:=hW;have c6:=(aa hq (q+6)).trans hc;have n0:=aa hn 0;have n1:=aa hn 1;have hlk:=HLK.out _ hm;exact zq) ?_;simp only[zp]));refine ac ?_));(refine ze ?_);by_cases hz:cN - 1=0
 ·have hz0:(cN - 1==0)=true:=by rw[RV];exact hz
  have HZ:=zH hz;clear hz;go_wp2_with fail;refine zr (fun V=>V.heap[B]?=some (.cells cs ty (0,0))∧V.heap[w.heap.size]?=some (.cells #[.string a.1,.string a.2] 189 (0,0))) ⟨hS0.2.1,hS0.2.2⟩ fun hS1=>?_;have hM4:=hS0.1.below (Pk _ w3.drew).drew;have HK4:Km (fun b=>b=M) w w3.drew.drew:=HK.out.trans (Km.of_below _ B3.drew);generalize w3.drew.drew=w4 at*;(refine zh hS1 1 5 0 ?_;simp only[zd];((iterate 5 (refine zt (fun W hW=>by obtain⟨hq,hn⟩:=hW;have c6:=(aa hq (q+6)).trans hc;have n0:=aa hn 0;have n1:=aa hn 1;exact zq) ?_;simp only[zp]));refine ac ?_));obtain⟨w5,hrun,hM5,k5,z5⟩:=hM4.del tX Vh ha 0;have S5:=Uq (k5.at hS1.1 hBM) (k5.at hS1.2 (by omega));refine zo 5 rfl fun K hK=>?_;refine pU _ _ _ _ rfl rfl rfl hrun ?_;(refine zu hK S5 ?_;clear hK K;try simp only[zp]);(refine ze ?_);go_wp2_with fail;go_end0;exact⟨⟨_,rfl⟩,DZ (by rw[HCN.out];exact HZ.out) hM5,HK4.trans k5⟩
 ·have hz0:(cN - 1==0)=false:=by rw[Qz];exact hz
  have HZ:=zH hz;clear hz;go_wp2_with fail;go_end0;exact⟨⟨_,rfl⟩,(xP (by rw[HCN.out];exact HZ.out) HM3.out).below B3,HK.out.trans (Km.of_below _ B3)⟩
end
end
section
open AvlP BigP
theorem Jb(r:Option ByteArray):AvT.vo r=.string (r.getD ⟨#[]⟩):=by cases r<;>rfl
section
variable{own own':Nat→Nat}{b:Nat}{w w':World}{B q M:Nat}{cs cs':Array Value}{ty:TypeId}{p0 p1 p2:Option Addr}{S:List (ByteArray×ByteArray)}{A:List (ByteArray×Int)}{C:List (ByteArray×Unit)}{E E':Pr→Int}{x:Sp}
structure cE(own:Nat→Nat)(b:Nat)(w:World)(B q:Nat)(cs:Array Value)(ty:TypeId)(M:Nat)(p0 p1 p2:Option Addr)(S:List (ByteArray×ByteArray))(A:List (ByteArray×Int))(C:List (ByteArray×Unit))(E:Pr→Int):Prop where
 box:w.heap[B]?=some (.cells cs ty (0,0))
 c0:cs[q]?=some (.pointer p0)
 c1:cs[q+1]?=some (.int .i64 (S.length:Nat))
 c2:cs[q+2]?=some (.pointer p1)
 c3:cs[q+3]?=some (.int .i64 (A.length:Nat))
 c4:cs[q+4]?=some (.pointer p2)
 c5:cs[q+5]?=some (.int .i64 (C.length:Nat))
 c6:cs[q+6]?=some (.map (some M))
 tS:dm AvT.nd oS own b w p0 S
 tA:dm AvI.nd oS own (b+1) w p1 A
 tC:dm AvK.nd oS own (b+2) w p2 C
 mp:fF w M E
 oM:own M=b+3
 ow:Ow own w
 nB:own B<b∨b+3<own B
 b0:0<b
def mh(own:Nat→Nat)(b B c:Nat):Prop:=c=B∨(b≤own c∧own c≤b+3)
theorem cE.far{F:Nat→Prop}(h:cE own b w B q cs ty M p0 p1 p2 S A C E)(hk:Km F w w')(hf:∀c,c<w.heap.size→mh own b B c→¬F c)(he:aO own own' w)(ho:Ow own' w'):cE own' b w' B q cs ty M p0 p1 p2 S A C E:=by
 have hlB:=am h.box;have hlM:=h.mp.lt;have oM:=h.oM;exact⟨hk.at h.box (hf B hlB (.inl rfl)),h.c0,h.c1,h.c2,h.c3,h.c4,h.c5,h.c6,h.tS.kmE hk (fun c hc e=>hf c hc (.inr ⟨by omega,by omega⟩)) he,h.tA.kmE hk (fun c hc e=>hf c hc (.inr ⟨by omega,by omega⟩)) he,h.tC.kmE hk (fun c hc e=>hf c hc (.inr ⟨by omega,by omega⟩)) he,
  h.mp.kp hk (hf M hlM (.inr ⟨by omega,by omega⟩)),(he M hlM).trans oM,ho,by rw[he B hlB];exact h.nB,h.b0⟩
theorem cE.below(h:cE own b w B q cs ty M p0 p1 p2 S A C E)(hb:Below w.heap.size w w'):cE own b w' B q cs ty M p0 p1 p2 S A C E:=h.far (Km.of_below (fun _=>False) hb) (fun _ _ _=>id) (aO.refl _ _) (h.ow.mono hb.size)
theorem cE.turn(h:cE own b w B q cs ty M p0 p1 p2 S A C E)(hk:Km (fun c=>c=M) w w')(hm:fF w' M E'):cE own b w' B q cs ty M p0 p1 p2 S A C E':=by
 have hBM:=h.mp.ne h.box;have oM:=h.oM;exact⟨hk.at h.box hBM,h.c0,h.c1,h.c2,h.c3,h.c4,h.c5,h.c6,h.tS.kmE hk (fun c hc e e2=>by subst e2;omega) (aO.refl _ _),h.tA.kmE hk (fun c hc e e2=>by subst e2;omega) (aO.refl _ _),h.tC.kmE hk (fun c hc e e2=>by subst e2;omega) (aO.refl _ _),hm,oM,h.ow.mono hk.size,h.nB,h.b0⟩
theorem sn{bv bx:Nat}(hv:w.cell? ⟨bv,0,none⟩=some (.pointer (some ⟨B,q,none⟩)))(hx:w.heap[bx]?=some (.cells (SA x) 93 (0,0)))(h:cE own b w B q cs ty M p0 p1 p2 S A C E)(id:Int)(h1:aB x.tr)(h2:aB id)(r:Option ByteArray)(hr:ag oS S (kk x.tr id)=r):
  Calls prog 230 #[.int .i64 id,.pointer (some ⟨bv,0,none⟩),.pointer (some ⟨bx,0,none⟩)] w fun e w'=>e=.returned (.tuple #[.string (r.getD ⟨#[]⟩),.bool r.isSome])∧Below w.heap.size w w':=by
 have HO:=zH (fun w1=>cz x.tr id h1 h2 w1);have hvl:=Uy w _ hv;have HG:=zH (fun w1 (hb:Below w.heap.size w w1)=>KO (own:=own) (t:=b) B q p0 S (kk x.tr id) w1 ((aa (h.below hb).box q).trans h.c0) (h.below hb).tS r hr);have HV:=zH (fun w1 (hb:Below w.heap.size w w1)=>Uq ((hb.cell hvl).trans hv) (af hx hb));clear h hr hv hx;go_enter func230,ntmps230;go_wp2_with fail;refine zr (fun V=>Below w.heap.size w V) (Pk _ w).drew fun hS0=>?_;(refine zh hS0 6 6 0 ?_;simp only[zd];((iterate 6 (refine zt (fun W hW=>by obtain⟨v0,hn⟩:=HV.out _ hW;have n0:=aa hn 0;exact zq) ?_;simp only[zp]));refine ac ?_));(refine zo 6 rfl fun K hK=>?_;go_simp);go_at_call 61;(with_reducible refine(HO.out _).mono ?_);rintro e1 w1 ⟨rfl,b1⟩;have S1:=ah b1 hS0;(refine zu hK S1 ?_;clear hK K;try simp only[zp]);(refine zo 7 rfl fun K hK=>?_;go_simp);go_at_call 229;(with_reducible refine(HG.out _ S1).mono ?_);rintro e2 w2 ⟨rfl,rfl⟩;rw[Jb];(refine zu hK S1 ?_;clear hK K;try simp only[zp]);(refine zh S1 0 4 8 ?_;simp only[zd];((iterate 4 (refine zU ?_;simp only[zp]));refine ac ?_));(refine ze ?_);go_wp2_with fail;go_ret2;exact⟨rfl,S1⟩
end
end
section
open AvlP
def wv(K:List ByteArray):Prop:=K.Pairwise fun a b=>oS.lt a b=true
theorem B9:∀{K M:List ByteArray},wv K→wv M→(∀k,k∈K↔k∈M)→K=M:=by
 intro K M hK hM h;have hs:∀{K:List ByteArray},wv K→aX oS (K.map fun k=>(k,())):=fun hK=>hK.map _ fun _ _ e=>e;have:=qw oS (hs hK) (hs hM) fun k v=>by
  rw[Uu,Uu];exact⟨fun⟨a,ha,e⟩=>⟨a,(h a).1 ha,e⟩,fun⟨a,ha,e⟩=>⟨a,(h a).2 ha,e⟩⟩
 have h2:=congrArg (List.map (·.1)) this;rw[UQ,UQ,show((fun z:ByteArray×Unit=>z.1) ∘ fun k=>(k,()))=id from rfl,List.map_id,List.map_id]at h2;exact h2
theorem BZ{V:Type}{L:List (ByteArray×V)}(h:aX oS L):wv (L.map (·.1)):=h.map _ fun _ _ e=>e
def jD(l:List Int):List (Int×Int):=l.foldr (fun x L=>iF L x (bt L x+1)) []
theorem kw:∀l:List Int,bL (jD l) l
 |[]=>dF
 |x::l=>(kw l).add x
theorem bL.is{L:List (Int×Int)}{l l':List Int}(h:bL L l)(hp:l.Perm l'):L=jD l':=h.eq (kw l') hp
theorem wY{l l':List Int}(hp:l.Perm l'):jD l=jD l':=(kw l).is hp
structure Fj where
 sv:ByteArray
 op:ByteArray
 many:Int
 sum:Sm
 bk:List (Int×Int)
def mS(sp:ByteArray→ByteArray×ByteArray)(k:ByteArray)(l:List Int):Fj:=⟨(sp k).1,(sp k).2,(l.length:Nat),jN (kL l),jD (l.map cd)⟩
theorem rC(sp:ByteArray→ByteArray×ByteArray)(k:ByteArray){l l':List Int}(hp:l.Perm l'):mS sp k l=mS sp k l':=by
 unfold mS;rw[hp.length_eq,uE hp,wY (hp.map cd)]
structure oR(sp:ByteArray→ByteArray×ByteArray)(R:List Sp)(O:List Fj):Prop where
 ex:∃K,wv K∧(∀k,k∈K↔qu R k≠[])∧O=K.map fun k=>mS sp k (qu R k)
theorem oR.unique{sp:ByteArray→ByteArray×ByteArray}{R R':List Sp}{O O':List Fj}(h:oR sp R O)(h':oR sp R' O')(hp:R.Perm R'):O=O':=by
 obtain⟨K,k1,k2,rfl⟩:=h.ex;obtain⟨M,m1,m2,rfl⟩:=h'.ex;have e:K=M:=B9 k1 m1 fun k=>by
  rw[k2,m2];have:=(jZ hp k).length_eq;rw[←Wj,←Wj,this]
 rw[e];exact RZ fun k _=>rC sp k (jZ hp k)
structure wC where
 f:ByteArray
 t:ByteArray
 n:Int
def jG(a b:wC):Bool:=oS.lt a.f b.f||(decide (a.f=b.f)&&oS.lt a.t b.t)
structure oU(E:List Pr)(O:List wC):Prop where
 srt:O.Pairwise fun a b=>jG a b=true
 mem:∀a,a∈O↔a.n=(E.count (a.f,a.t):Nat)∧a.n≠0
theorem yE(a:wC):jG a a=false:=by
 unfold jG;rw[oS.irr,oS.irr];simp
theorem wa{a b c:wC}(h:jG a b=true)(k:jG b c=true):jG a c=true:=by
 unfold jG at*;simp only[Bool.or_eq_true,UU,P7]at*;rcases h with h |⟨h1,h2⟩<;>rcases k with k |⟨k1,k2⟩
 ·exact .inl (oS.tr _ _ _ h k)
 ·exact .inl (k1▸h)
 ·exact .inl (h1▸k)
 ·exact .inr ⟨h1.trans k1,oS.tr _ _ _ h2 k2⟩
theorem mF{α:Type}{r:α→α→Bool}(irr:∀a,r a a=false)(tr:∀a b c,r a b=true→r b c=true→r a c=true):∀{X Y:List α},X.Pairwise (fun a b=>r a b=true)→Y.Pairwise (fun a b=>r a b=true)→(∀a,a∈X↔a∈Y)→X=Y
 |[],[],_,_,_=>rfl
 |[],y::Y,_,_,h=>by have:=(h y).2 (UI ..);cases this
 |x::X,[],_,_,h=>by have:=(h x).1 (UI ..);cases this
 |x::X,y::Y,hX,hY,h=>by
  obtain⟨x1,x2⟩:=QL.1 hX;obtain⟨y1,y2⟩:=QL.1 hY;have asym:∀a b,r a b=true→r b a=true→False:=fun a b p q=>by
   have:=tr _ _ _ p q;rw[irr]at this;cases this
  have e:x=y:=by
   rcases Pz.1 ((h x).1 (UI ..))with e |e
   ·exact e
   ·rcases Pz.1 ((h y).2 (UI ..))with e2 |e2
    ·exact e2.symm
    ·exact(asym _ _ (y1 x e) (x1 y e2)).elim
  subst e;have hn:∀{Z:List α},(∀a∈Z,r x a=true)→x∉Z:=fun hz hm=>by
   have:=hz x hm;rw[irr]at this;cases this
  rw[mF irr tr x2 y2 fun a=>?_];have:=h a;rw[Pz,Pz]at this;constructor
  ·intro ha;rcases this.1 (.inr ha)with e |e
   ·exact absurd (e▸ha) (hn x1)
   ·exact e
  ·intro ha;rcases this.2 (.inr ha)with e |e
   ·exact absurd (e▸ha) (hn y1)
   ·exact e
theorem oU.unique{E E':List Pr}{O O':List wC}(h:oU E O)(h':oU E' O')(hp:E.Perm E'):O=O':=
 mF yE (fun _ _ _=>wa) h.srt h'.srt fun a=>by rw[h.mem,h'.mem,hp.count_eq]
def me(x:Sp):ByteArray:=fe x.sv x.op++⟨#[0]⟩++kk x.tr 0
def sk(R:List Sp):List ByteArray:=(R.filter fun x=>decide (x.pa=0)).map me
theorem sj{R R':List Sp}(h:R.Perm R'):(sk R).Perm (sk R'):=(h.filter _).map _
theorem oI(x:Sp)(R:List Sp):sk (x::R)=if x.pa=0 then me x::sk R else sk R:=by
 unfold sk;by_cases e:x.pa=0
 ·rw[Pj e,US,Pj (by simpa using e)];rfl
 ·rw[Pm e,US,Pm (by simpa using e)]
theorem vZ(R:List Sp):(sk R).length≤R.length:=by
 unfold sk;exact Oa
structure eM(L:List (ByteArray×Int))(l:List ByteArray):Prop where
 srt:aX oS L
 get:∀x,ag oS L x=nz (l.count x)
theorem zE:eM [] []:=⟨fH oS,fun _=>rfl⟩
section
variable{L:List (ByteArray×Int)}{l l':List ByteArray}{k:ByteArray}
theorem eM.perm(h:eM L l)(hp:l.Perm l'):eM L l':=⟨h.srt,fun x=>by rw[h.get,hp.count_eq]⟩
theorem eM.keys(h:eM L l):wv (L.map (·.1))∧∀k,k∈L.map (·.1)↔k∈l:=by
 refine⟨BZ h.srt,fun k=>?_⟩;rw[←eX h.srt,h.get];unfold nz;rw[←VN];split
 ·rename_i h0;exact⟨fun h=>absurd rfl h,fun h=>absurd h0 (by omega)⟩
 ·rename_i h0;exact⟨fun _=>by omega,fun _ h=>by cases h⟩
theorem eM.len(h:eM L l):L.length≤l.length:=by
 have:=eT (lU h.srt) fun x hx=>(h.keys.2 x).1 hx
 rwa [Ur]at this
theorem eM.add(h:eM L l)(k:ByteArray):eM (ay oS L k ((ag oS L k).getD 0+1)) (k::l):=by
 refine⟨dR oS h.srt _ _,fun x=>?_⟩;rw[h.get,rD];by_cases e:x=k
 ·subst e;rw[(bm oS h.srt _ _).1,Vv];unfold nz;rw[Pm (by omega)]
  push_cast
  rfl
 ·rw[(bm oS h.srt _ _).2 x e,h.get,Wk (fun e2=>e e2.symm)]
theorem eM.take(h:eM L (k::l)):eM (if(ag oS L k).getD 0 - 1=0 then aK oS L k else ay oS L k ((ag oS L k).getD 0 - 1)) l:=by
 rw[h.get,rD,Vv];by_cases e0:l.count k=0
 ·rw[Pj (by omega)];refine⟨lG oS h.srt _,fun x=>?_⟩;by_cases e:x=k
  ·subst e;rw[(dC oS h.srt _).1,e0];rfl
  ·rw[(dC oS h.srt _).2 x e,h.get,Wk (fun e2=>e e2.symm)]
 ·rw[Pm (by omega)];refine⟨dR oS h.srt _ _,fun x=>?_⟩;by_cases e:x=k
  ·subst e;rw[(bm oS h.srt _ _).1];unfold nz;rw[Pm e0];congr 1;omega
  ·rw[(bm oS h.srt _ _).2 x e,h.get,Wk (fun e2=>e e2.symm)]
end
end
section
open AvlP PlcP
section
variable{V:List (ByteArray×Sp)}{X:List Pl}
theorem zf(hV:aJ V){tr:Int}:∀(n:Nat) {i x:Int},aB i→kY (jc V tr) n i=some x→aB x
 |0,i,x,hi,h=>by
  cases h;exact hi
 |n+1,i,x,hi,h=>by
  rw[dV]at h;cases hp:jc V tr i with
  |none=>rw[hp]at h;cases h
  |some e=>
   rw[hp]at h;refine zf hV n ?_ h;unfold jc at hp;cases hg:ag oS V (kk tr i)with
   |none=>rw[hg]at hp;cases hp
   |some z=>
    rw[hg]at hp;cases hp;exact(hV.get hg).2.ok.2.2.1
theorem mR(hV:aJ V){tr i:Int}{p:Int×Int×Int}(it:aB tr)(ii:aB i)(h1:gL (jc V tr) i p):0≤p.2.1∧p.2.1≤V.length:=by
 have hd:=rT h1 (V.map fun z=>z.2.id) fun n j hj hn=>by
  have ij:=zf hV n ii hj;unfold jc at hn;cases hg:ag oS V (kk tr j)with
  |none=>rw[hg]at hn;exact absurd rfl hn
  |some x=>
   obtain⟨g1,g2⟩:=hV.get hg;have:=bS it ij g2.ok.1 g2.ok.2.1 g1;exact Uu.2 ⟨_,(ax oS hV.srt).1 hg,this.2.symm⟩
 rwa [Ur]at hd
theorem Hk(tr i:Int):Ba V tr i≤V.length:=by
 have:=Qc (fun x:Sp=>decide (x.tr=tr∧x.pa=i)) (V.map (·.2));rw[Ur]at this;exact this
theorem eZ.vd(hX:eZ V X)(hV:aJ V)(hl:V.length≤1000000):∀p∈X,p.Vd∧0≤p.de:=fun p hp=>by
 obtain⟨h1,h2⟩:=hX.ok p hp;have hm:(p.tr,p.id)∈V.map fun z=>(z.2.tr,z.2.id):=by
  rw[←hX.keys];exact Uu.2 ⟨p,hp,rfl⟩
 obtain⟨z,hz,e⟩:=Uu.1 hm;have hz2:=(hV.vd z hz).ok;have e1:z.2.tr=p.tr:=congrArg Prod.fst e;have e2:z.2.id=p.id:=congrArg Prod.snd e;have hd:=mR hV (e1▸hz2.1) (e2▸hz2.2.1) h1;have hc:=rU h1;have hf:=Hk (V:=V) p.tr p.id;simp only at hd hc;exact⟨⟨by unfold aB;omega,by unfold aB;omega,by rw[h2];unfold aB;omega⟩,hd.1⟩
theorem eZ.len(hX:eZ V X):X.length=V.length:=by
 have:=congrArg List.length hX.keys
 rwa [Ur,Ur]at this
end
structure zv(V:List (ByteArray×Sp))(x:Sp)(p:Pl):Prop where
 tr:p.tr=x.tr
 id:p.id=x.id
 pl:gL (jc V x.tr) x.id (p.cl,p.de,p.to)
 fa:p.fa=(Ba V x.tr x.id:Nat)
def Nx(V:List (ByteArray×Sp))(g:ByteArray→Option Pl):Prop:=∀k p,g k=some p→∃x,ag oS V k=some x∧zv V x p
structure ChI(V:List (ByteArray×Sp))(g:ByteArray→Option Pl)(x:Sp)(l:List Sp)(i:Int):Prop where
 mem:∀y∈l,ag oS V (aj y)=some y∧g (aj y)=none∧y.tr=x.tr
 nd:(l.map aj).Nodup
 ch:iD (jc V x.tr) (l.map (·.id)) i
 hd:l=[]∧i=x.id∨l.head?=some x
 hi:aB i
 la:∀y,l.getLast?=some y→y.pa=i
section
variable{V:List (ByteArray×Sp)}{g g':ByteArray→Option Pl}{x y:Sp}{l:List Sp}{i:Int}{p q:Pl}
theorem Kj(hx:x.Vd):ChI V g x [] x.id:=⟨by simp,by simp,trivial,.inl ⟨rfl,rfl⟩,hx.ok.2.1,by simp⟩
theorem F8(hV:aJ V)(hy:ag oS V (aj y)=some y):jc V y.tr y.id=some y.pa:=by
 unfold jc;rw[show kk y.tr y.id=aj y from rfl,hy];rfl
theorem BA(hV:aJ V)(hx:x.Vd)(hi:aB i)(hy:ag oS V (kk x.tr i)=some y):y.tr=x.tr∧y.id=i∧y.Vd∧aj y=kk x.tr i:=by
 obtain⟨h1,h2⟩:=hV.get hy;obtain⟨e1,e2⟩:=bS hx.ok.1 hi h2.ok.1 h2.ok.2.1 h1;exact⟨e1.symm,e2.symm,h2,h1.symm⟩
theorem ChI.step(hV:aJ V)(hx:x.Vd)(hxV:ag oS V (aj x)=some x)(h:ChI V g x l i)(hy:ag oS V (kk x.tr i)=some y)(hg:g (kk x.tr i)=none)(hn:kk x.tr i∉l.map aj):ChI V g x (l++[y]) y.pa:=by
 obtain⟨e1,e2,e3,e4⟩:=BA hV hx h.hi hy;have hyk:ag oS V (aj y)=some y:=by rw[e4];exact hy
 refine⟨fun z hz=>?_,?_,?_,.inr ?_,e3.ok.2.2.1,fun z hz=>?_⟩
 ·rcases Px.1 hz with hz |hz
  ·exact h.mem z hz
  ·rw[Ql]at hz;subst hz;exact⟨hyk,by rw[e4];exact hg,e1⟩
 ·rw[PU,PW];refine⟨h.nd,by simp,fun a ha b hb e=>?_⟩;simp only[UA,UV,Ql]at hb;rw[e,hb,e4]at ha;exact hn ha
 ·rw[PU];have hc:=h.ch;rw[←e2]at hc;refine sy hc ?_;rw[←e1];exact F8 hV hyk
 ·rcases h.hd with⟨e,e5⟩ |e
  ·subst e;rw[e5,hxV]at hy;cases hy;rfl
  ·cases l with
   |nil=>cases e
   |cons a r=>exact e
 ·rw[List.getLast?_append]at hz;simp at hz;rw[hz]
theorem ChI.len(hV:aJ V)(h:ChI V g x l i):l.length≤V.length:=by
 have:=eT (l:=V.map (·.1)) h.nd fun k hk=>by
  obtain⟨y,hy,rfl⟩:=Uu.1 hk;exact(eX hV.srt).1 (by rw[(h.mem y hy).1];simp)
 rwa [Ur,Ur]at this
def L9(V:List (ByteArray×Sp))(g:ByteArray→Option Pl)(x:Sp)(i:Int)(z:Int):Int×Int×Int:=
 match g (kk x.tr i)with
 |some p=>(p.cl,p.de,p.to)
 |none=>if(ag oS V (kk x.tr i)).isSome then(3,0,0)else(if i=0 then 1 else 2,0,z)
structure L8(V:List (ByteArray×Sp))(g:ByteArray→Option Pl)(x:Sp)(l:List Sp)(i:Int):Prop extends ChI V g x l i where
 ends:ag oS V (kk x.tr i)=none∨g (kk x.tr i)≠none∨kk x.tr i∈l.map aj
theorem L8.known(hV:aJ V)(hxV:ag oS V (aj x)=some x)(h:L8 V g x [] i):g (aj x)≠none:=by
 have hi:i=x.id:=by
  rcases h.hd with⟨_,e⟩ |e
  ·exact e
  ·cases e
 subst hi;rcases h.ends with e |e |e
 ·rw[show kk x.tr x.id=aj x from rfl,hxV]at e;cases e
 ·exact e
 ·cases e
theorem L8.last(hV:aJ V)(hx:x.Vd)(hg:Nx V g)(h:L8 V g x l i)(hy:l.getLast?=some y):gL (jc V x.tr) y.id (fx (L9 V g x i y.id)):=by
 have hym:y∈l:=List.mem_of_getLast? hy;obtain⟨m1,m2,m3⟩:=h.mem y hym;have hpar:jc V x.tr y.id=some i:=by
  rw[←m3,F8 hV m1,h.la y hy]
 unfold L9;cases hk:g (kk x.tr i)with
 |some p=>
  obtain⟨z,z1,z2⟩:=hg _ _ hk;obtain⟨e1,e2,_,_⟩:=BA hV hx h.hi z1;have:=z2.pl;rw[e1,e2]at this;exact kI hpar this
 |none=>
  cases hv:ag oS V (kk x.tr i)with
  |none=>
   simp only[Sl,Wl,if_false];refine p9 hpar ?_;unfold jc;rw[hv];rfl
  |some z=>
   simp only[RH,RT];have he:kk x.tr i∈l.map aj:=by
    rcases h.ends with e |e |e
    ·rw[hv]at e;cases e
    ·exact absurd hk e
    ·exact e
   obtain⟨u,hu,e⟩:=Uu.1 he;obtain⟨u1,_,u3⟩:=h.mem u hu;obtain⟨v1,v2⟩:=hV.get u1;obtain⟨_,e2⟩:=bS v2.ok.1 v2.ok.2.1 hx.ok.1 h.hi e;have:=pZ h.ch (by rw[←e2];exact List.mem_map_of_mem hu) y.id (List.mem_map_of_mem hym);rw[show fx ((3,0,0):Int×Int×Int)=(3,0,0)from rfl];exact this
theorem yY{par:Int→Option Int}:∀{l:List Int} {e:Int},iD par l e→∀{k:Nat} {a b:Int},l[k]?=some a→l[k+1]?=some b→par a=some b
 |[],_,_,k,a,b,h,_=>by simp at h
 |[c],_,_,k,a,b,h,h'=>by simp at h'
 |c::d::r,e,hc,0,a,b,h,h'=>by
  simp at h h';subst h;subst h';exact hc.1
 |c::d::r,e,hc,k+1,a,b,h,h'=>yY hc.2 (k:=k) (by simpa using h) (by simpa using h')
theorem ChI.next(h:ChI V g x l i){k:Nat}{a b:Sp}(ha:l[k]?=some a)(hb:l[k+1]?=some b)(hp:zv V b p):gL (jc V x.tr) a.id (fx (p.cl,p.de,p.to)):=by
 have h1:jc V x.tr a.id=some b.id:=yY h.ch (k:=k) (by rw[UT,ha];rfl) (by rw[UT,hb];rfl);have hbm:=(h.mem b (Pv hb)).2.2;have:=hp.pl;rw[hbm]at this;exact kI h1 this
theorem Nx.put(hg:Nx V g)(hy:ag oS V (aj y)=some y)(hp:zv V y p):Nx V (fun k=>if k=aj y then some p else g k):=fun k q hq=>by
 by_cases e:k=aj y
 ·simp only[Pj e]at hq;cases hq;rw[e];exact⟨y,hy,hp⟩
 ·simp only[Pm e]at hq;exact hg k q hq
theorem Ki{X:List Pl}(hl:X.length=V.length)(h:∀(k:Nat) (p:Pl) z,X[k]?=some p→V[k]?=some z→zv V z.2 p):eZ V X:=by
 refine⟨List.ext_getElem? fun k=>?_,fun p hp=>?_⟩
 ·rw[UT,UT];by_cases hk:k<V.length
  ·have h1:=PT (l:=X) (i:=k) (by omega);have h2:=PT hk;rw[h1,h2];have:=h k _ _ h1 h2;simp only[Option.map_some];rw[this.tr,this.id]
  ·rw[Wa (by omega),Wa (by omega)];rfl
 ·obtain⟨k,hk⟩:=Ry.1 hp;have hkl:=(Qh.1 hk).1;have h2:=PT (l:=V) (i:=k) (by omega);have:=h k _ _ hk h2;exact⟨by rw[this.tr,this.id];exact this.pl,by rw[this.tr,this.id];exact this.fa⟩
end
end
section
open AvlP
abbrev pV(b:Nat):Value:=.pointer (some ⟨b,0,none⟩)
theorem bL.sum{L:List (Int×Int)}{l:List Int}(h:bL L l)(hl:l.length≤100000):(∀z∈L,0≤z.2)∧iX L≤4611686018427387904:=by
 have hz:∀z∈L,0≤z.2∧z.2≤100000:=fun z hz=>by
  have h1:=(ax oN h.srt (k:=z.1) (v:=z.2)).2 hz;rw[h.get]at h1;unfold nz at h1;split at h1
  ·cases h1
  ·have h2:=UC h1;have:=UO (a:=z.1) (l:=l);omega
 have hb:∀M:List (Int×Int),(∀z∈M,0≤z.2∧z.2≤100000)→iX M≤M.length*100000:=by
  intro M;induction M with
  |nil=>intro _;simp[iX]
  |cons a r ih=>
   intro hM;have h1:=ih fun z hz=>hM z (Qf _ hz);have h2:=hM a (UI ..);have h3:iX (a::r)=a.2+iX r:=by simp[iX]
   rw[h3,PC]
   push_cast
   omega
 have h1:=hb L hz;have h2:=h.len;refine⟨fun z h=>(hz z h).1,?_⟩;have h3:((L.length:Nat):Int)≤100000:=by omega
 omega
section
variable{own own':Nat→Nat}{t tm th hb:Nat}{w w':World}{B q v:Nat}{cs cs':Array Value}{ty:TypeId}{p p':Option Addr}{L L':List (ByteArray×Nat)}{D D':ByteArray→List Int}{l:List Int}{S R R':List Sp}{x:Sp}{k:ByteArray}{d:Int}
theorem Eu(h:fY own t w v l)(hl:l.length≤90000):Calls prog 262 #[.pointer (some ⟨v,0,none⟩)] w fun e w'=>∃b,e=.returned (.pointer (some ⟨b,0,none⟩))∧Below w.heap.size w w':=by
 obtain⟨cs,p,L,h1,h2⟩:=h;have h3:=h2.len;rw[Ur]at h3;obtain⟨h4,h5⟩:=h2.sum (by rw[Ur];omega);exact Aq h1 (G5 (by omega)) (by omega) h4 h5
theorem Gd(h:dE own tm th hb w B q cs ty p L D)(sv op:ByteArray)(h1:sv.size≤100000)(h2:op.size≤100000)(r:Option Nat)(hr:ag oS L (fe sv op)=r):
  Calls prog 263 #[.pointer (some ⟨B,q,none⟩),.string sv,.string op] w fun e w'=>e=.returned (AvH.vo r)∧Below w.heap.size w w':=by
 have HK:=zH (fun w1=>qC sv op h1 h2 w1);have HG:=zH (fun w1 (b:Below w.heap.size w w1)=>Cr (own:=own) (t:=tm) B q p L (fe sv op) w1 ((aa (h.below b).box q).trans h.c0) (h.below b).tr r hr);clear h hr h1 h2;go_enter func263,ntmps263;go_wp2_with fail;refine zr (fun V=>True) trivial fun hS0=>?_;have b0:=(Pk w.heap.size w).drew;(refine zh hS0 7 5 0 ?_;simp only[zd];((iterate 5 (refine zU ?_;simp only[zp]));refine ac ?_));(refine zo 5 rfl fun K hK=>?_;go_simp);go_at_call 147;(with_reducible refine(HK.out _).mono ?_);rintro e1 w1 ⟨rfl,rfl⟩;(refine zu hK trivial ?_;clear hK K;try simp only[zp]);(refine zo 6 rfl fun K hK=>?_;go_simp);go_at_call 148;(with_reducible refine(HG.out _ b0).mono ?_);rintro e2 w2 ⟨rfl,rfl⟩;(refine zu hK trivial ?_;clear hK K;try simp only[zp]);(refine zh trivial 0 5 7 ?_;simp only[zd];((iterate 5 (refine zU ?_;simp only[zp]));refine ac ?_));(refine ze ?_);go_wp2;go_ret;exact⟨rfl,b0⟩
theorem JO{M bw bo bv:Nat}{g:ByteArray→Option Nat}(hm:cF prog 9 sV zy pV w M g)(hw:w.cell? ⟨bw,0,none⟩=some (.map (some M)))(ho:w.cell? ⟨bo,0,none⟩=some (.bool true))(u:FrameMode):
  CallsD prog 261 #[.pointer (some ⟨bw,0,none⟩),.pointer (some ⟨bo,0,none⟩),.pointer (some ⟨bv,0,none⟩)] u w fun e u' w'=>u'=u∧((∃v,e=.returned v)∧Below w.heap.size w w'):=by
 have hbo:=Uy w _ ho;have HM:=zH hm;clear hm;go_enter_d func261,ntmps261;go_wp2_with (at_range;refine lk rfl _ rfl underlying376 rfl HM.out ?_;intro n cnt hwk);have hbo1:=fun(wr:World) (b:Below w.heap.size w wr)=>(b.cell (p:=⟨bo,0,none⟩) hbo).trans ho;have HBO:=zH hbo1;clear hbo1 HM hw ho;go_loopw [7] (fun i wr=>∃done cnt,fD sV zy pV wr M w.heap.size g done cnt∧Below w.heap.size w wr) (fun _ wr=>Cv wr M w.heap.size)
 case atStart=>exact⟨[],cnt,hwk,ae _ (Pk _ _)⟩
 case round=>
  obtain⟨done,cnt,hW,hb⟩:=hrel;have hle:=zH hW.left;have hM:=hW.lt;go_wp2_with (at_next;refine mu rfl _ rfl (fun a b h=>by cases h;rfl) rfl hW ?_ ?_)
  ·intro _;go_wp2_with fail;go_end0;exact⟨⟨_,rfl⟩,hb⟩
  ·intro x b w' cnt' h1 h2 h3 h4 h5 h6 h7 h8;have hen:=h8 w' rfl rfl;have hb':Below w.heap.size w w':=hb.trans (h6.below (fun z hz e=>by omega) hb.size);have c1:=HBO.out _ hb';have hl4:=zH h4.left;go_wp2_with fail;refine⟨⟨_,_,h4,hb'⟩,?_⟩;rw[hl4.out,hle.out];exact h5
theorem IQ(w:World):(zeroValue 186).run prog w=.ok (.pointer none) w:=by
 simp[zeroValue,go_sem,Tryz.t186]
theorem DU(h:cH own tm th hb w B q cs ty (S++R))(hT:Ku tm th hb)(A:Option Addr)(c:Nat)(hl:∀x∈S,x.few)(hlen:S.length+R.length≤80000)(hr:cm w w.heap.size A S)(hA:∀ad,A=some ad→own ad.block=0∧ad.block≠B∧ad.block<w.heap.size):
  Calls prog 188 #[.pointer (some ⟨B,q,none⟩),.slice A S.length c] w fun e w'=>e=.returned (.bool true)∧dv own tm th hb w w' B q cs ty R:=by
 have hmf:∀(fn:Fn) (first cap:Array Value) (w:World),(Instr.makeFunc fn first cap).run prog w=.ok (.func fn first cap) w:=fun _ _ _ _=>rfl;have hmk:=fun w1=>QT (P:=prog) 376 w1;have how:=h.ow;have hBw:=h.lt;obtain⟨w1,hw1⟩:∃w1,w1=w.alloc (.cells #[.pointer (some ⟨B,q,none⟩)] 126):=⟨_,rfl⟩;obtain⟨w2,hw2⟩:∃w2,w2=w1.alloc (.cells #[.bool false] 4):=⟨_,rfl⟩;obtain⟨w3,hw3⟩:∃w3,w3=w2.alloc (.map #[] 0):=⟨_,rfl⟩;obtain⟨W1,hW1⟩:∃W1,W1=w3.alloc (.cells #[.map (some (w.heap.size+1+1))] 376):=⟨_,rfl⟩;have s1:w1.heap.size=w.heap.size+1:=by rw[hw1,Pq]
 have s2:w2.heap.size=w.heap.size+1+1:=by rw[hw2,Pq,s1]
 have s3:w3.heap.size=w.heap.size+1+1+1:=by rw[hw3,Pq,s2]
 have s4:W1.heap.size=w.heap.size+1+1+1+1:=by rw[hW1,Pq,s3]
 have B1:Below w.heap.size w W1:=by
  rw[hW1,hw3,hw2,hw1];exact zb
 have Tv:W1.heap[w.heap.size]?=some (.cells #[.pointer (some ⟨B,q,none⟩)] 126 (0,0)):=by
  rw[hW1,hw3,hw2,hw1];exact Wp
 have To:W1.heap[w.heap.size+1]?=some (.cells #[.bool false] 4 (0,0)):=by
  rw[hW1,hw3,hw2,←s1];exact Wq
 have Tm:cF prog 9 sV zy pV W1 (w.heap.size+1+1) (fun _=>none):=by
  rw[hW1,hw3,←s2];exact(gy w2).below (ae _ (Pk _ _))
 have Tw:W1.heap[w.heap.size+1+1+1]?=some (.cells #[.map (some (w.heap.size+1+1))] 376 (0,0)):=by
  rw[hW1,←s3];exact Up _ _
 have HO1:=zH (h.below B1);have hF0:∀b,own b=0→b≠B→b≠w.heap.size+1+1→¬(mJ own tm th hb B b∨b=w.heap.size+1+1):=fun b e1 e2 e3 hf=>hf.elim (mJ.none hT e1 e2) e3;have HF0:=zH hF0;have hTm:=hT.m;have hTh:=hT.h;have hTb:=hT.m';have HT:=zH hT;have HR1:=zH (fun wr (hk:Km (fun b=>mJ own tm th hb B b∨b=w.heap.size+1+1) W1 wr)=>(hr.below B1).km hk (by omega) (fun ad e=>hF0 _ (hA ad e).1 (hA ad e).2.1 (by have:=(hA ad e).2.2;omega)));have HL:=zH hl;have HOW:=zH how;have HBW:=zH hBw;clear h hr hA hl hF0 hT how;go_enter_defers func188,ntmps188;go_wp2_with fail;rw[←hw1,←hw2,←hw3,←hW1];clear hw1 hw2 hw3 hW1 hmk s1 s2 s3;go_loopw [15] (fun i wr=>∃(k:Nat) (own1:Nat→Nat) (cs1:Array Value) (g:ByteArray→Option Nat),k≤S.length∧i=.int .i64 k∧cH own1 tm th hb wr B q cs1 ty (S.drop k++R)∧aT q 2 cs cs1∧aO own own1 W1∧cF prog 9 sV zy pV wr (w.heap.size+1+1) g∧Km (fun b=>mJ own tm th hb B b∨b=w.heap.size+1+1) W1 wr) (fun i _=>S.length - (intOf i).toNat)
 case atStart=>exact⟨0,own,cs,_,by omega,rfl,HO1.out,aT.refl _ _ _,aO.refl _ _,Tm,Km.refl _ _⟩
 case round=>
  obtain⟨k,own1,cs1,g,hk,rfl,hO,hN,hE,hM,hK⟩:=hrel;have oV:=HOW.out w.heap.size (Po _);have oO:=HOW.out (w.heap.size+1) (by omega);have oM:=HOW.out (w.heap.size+1+1) (by omega);have oW:=HOW.out (w.heap.size+1+1+1) (by omega);have hBn:=HBW.out;have Uv:=hK.at Tv (HF0.out _ oV (by omega) (by omega));have Uo:=hK.at To (HF0.out _ oO (by omega) (by omega));have Uw:=hK.at Tw (HF0.out _ oW (by omega) (by omega));have hzr:=hK.size;by_cases hlt:k<S.length
  ·obtain⟨x,hk'⟩:=zg hlt;obtain⟨ad,rfl,hadl,c0,c1,c2,c3,c4,c5,c6,c7,c8⟩:=(HR1.out _ hK) k x hk';have hi1:(k:Int)< (S.length:Int):=by omega
   have hxf:=HL.out x (Pv hk');have nn:=Up wr (.cells (SA x) 93);have bn:=zB wr (.cells (SA x) 93);have hO2:=hO.below bn;have hM2:=hM.below bn;have hK2:=hK.trans (Km.of_below _ bn);have Xv:=af Uv bn;have Xo:=af Uo bn;have Xw:=af Uw bn;have w0:=aa Xw 0;have y0:=aa nn 0;have y1:=aa nn 1;have y2:=aa nn 2;have y3:=aa nn 3;have y4:=aa nn 4;have y5:=aa nn 5;have y6:=aa nn 6;have y7:=aa nn 7;have y8:=aa nn 8;have hdr:S.drop k++R=x::(S.drop (k+1)++R):=by
    exact Oh
   rw[hdr]at hO2;have hxs1:=hxf.1;have hxs2:=hxf.2;have HK:=zH (fun w1=>qC x.sv x.op (Pt hxf.1 (by omega)) (Pt hxf.2 (by omega)) w1);have hsz:(fe x.sv x.op).size≤maxLen:=by
    unfold fe;rw[QC,QC];have:(⟨#[0]⟩:ByteArray).size=1:=rfl;unfold maxLen;omega
   have HLK:=zH (hM2.look (K:=ta) (ht:=underlying376) (a:=fe x.sv x.op) hsz (IQ _) true);have hxz:wr.heap.size+1=(wr.alloc (.cells (SA x) 93)).heap.size:=(Pq _ _).symm;clear hdr hO hM hK hk';go_wp2_with (go_at_call 147;(with_reducible refine(HK.out _).mono ?_);rintro e w1 ⟨rfl,rfl⟩);generalize wr.alloc (.cells (SA x) 93)=wx at*;have hlk:=HLK.out;clear y0 y1 y2 y3 y4 y5 y6 y7 y8 c0 c1 c2 c3 c4 c5 c6 c7 c8 HLK HK;have HNN:=zH nn;have HE:=zH hE;rcases hgk:g (fe x.sv x.op)with _ |vb
   case' none=>
    rw[hgk]at hlk;dsimp only[ov,sV,pV]at hlk;rw[Pj rfl]at hlk;obtain⟨p2,L2,D2,o1,o2,o3⟩:=id hO2;obtain⟨v2,hv2⟩:∃v2,ag oS L2 (fe x.sv x.op)=some v2:=by
     cases hg2:ag oS L2 (fe x.sv x.op)with
     |some v2=>exact⟨v2,rfl⟩
     |none=>
      have h3:=o3 (fe x.sv x.op);rw[o1.lack _ hg2,oL,Pj rfl]at h3;exact absurd h3.symm.eq_nil (List.cons_ne_nil _ _)
    have hdl:(D2 (fe x.sv x.op)).length≤90000:=by
     rw[(o3 _).length_eq];refine Pt (qF _ _) ?_;rw[PC,Pu,Vn];omega
    have HH:=zH (Gd (o1.below (Pk _ wx).drew) x.sv x.op (by omega) (by omega) (some v2) hv2);have HC:=zH (fun w5 (b:Below wx.drew.heap.size wx.drew w5)=>Eu (((o1.below (Pk _ wx).drew).below b).held _ _ hv2).2 hdl);clear o1 o2 o3 hdl hv2;go_wp2_with fail;rw[hlk];go_wp2_with fail;refine zr (fun V=>V.heap[w.heap.size+1+1+1]?=some (.cells #[.map (some (w.heap.size+1+1))] 376 (0,0))∧V.heap[w.heap.size]?=some (.cells #[.pointer (some ⟨B,q,none⟩)] 126 (0,0))∧V.heap[wr.heap.size]?=some (.cells (SA x) 93 (0,0))) ⟨Xw,Xv,nn⟩ fun hS0=>?_;clear w0;(refine zh hS0 3 7 0 ?_;simp only[zd];((iterate 7 (refine zt (fun W hW=>by obtain⟨hw,hv,hn⟩:=hW;have a0:=aa hw 0;have v0:=aa hv 0;have y0:=aa hn 0;have y1:=aa hn 1;have y2:=aa hn 2;have y3:=aa hn 3;have y4:=aa hn 4;have y5:=aa hn 5;have y6:=aa hn 6;have y7:=aa hn 7;have y8:=aa hn 8;exact zq) ?_;simp only[zp]));refine ac ?_));(refine zo 7 rfl fun K hK=>?_;go_simp);go_at_call 263;(with_reducible refine(HH.out).mono ?_);rintro e5 w5 ⟨rfl,b5⟩;have S5:=Uq (af hS0.1 b5) (Uq (af hS0.2.1 b5) (af hS0.2.2 b5));simp only[AvH.vo];(refine zu hK S5 ?_;clear hK K;try simp only[zp]);(refine zo 8 rfl fun K hK=>?_;go_simp);go_at_call 262;(with_reducible refine(HC.out _ b5).mono ?_);rintro e6 w6 ⟨nb,rfl,b6⟩;have S6:=Uq (af S5.1 b6) (Uq (af S5.2.1 b6) (af S5.2.2 b6));(refine zu hK S6 ?_;clear hK K;try simp only[zp]);have B6:Below wx.heap.size wx w6:=ah b6 (ah b5 (Pk _ wx).drew);obtain⟨w7,hrun,hM7,k7,z7⟩:=(hM2.below B6).put ta underlying376 hsz nb;have S7:=Uq (k7.at S6.1 (by omega)) (Uq (k7.at S6.2.1 (by omega)) (k7.at S6.2.2 (by omega)));(refine zo 9 rfl fun K hK=>?_;go_simp);(refine zu hK S7 ?_;clear hK K;try simp only[zp]);(refine ze ?_);have O9:=(hO2.below B6).far k7 (fun b hb hf e=>mJ.none HT.out (own:=own1) (by rw[e,HE.out _ (by omega)];exact oM) (by omega) hf) (aO.refl _ _) ((hO2.below B6).ow.mono k7.size);have K9:=(hK2.trans (Km.of_below _ B6)).trans' k7 (fun b hb e=>.inr e);have M9:=hM7;obtain⟨X9w,X9v,X9n⟩:=S7;have X9o:=k7.at (af Xo B6) (by omega);have hz9:wr.heap.size<w7.heap.size:=am X9n;clear hS0 S5 S6 b5 b6 B6 k7 z7 hrun hM7 hlk HH HC hgk;generalize (fun x_1=>if x_1=fe x.sv x.op then some nb else g x_1)=g9 at M9;generalize w7=w9 at*
   case' some=>
    rw[hgk]at hlk;dsimp only[ov,sV,pV]at hlk;rw[Pj rfl]at hlk;go_wp2_with fail;rw[hlk];have O9:=hO2;have K9:=hK2;have M9:=hM2;have X9w:=Xw;have X9v:=Xv;have X9n:=nn;have X9o:=Xo;have hz9:wr.heap.size<wx.heap.size:=am nn;generalize g=g9 at M9;generalize wx=w9 at*
   all_goals
    have v0:=aa X9v 0;have HD:=zH (Ge x O9 HT.out hxf (by rw[Pu,Vn];omega));have y0:=aa X9n 0;have y1:=aa X9n 1;have y2:=aa X9n 2;have y3:=aa X9n 3;have y4:=aa X9n 4;have y5:=aa X9n 5;have y6:=aa X9n 6;have y7:=aa X9n 7;have y8:=aa X9n 8;clear O9;go_wp2_with (go_at_call 264;(with_reducible refine(HD.out).mono ?_);rintro e w10 ⟨rfl,P10⟩);obtain⟨⟨own2,cs2,z1,z2,z3⟩,z4⟩:=P10;refine⟨⟨k+1,own2,cs2,g9,by omega,by go_num,z1,hN.trans z2,HE.out.trans z3 K9.size,M9.kp z4 (mJ.none HT.out (own:=own1) (by rw[HE.out _ (by omega)];exact oM) (by omega)),K9.trans' z4 (fun b hb hf=>.inl (hf.ext HE.out hb))⟩,by simp[intOf];omega⟩
  ·obtain rfl:k=S.length:=by omega
   have f0:=ak Uo 0;have u0:=aa Uo 0;have hks:=lX wr (w.heap.size+1) 0 (.bool true);have hOs:=(show cH own1 tm th hb wr B q cs1 ty R by simpa using hO).far hks.toKm (fun b hb hf e=>mJ.none HT.out (own:=own1) (by rw[e,hE _ (by omega)];exact oO) (by omega) hf) (aO.refl _ _) (hO.ow.mono hks.size);have hMs:=hM.kp hks.toKm (by omega);have Vw:=aa (hks.at Uw (by omega)) 0;have Vo:=aa (aq Uo 0 (.bool true)) 0;have HL1:=zH (fun u=>JO (bv:=w.heap.size) hMs Vw Vo u);have HB1:=zH B1;have hBOs:=aq Uo 0 (.bool true);go_wp2_with fail;refine leaves_cons (f:=261) (args:=#[.pointer (some ⟨w.heap.size+1+1+1,0,none⟩),.pointer (some ⟨w.heap.size+1,0,none⟩),.pointer (some ⟨w.heap.size,0,none⟩)]) (by simp) (by simp[go_sem]) ?_;refine(HL1.out .returning).mono ?_;rintro e u' w'' ⟨rfl,⟨v,rfl⟩,b⟩;have x0:=aa (af hBOs b) 0;refine⟨.bool true,by simp[results,results188,go_sem,x0],rfl,⟨_,_,hOs.below b,hN,fun b hb=>hE b (by omega)⟩,?_⟩;exact(((Km.of_below (fun b=>mJ own tm th hb B b) HB1.out).trans' hK (fun b hb hf=>hf.elim id (fun e=>absurd e (by omega)))).trans' hks.toKm (fun b hb e=>absurd e (by omega))).trans (Km.of_below _ b)
end
end
