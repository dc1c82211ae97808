/- For WholeGone: contracts of functions and plain laws. -/
import Derived.Test.YtfgfbacnkpeneaaGreatDoorZAw
import Derived.IntWalk
set_option maxRecDepth 100000
set_option maxHeartbeats 4000000
set_option linter.unusedVariables false
set_option linter.unusedSimpArgs false
namespace Go.Proofs.YtfgfbacnkpeneaaGreatDoor
open Go.Proofs.Tryz Go.ChangeShapes Go.WideShapes Go.ChangeAt Go.RowKit Go.Deep AvlP
section
section
variable{t:Nat}{own own':Nat→Nat}{w w':World}{B:Nat}{cs cs':Array Value}{p p':Option Addr}{L L':List (Int×Int)}{all all':Int}{x y:Sm}
theorem oF(h:ck own t w B cs p L all x)(hl:L.length≤700000):
  Calls prog 134 #[.pointer (some ⟨B,0,none⟩)] w fun e w'=>∃v,e=.returned v∧w'.ownsRow w.heap.size 237 2 v L.length (L.flatMap aP)∧Below w.heap.size w w':=by
 have HB:=zH (nk h.bag hl);clear h;go_enter func134,ntmps134;go_wp2_with (go_at_call 111;(with_reducible refine(HB.out).mono ?_);rintro e w1 ⟨v,rfl,o1,b1⟩);refine Ux (v:=v) (by simp[results,results134,go_sem]) rfl ?_;exact⟨v,rfl,o1,b1⟩
def It(a b:Sm):Sm:=if 4294967296 - b.hi< (fT a b.lo).hi then FM else⟨(fT a b.lo).hi+b.hi,(fT a b.lo).lo⟩
theorem Er(a b:Sm)(ha:a.Ok)(hb:b.Ok)(w:World):
  Calls prog 353 #[.agg #[.int .i64 a.hi,.int .i64 a.lo],.agg #[.int .i64 b.hi,.int .i64 b.lo]] w fun e w'=>e=.returned (.agg #[.int .i64 (It a b).hi,.int .i64 (It a b).lo])∧Below w.heap.size w w':=by
 have HW:=zH (qP a ha b.lo);have hlo:=CY ha b.lo;obtain⟨l,hl⟩:∃l,l=fT a b.lo:=⟨_,rfl⟩;have HBW:=zH (show It a b=if 4294967296 - b.hi<l.hi then FM else⟨l.hi+b.hi,l.lo⟩by rw[hl];rfl);rw[←hl]at HW hlo;obtain⟨h1,h2,h3,h4⟩:=hlo;obtain⟨k1,k2,k3,k4⟩:=hb;have g1:=IntWalk.i64_in (4294967296 - b.hi) (by omega);have g2:=IntWalk.i64_in (l.hi+b.hi) (by omega);have bA:=ae (.cells #[.int .i64 0,.int .i64 0] 167) (ae (.cells #[.int .i64 b.hi,.int .i64 b.lo] 167) (zB w (.cells #[.int .i64 a.hi,.int .i64 a.lo] 167)));have n1:=ar (Up (w.alloc (.cells #[.int .i64 a.hi,.int .i64 a.lo] 167)) (.cells #[.int .i64 b.hi,.int .i64 b.lo] 167)) (.cells #[.int .i64 0,.int .i64 0] 167);rw[Pq]at n1;have m1:=Up ((w.alloc (.cells #[.int .i64 a.hi,.int .i64 a.lo] 167)).alloc (.cells #[.int .i64 b.hi,.int .i64 b.lo] 167)) (.cells #[.int .i64 0,.int .i64 0] 167);rw[Pq,Pq]at m1;have HBA:=zH bA;have HN:=zH n1;have HM:=zH m1;clear hl ha bA n1 m1 k1 k2 k3 k4;by_cases hc:4294967296 - b.hi<l.hi
 ·rw[Pj hc]at HBW;go_enter func353,ntmps353;go_wp2_with (go_at_call 226;(with_reducible refine(HW.out _).mono ?_);rintro e w1 ⟨rfl,b1⟩;have n2:=ar (af HN.out b1) (.cells #[.int .i64 l.hi,.int .i64 l.lo] 167);have m2:=ar (af HM.out b1) (.cells #[.int .i64 l.hi,.int .i64 l.lo] 167);have x0:=aa n2;have y0:=aa m2;have z0:=ak m2;have B2:=ae (.cells #[.int .i64 l.hi,.int .i64 l.lo] 167) (ah b1 HBA.out));have m3:=aq (aq m2 0 (.int .i64 4294967296)) 1 (.int .i64 4611686018427387903);have q0:=aa m3 0;have q1:=aa m3 1;refine Ux (v:=.agg #[.int .i64 4294967296,.int .i64 4611686018427387903]) (by simp[results,results353,go_sem,q0,q1]) rfl ?_;rw[HBW.out];exact⟨rfl,(B2.setCell (p:=⟨w.heap.size+1+1,0,none⟩) (by show w.heap.size≤w.heap.size+1+1;omega) _).setCell (p:=⟨w.heap.size+1+1,1,none⟩) (by show w.heap.size≤w.heap.size+1+1;omega) _⟩
 ·rw[Pm hc]at HBW;go_enter func353,ntmps353;go_wp2_with (go_at_call 226;(with_reducible refine(HW.out _).mono ?_);rintro e w1 ⟨rfl,b1⟩;have n2:=ar (af HN.out b1) (.cells #[.int .i64 l.hi,.int .i64 l.lo] 167);have m2:=ar (af HM.out b1) (.cells #[.int .i64 l.hi,.int .i64 l.lo] 167);have x0:=aa n2;have y0:=aa m2;have z0:=ak m2;have B2:=ae (.cells #[.int .i64 l.hi,.int .i64 l.lo] 167) (ah b1 HBA.out);have l2:=Up w1 (.cells #[.int .i64 l.hi,.int .i64 l.lo] 167);have u0:=aa l2;have f0:=ak l2 0;have r2:=af HM.out b1;have r0:=aa r2;have s0:=ak r2;have zz:w.heap.size+1+1<w1.heap.size:=(by have:=b1.size;simp only[Pq]at this;omega);have m4:=aw m2 (B:=w1.heap.size) (j:=0) (show w.heap.size+1+1≠w1.heap.size by omega) (.int .i64 (l.hi+b.hi));have l3:=aq l2 0 (.int .i64 (l.hi+b.hi));have v0:=aa l3;have y2:=aa m4;have z2:=ak m4);have m5:=ar (aq (aq r2 0 (.int .i64 (l.hi+b.hi))) 1 (.int .i64 l.lo)) (.cells #[.int .i64 (l.hi+b.hi),.int .i64 l.lo] 167);have q0:=aa m5 0;have q1:=aa m5 1;refine Ux (v:=.agg #[.int .i64 (l.hi+b.hi),.int .i64 l.lo]) (by simp[results,results353,go_sem,q0,q1]) rfl ?_;rw[HBW.out];exact⟨rfl,ae _ (((ah b1 HBA.out).setCell (p:=⟨w.heap.size+1+1,0,none⟩) (by show w.heap.size≤w.heap.size+1+1;omega) _).setCell (p:=⟨w.heap.size+1+1,1,none⟩) (by show w.heap.size≤w.heap.size+1+1;omega) _)⟩
end
end
