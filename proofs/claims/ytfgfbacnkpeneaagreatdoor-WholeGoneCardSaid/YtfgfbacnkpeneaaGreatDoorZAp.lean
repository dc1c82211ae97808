/- For WholeGone: contracts of functions and plain laws. -/
import Derived.Test.YtfgfbacnkpeneaaGreatDoorZAk
import Derived.RangeFuncFrom
import Derived.RangeFuncBox
import Derived.Maps.AppendAt
set_option maxRecDepth 100000
set_option maxHeartbeats 4000000
set_option linter.unusedVariables false
set_option linter.unusedSimpArgs false
namespace Go.Proofs.YtfgfbacnkpeneaaGreatDoor
open Go.Proofs.Tryz Go.ChangeShapes Go.WideShapes Go.ChangeAt Go.RowKit Go.Deep
abbrev RE:=@Go.grownBy_putObj'
abbrev SQ:=@Go.ownsRow_putObj
section
def sM{β:Type}(n₀ Bx:Nat)(T E:TypeId)(size:Nat)(w:World)(k:β→Nat)(f:β→List Value)(s:β)(W:World):Prop:=
 (∃v,Boxed W Bx T v∧W.ownsRow n₀ E size v (k s) (f s))∧Below n₀ w W
def kV{α:Type}{P:α→Prop}(f:α→List Value)(pre:List {z // P z}):List Value:=(pre.map (·.1)).flatMap f
theorem AZ{α:Type}{P:α→Prop}(f:α→List Value)(pre:List {z // P z})(z:{z // P z}):kV f (pre++[z])=kV f pre++f z.1:=by simp[kV]
section
variable{β:Type}{n₀ Bx:Nat}{T E:TypeId}{size:Nat}{w W W':World}{k:β→Nat}{f:β→List Value}{s:β}
theorem jm{α:Type}{P:α→Prop}{f:α→List Value}{pre:List {z // P z}}{z:{z // P z}}{v':Value}(hb:Below n₀ w W)(hb2:Below n₀ W W')(hv:Boxed W' Bx T v')(hr:W'.ownsRow n₀ E size v' (pre.length+1) (kV f pre++f z.1)):
  sM n₀ Bx T E size w List.length (kV f) (pre++[z]) W':=by
 refine⟨⟨v',hv,?_⟩,hb.trans (hb2.mono (Po _))⟩;have e:(pre++[z]).length=pre.length+1:=by simp
 show W'.ownsRow n₀ E size v' (pre++[z]).length (kV f (pre++[z]));rw[e,AZ];exact hr
theorem ka{α:Type}{P:α→Prop}{f:α→List Value}{zs:List {z // P z}}{L:List α}{v:Value}{D:Nat}(hS:zs.map (·.1)=L)(hb:Below n₀ w W)(hr:W.ownsRow n₀ E size v zs.length (kV f zs))(hD:n₀≤D)(hs:n₀≤w.heap.size)(hK:W.heap[D]?=some (.deferred (some []))):
  (W.putObj D (.deferred none)).ownsRow n₀ E size v L.length (L.flatMap f)∧Below n₀ w (W.putObj D (.deferred none)):=by
 subst hS;rw[Ur];exact⟨SQ hr _ hK rfl,hb.grown (RE W D _) (Pt hs hb.size) fun k e=>by cases e;exact hD⟩
theorem eu{B:Nat}(hB:n₀≤B)(hs:n₀≤w.heap.size):OwnFrom B (sM n₀ Bx T E size w k f):=fun s W W' row h hg hr=>by
 obtain⟨⟨v,hv,ho⟩,hb⟩:=h;obtain⟨v',hv',ho',_⟩:=holdsRow_own n₀ Bx T E size k f (fun _ _=>True) s W W' row ⟨v,hv,ho,trivial⟩ hg (fun r e=>(hr r e).2);exact⟨⟨v',hv',ho'⟩,hb.grown hg (Pt hs hb.size) fun r e=>Pt hB (hr r e).1⟩
theorem cJ(W:World)(cs:List Value)(T:TypeId):∀j u,cs[j]?=some u→(W.alloc (.cells cs.toArray T)).cell? ((⟨W.heap.size,0,none⟩:Addr).add j)=some u:=fun j u h=>by
 have:=aa (Up W (.cells cs.toArray T)) j;rw[show((⟨W.heap.size,0,none⟩:Addr).add j)=⟨W.heap.size,j,none⟩by simp[Addr.add,eq_comm],this];simpa using h
theorem aW{B Bx:Nat}{cs:Array Value}{fr:Nat×Nat}{row:Option Nat}(h:W.heap[Bx]?=some (.cells cs T fr))(hg:W.grownBy W' row)(hr:∀r,row=some r→B≤r∧∃o:Obj,W.heap[r]?=some o∧o.isCells=false):W'.heap[Bx]?=some (.cells cs T fr):=by
 refine(hg.block Bx (am h) (fun e=>?_)).trans h;obtain⟨_,o,ho,hc⟩:=hr Bx e.symm;rw[h]at ho;cases ho;cases hc
def uQ(lo:Nat)(T:TypeId)(cs:Array Value)(mk:Nat→Act)(a:Act)(W:World):Prop:=∃Bx,lo≤Bx∧W.heap[Bx]?=some (.cells cs T (0,0))∧a=mk Bx
theorem jK{B lo:Nat}{cs:Array Value}{mk:Nat→Act}{a:Act}:OwnFrom B (fun(_:Unit) W=>uQ lo T cs mk a W):=fun _ W W' row h hg hr=>by
 obtain⟨Bx,h1,h2,h3⟩:=h;exact⟨Bx,h1,aW h2 hg hr,h3⟩
end
end
