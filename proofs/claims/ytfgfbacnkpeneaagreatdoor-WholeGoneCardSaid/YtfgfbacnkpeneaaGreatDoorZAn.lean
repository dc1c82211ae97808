/- For WholeGone: contracts of functions and plain laws. -/
import Derived.Test.YtfgfbacnkpeneaaGreatDoorZAg
import Derived.Test.YtfgfbacnkpeneaaGreatDoorZAc
import Derived.Lib.FrozenHead
import Derived.Lib.OthersKept
import Derived.Lib.UnsafeStr
import Derived.Shelf.Strings.Builder1
set_option maxRecDepth 100000
set_option maxHeartbeats 4000000
set_option linter.unusedVariables false
set_option linter.unusedSimpArgs false
namespace Go.Proofs.YtfgfbacnkpeneaaGreatDoor
open Go.Proofs.Tryz Go.ChangeShapes Go.WideShapes Go.ChangeAt Go.RowKit Go.Deep
abbrev Rw:=@Nat.le_of_lt
abbrev Rx:=@Go.Lib.cell_of_heap
abbrev Sj:=@Go.Lib.OthersKept.refl
abbrev SK:=@Array.getElem?_eq_none
abbrev SP:=@Go.Lib.byteCells_length
abbrev TA:=@Go.Oper.upon_value
abbrev TR:=@Option.map_eq_some_iff
abbrev TS:=@Go.Lib.run_unsafeString_none
theorem Om{P:Prop}(h:P:=by
 go_enter func270,ntmps270;go_wp2;go_region
 all_goals (go_wp2;go_ret;exact⟨rfl,hA.drew,Below.drew (Pk b w),(Sj _ _ w).drew⟩)):P:=h
theorem Pi{P:Prop}(h:P:=by
 rcases h with h |h
 ·exact⟨_,.inl rfl,h⟩
 ·exact⟨_,.inr rfl,h⟩):P:=h
section
abbrev Fi(b:Nat)(bs:List Value)(w:World):Prop:=Lib.IsBuilderF 311 5 b b bs w
theorem BP:(prog.info? 309).map (·.size)=some 2:=by kernel_rfl
theorem IX:liesAt prog prog.depth 311 (2 / prog.cellsOf 311) 0 309 1=true:=by kernel_rfl
theorem IZ:prog.cellsOf 5=1:=by kernel_rfl
theorem IY:(prog.info? 5).map (fun i=>(i.zero,i.size,i.bytes))=some (some (.int .u8 0),1,1):=by kernel_rfl
theorem nD(b:Nat)(w:World)(h0:w.cell? ⟨b,0,none⟩=some (.pointer (some ⟨b,0,none⟩))):
  Calls prog 377 #[.pointer (some ⟨b,0,none⟩)] w fun e w'=>e=.returned (.tuple #[])∧w'=w:=by
 obtain⟨j,hj,_⟩:=TR.1 BP;go_enter func377,ntmps377;go_wp2;rw[Lib.run_neq_ptr_same w _ underlying307 hj];go_wp2;go_end0;exact⟨rfl,rfl⟩
theorem mM(b:Nat)(w:World)(h0:w.cell? ⟨b,0,none⟩=some (.pointer none))(hsh:w.shape? b=some (311,2))(hfz:w.frozen? ⟨b,0,none⟩=false):
  Calls prog 377 #[.pointer (some ⟨b,0,none⟩)] w fun e w'=>e=.returned (.tuple #[])∧w'=w.setCell ⟨b,0,none⟩ (.pointer (some ⟨b,0,none⟩)):=by
 obtain⟨j,hj,hjs⟩:=TR.1 BP;go_enter func377,ntmps377;go_wp2_with fail;rw[Lib.run_to_unsafe w ⟨b,0,none⟩ underlying307 underlying463 hj (by rw[hjs];decide) hsh (Nat.zero_lt_succ 1)];simp only[Result.andThen];rw[TA];go_wp2_with fail;rw[run_callFunc_extern func382 (by kernel_rfl) (by kernel_rfl) (by kernel_rfl) (e:=Extern.AbiNoEscape.same) (by kernel_rfl)];rw[Lib.run_noEscape];simp only[Result.andThen];rw[TA];go_wp2_with fail;rw[Lib.run_from_unsafe w ⟨b,0,none⟩ underlying463 underlying307 hj hsh IX];simp only[Result.andThen];rw[TA];go_wp2;go_end0;exact⟨rfl,rfl⟩
theorem uZ(b:Nat)(bs:List Value)(w:World)(h:Fi b bs w):
  Calls prog 377 #[.pointer (some ⟨b,0,none⟩)] w fun e w'=>e=.returned (.tuple #[])∧(Lib.BuilderAtF 311 5 b b (.pointer (some ⟨b,0,none⟩)) bs w'∧Below b w w'∧Lib.OthersKept 5 (some b) w w'):=by
 rcases h with h |h
 ·refine(mM b w h.cell0 h.shape h.frozen0).mono ?_;rintro e w' ⟨rfl,rfl⟩;exact⟨rfl,h.used _,(Pk b w).setCell (p:=⟨b,0,none⟩) h.1 _,(Sj _ _ w).setCell ⟨b,0,none⟩ rfl _⟩
 ·refine(nD b w h.cell0).mono ?_;rintro e w' ⟨rfl,rfl⟩;exact⟨rfl,h,Pk b _,Sj _ _ _⟩
theorem qL(b:Nat)(bs:List Value)(s:ByteArray)(w:World)(h:Fi b bs w)(hlen:bs.length+s.size≤140737488355328):
  Calls prog 358 #[.pointer (some ⟨b,0,none⟩),.string s] w fun e w'=>e=.returned (.tuple #[.int .i64 s.size,.nilIface])∧(Fi b (bs++Lib.strCells s) w'∧Below b w w'∧Lib.OthersKept 5 (some b) w w'):=by
 obtain⟨i0,hi,hz0,hz1,hz2⟩:=qa IY;have hBw:b≤w.heap.size:=by
  rcases h with h |h
  ·exact Rw h.lt
  ·exact Rw h.lt
 go_enter func358,ntmps358;go_wp2_with (go_at_call 377;refine(uZ b bs _ h).mono ?_);rintro e w1 ⟨rfl,h1,hb1,hk1⟩;obtain⟨hB,v,hbk,hown,hne⟩:=h1;have c0:w1.cell? ⟨b,0,none⟩=some (.pointer (some ⟨b,0,none⟩)):=by rw[Rx hbk];rfl
 have c1:w1.cell? ⟨b,1,none⟩=some v:=by rw[Rx hbk];rfl
 go_wp2_with (at_builtin;refine Lib.wpList_append_own_stringF _ rfl _ _ 305 9 rfl b 5 i0 Vf UZ hi hz0 hz1 hz2 _ _ _ rfl hown s rfl ?c3 ?c4 ?c5 ?_)
 case c3=>unfold maxLen;omega
 case c4=>omega
 case c5=>have:=hb1.size;omega
 intro v' w2 hown' hgrow _;have hlt:b<w1.heap.size:=by
  rcases Rc b w1.heap.size with h' |h'
  ·exact h'
  ·simp[SK h']at hbk
 have hb2:w2.heap[b]?=some (.cells #[.pointer (some ⟨b,0,none⟩),v] 311 (0,0)):=by
  rw[hgrow.block b hlt (fun e=>hne e.symm)];exact hbk
 have d0:w2.cell? ⟨b,0,none⟩=some (.pointer (some ⟨b,0,none⟩)):=by rw[Rx hb2];rfl
 have d1:w2.cell? ⟨b,1,none⟩=some v:=by rw[Rx hb2];rfl
 have f1:w2.frozen? ⟨b,1,none⟩=false:=Lib.frozen_of_heap hb2 1;obtain⟨ao,n',cap,rfl⟩:∃ao n' cap,v'=.slice ao n' cap:=by
  rcases hown'.2 with⟨hv,_⟩ |⟨g,cap,cur,fz,hv,_⟩
  ·exact⟨_,_,_,hv⟩
  ·exact⟨_,_,_,hv⟩
 go_wp2;go_ret2;refine⟨rfl,.inr ?_,?_,(hk1.grown hgrow (Lib.ownsRowF_kind hown)).setCell ⟨b,1,none⟩ rfl _⟩
 ·exact Lib.BuilderAtF.put (T:=311) (e:=5) hB hb2 (bs':=bs++Lib.strCells s) (by simpa[Lib.strCells_length]using hown') (by decide)
 ·exact(hb1.grown hgrow (by have:=hb1.size;omega) (fun k hk=>(hown.lt k hk).1)).setCell (p:=⟨b,1,none⟩) hB _
theorem qM(b:Nat)(l:List UInt8)(w:World)(h:Fi b (Lib.byteCells l) w)(h0:l≠[]):
  Calls prog 270 #[.pointer (some ⟨b,0,none⟩)] w fun e w'=>e=.returned (.string ⟨l.toArray⟩)∧(Fi b (Lib.byteCells l) w'∧Below b w w'∧Lib.OthersKept 5 (some b) w w'):=by
 obtain⟨p,hp,hAt⟩:∃p,(p=.pointer none∨p=.pointer (some ⟨b,0,none⟩))∧Lib.BuilderAtF 311 5 b b p (Lib.byteCells l) w:=by
  exact Pi
 obtain⟨hB,v,hbk,hown,hne⟩:=hAt;have hl0:l.length≠0:=by simpa using h0
 rw[SP]at hown;obtain⟨g,cap,cur,fz,rfl,hbg,hg,hfz,hnc,hcm,hcs,htake⟩:∃g cap cur fz,v=.slice (some ⟨g,0,none⟩) l.length cap∧b≤g∧w.heap[g]?=some (.cells cur 5 fz)∧fz.2≤l.length*1∧l.length≤cap∧cap≤maxLen∧cur.size=cap*1∧cur.toList.take (l.length*1)=Lib.byteCells l:=by
  rcases hown.2 with⟨_,hz⟩ |⟨g,cap,cur,fz,hv,r⟩
  ·exact absurd hz hl0
  ·exact⟨g,cap,cur,fz,hv,r⟩
 have c1:w.drew.cell? ⟨b,1,none⟩=some (.slice (some ⟨g,0,none⟩) l.length cap):=by
  have:w.drew.heap[b]?=some (.cells #[p,.slice (some ⟨g,0,none⟩) l.length cap] 311 (0,0)):=hbk;rw[Rx this];rfl
 have hSD:(Builtin.unsafeSliceData_ #[305] 420 #[.slice (some ⟨g,0,none⟩) l.length cap]).run prog w.drew=.ok (.pointer (some ⟨g,0,none⟩)) w.drew:=
  Lib.run_unsafeSliceData_row _ _ _ _ _ _ (by omega)
 have hUS:(Builtin.unsafeString_ #[420,3] 9 #[.pointer (some ⟨g,0,none⟩),.int .i64 l.length]).run prog w.drew=.ok (.string ⟨l.toArray⟩) (w.drew.freeze ⟨g,0,none⟩ l.length):=by
  refine Lib.run_unsafeString_row w.drew 420 3 9 5 underlying420 IZ g cur.size (by have hg':w.drew.heap[g]?=some (.cells cur 5 fz):=hg;simp[World.shape?,hg']) l h0 (by omega) (by unfold maxLen at hcm;omega) ?_;intro j x hx;have:=hown.cells (g:=g) rfl j (.int .u8 x.toNat) (by simp[Lib.byteCells,hx]);exact this
 have hkeep:Fi b (Lib.byteCells l) (w.drew.freeze ⟨g,0,none⟩ l.length):=by
  have hA:Lib.BuilderAtF 311 5 b b p (Lib.byteCells l) w.drew:=⟨hB,_,hbk,by rw[SP];exact hown,hne⟩;have hF:=hA.froze (g:=g) (cap:=cap) (by rw[SP];exact c1);rw[SP]at hF;rcases hp with rfl |rfl
  ·exact .inl hF
  ·exact .inr hF
 go_enter func270,ntmps270;go_wp2;go_region
 all_goals (go_wp2;go_ret;exact⟨rfl,hkeep,Lib.below_freeze (Below.drew (Pk b w)) (p:=⟨g,0,none⟩) hbg _,((Sj _ _ w).drew).freeze ⟨g,0,none⟩ _ ⟨cur,fz,hg⟩⟩)
theorem sO(b:Nat)(p:Value)(w:World)(hbk:w.heap[b]?=some (.cells #[p,.slice none 0 0] 311 (0,0)))(hA:Lib.BuilderAtF 311 5 b b p [] w):
  Calls prog 270 #[.pointer (some ⟨b,0,none⟩)] w fun e w'=>e=.returned (.string ⟨#[]⟩)∧(Lib.BuilderAtF 311 5 b b p [] w'∧Below b w w'∧Lib.OthersKept 5 (some b) w w'):=by
 have hUS:∀(W:World) (q:Option Addr),(Builtin.unsafeString_ #[420,3] 9 #[.pointer q,.int .i64 0]).run prog W=.ok (.string .empty) W:=fun W q=>TS W _ _ _ q;have c1:w.drew.cell? ⟨b,1,none⟩=some (.slice none 0 0):=by
  have:w.drew.heap[b]?=some (.cells #[p,.slice none 0 0] 311 (0,0)):=hbk;rw[Rx this];rfl
 have hSD:(Builtin.unsafeSliceData_ #[305] 420 #[.slice none 0 0]).run prog w.drew=.ok (.pointer none) w.drew:=rfl;exact Om
theorem pf(b g:Nat)(p:Value)(cur:Array Value)(w:World)(hbk:w.heap[b]?=some (.cells #[p,.slice (some ⟨g,0,none⟩) 0 0] 311 (0,0)))(fz:Nat×Nat)(hg:w.heap[g]?=some (.cells cur 5 fz))(hA:Lib.BuilderAtF 311 5 b b p [] w):
  Calls prog 270 #[.pointer (some ⟨b,0,none⟩)] w fun e w'=>e=.returned (.string ⟨#[]⟩)∧(Lib.BuilderAtF 311 5 b b p [] w'∧Below b w w'∧Lib.OthersKept 5 (some b) w w'):=by
 have hUS:∀(W:World) (q:Option Addr),(Builtin.unsafeString_ #[420,3] 9 #[.pointer q,.int .i64 0]).run prog W=.ok (.string .empty) W:=fun W q=>TS W _ _ _ q;have hlt:b<w.heap.size:=by
  rcases Rc b w.heap.size with h' |h'
  ·exact h'
  ·simp[SK h']at hbk
 have c1:w.drew.cell? ⟨b,1,none⟩=some (.slice (some ⟨g,0,none⟩) 0 0):=by
  have:w.drew.heap[b]?=some (.cells #[p,.slice (some ⟨g,0,none⟩) 0 0] 311 (0,0)):=hbk;rw[Rx this];rfl
 have hSD:(Builtin.unsafeSliceData_ #[305] 420 #[.slice (some ⟨g,0,none⟩) 0 0]).run prog w.drew=.ok (.pointer (some ⟨w.drew.heap.size,0,none⟩)) (w.drew.alloc (.view ⟨g,0,none⟩ 5)):=
  Lib.run_unsafeSliceData_zero w.drew _ _ 5 underlying420 ⟨g,0,none⟩ 0 (5,cur.size) (by have hg':w.drew.heap[g]?=some (.cells cur 5 fz):=hg;simp[World.shape?,hg'])
 have c2:(w.drew.alloc (.view ⟨g,0,none⟩ 5)).cell? ⟨b,1,none⟩=some (.slice (some ⟨g,0,none⟩) 0 0):=by
  have:(w.drew.alloc (.view ⟨g,0,none⟩ 5)).heap[b]?=_:=(Lib.alloc_old w.drew _ b hlt).trans hbk;rw[Rx this];rfl
 have c3:(w.alloc (.view ⟨g,0,none⟩ 5)).drew.cell? ⟨b,1,none⟩=some (.slice (some ⟨g,0,none⟩) 0 0):=c2;have c0:w.cell? ⟨b,1,none⟩=some (.slice (some ⟨g,0,none⟩) 0 0):=c1;go_enter func270,ntmps270;go_wp2;go_region
 all_goals (go_wp2;go_ret;exact⟨rfl,hA.drew.alloc _,(Below.drew (Pk b w)).alloc (Rw hlt) _,((Sj _ _ w).drew).alloc _⟩)
theorem qN(b g cap:Nat)(p:Value)(w:World)(hc0:cap≠0)(hbk:w.heap[b]?=some (.cells #[p,.slice (some ⟨g,0,none⟩) 0 cap] 311 (0,0)))(hA:Lib.BuilderAtF 311 5 b b p [] w):
  Calls prog 270 #[.pointer (some ⟨b,0,none⟩)] w fun e w'=>e=.returned (.string ⟨#[]⟩)∧(Lib.BuilderAtF 311 5 b b p [] w'∧Below b w w'∧Lib.OthersKept 5 (some b) w w'):=by
 have hUS:∀(W:World) (q:Option Addr),(Builtin.unsafeString_ #[420,3] 9 #[.pointer q,.int .i64 0]).run prog W=.ok (.string .empty) W:=fun W q=>TS W _ _ _ q;have c1:w.drew.cell? ⟨b,1,none⟩=some (.slice (some ⟨g,0,none⟩) 0 cap):=by
  have:w.drew.heap[b]?=some (.cells #[p,.slice (some ⟨g,0,none⟩) 0 cap] 311 (0,0)):=hbk;rw[Rx this];rfl
 have hSD:(Builtin.unsafeSliceData_ #[305] 420 #[.slice (some ⟨g,0,none⟩) 0 cap]).run prog w.drew=.ok (.pointer (some ⟨g,0,none⟩)) w.drew:=
  Lib.run_unsafeSliceData_row _ _ _ _ _ _ hc0
 clear hc0;exact Om
theorem De(b:Nat)(l:List UInt8)(w:World)(h:Fi b (Lib.byteCells l) w):
  Calls prog 270 #[.pointer (some ⟨b,0,none⟩)] w fun e w'=>e=.returned (.string ⟨l.toArray⟩)∧(Fi b (Lib.byteCells l) w'∧Below b w w'∧Lib.OthersKept 5 (some b) w w'):=by
 cases l with
 |cons x r=>exact qM b (x::r) w h (by simp)
 |nil=>
  obtain⟨p,hp,hA⟩:∃p,(p=.pointer none∨p=.pointer (some ⟨b,0,none⟩))∧Lib.BuilderAtF 311 5 b b p [] w:=by
   exact Pi
  have fin:∀(e:Ending) (w':World),(e=.returned (.string ⟨#[]⟩)∧(Lib.BuilderAtF 311 5 b b p [] w'∧Below b w w'∧Lib.OthersKept 5 (some b) w w'))→e=.returned (.string ⟨#[]⟩)∧(Fi b [] w'∧Below b w w'∧Lib.OthersKept 5 (some b) w w'):=by
   rintro e w' ⟨he,hk,hb,ho⟩;rcases hp with rfl |rfl
   ·exact⟨he,.inl hk,hb,ho⟩
   ·exact⟨he,.inr hk,hb,ho⟩
  have hA':=hA;obtain⟨hB,v,hbk,hown,hne⟩:=hA;rcases hown.2 with⟨rfl,_⟩ |⟨g,cap,cur,fz,rfl,hbg,hg,_,_,_,_,_⟩
  ·exact(sO b p w hbk hA').mono fin
  ·by_cases hc0:cap=0
   ·subst hc0;exact(pf b g p cur w hbk fz hg hA').mono fin
   ·exact(qN b g cap p w hc0 hbk hA').mono fin
def Wr(b:Nat)(l:List UInt8)(w:World):Prop:=Fi b (Lib.byteCells l) w
abbrev gI(b:Nat)(l:List UInt8)(v:Value)(w:World)(e:Ending)(w':World):Prop:=e=.returned v∧Wr b l w'∧Below b w w'∧Lib.OthersKept 5 (some b) w w'
theorem Wr.new(w:World):Wr w.heap.size [] (w.alloc (.cells #[.pointer none,.slice none 0 0] 311)):=
 Lib.IsBuilderF.of (Lib.fresh_isBuilder _ _ w)
theorem qT(s:ByteArray):Lib.strCells s=Lib.byteCells s.data.toList:=by rfl
theorem Wr.append(b:Nat)(l:List UInt8)(s:ByteArray)(w:World):Fi b (Lib.byteCells l++Lib.strCells s) w→Wr b (l++s.data.toList) w:=by
 intro h;show Fi b (Lib.byteCells (l++s.data.toList)) w;rw[show Lib.byteCells (l++s.data.toList)=Lib.byteCells l++Lib.strCells s by rw[qT];simp[Lib.byteCells]];exact h
theorem om(b:Nat)(l:List UInt8)(s:ByteArray)(w:World)(h:Wr b l w)(hlen:l.length+s.size≤140737488355328):
  Calls prog 314 #[.pointer (some ⟨b,0,none⟩),.string s] w (gI b (l++s.data.toList) (.tuple #[]) w):=by
 have HS:=zH (qL b (Lib.byteCells l) s w h (by rw[SP];exact hlen));clear h;go_enter func314,ntmps314;go_wp2_with (go_at_call 358;with_reducible refine(HS.out).mono ?_;rintro e w1 ⟨rfl,h1,h2,h3⟩);go_end0;exact⟨rfl,Wr.append _ _ _ _ h1,h2,h3⟩
theorem Am(b:Nat)(l:List UInt8)(w:World)(h:Wr b l w):
  Calls prog 194 #[.pointer (some ⟨b,0,none⟩)] w (gI b l (.string ⟨l.toArray⟩) w):=by
 have HS:=zH (De b l w h);clear h;go_enter func194,ntmps194;go_wp2_with (go_at_call 270;with_reducible refine(HS.out).mono ?_;rintro e w1 ⟨rfl,h1,h2,h3⟩);go_ret;exact⟨rfl,h1,h2,h3⟩
end
