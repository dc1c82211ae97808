/- Layer 7: acts that come in as a slice (each with a slice of its own): opened; are they few? · Layer 7: the law's own way to do an act · Layer 7: what must come, whatever the arguments are · Layer 7: the files of which something must be there (two slices behind one box): get, drop, set · Layer 7: the files of which something must be there: drop and set · Layer 7: what must be there behind an act that told no error · Layer 7, plain: what is sure is never lost, but by what takes it away. -/
import Derived.Test.YtabccphcoojbjaaDoorQAy
import Derived.Test.YtabccphcoojbjaaDoorQAm
import Derived.Deep.RegionWith
namespace Go.Proofs.YtabccphcoojbjaaDoor
open Go.ChangeShapes Go.WideShapes Go.ChangeAt Go.RowKit Go.Deep DiskP


section
variable {H : Type} {enc : TypeId × Value → H} {P : Program} {w : World} {base : Nat} {spare : Nat → Bool} {held : Bool}
/-- as open_structs, with the places that each field's own reading has -/
theorem open_structs_at {t e : TypeId} {fs : Array Field} {v : Value} {d : DataW H} {p : List MemPlace} (ht : P.underlying t = some (.slice e)) (he : P.underlying e = some (.struct fs)) (hone : oneCellFields P fs = true)
    (hC : P.cellsOf e = fs.size) (hpos : 0 < fs.size) (hcs : v.cells = #[v]) (h : DataW.Trod enc P w base spare held t v d p) (hl : ∀ x ∈ p, x.block < w.heap.size) :
    v = .slice none 0 0 ∨ ∃ a len cap, v = .slice (some a) len cap ∧ len ≤ cap ∧ cap ≤ maxLen ∧ ∀ i, i < len → a.block < w.heap.size ∧
      ∃ cs : List Value, cs.length = fs.size ∧ (∀ j, j < fs.size → w.cell? (a.add (i * fs.size + j)) = cs[j]?) ∧
        ∀ (j : Nat) (f : Field), fs[j]? = some f → ∃ (c : Value) (y : DataW H × List MemPlace) (n : Nat), cs[j]? = some c ∧ DataW.trod enc P w base spare held n f.type [c] = some y ∧ ∀ x ∈ y.2, x.block < w.heap.size := by
  obtain ⟨fuel, hf⟩ := h
  rw [hcs] at hf
  rcases open_slice ht hf with ⟨h0, _⟩ | ⟨a, len, cap, m, n, D, Pl, h0, hb, hlc, hm, hmm, hx, hall⟩
  · exact .inl (by simpa using h0)
  · right
    have hlm : len ≤ m := by rw [hmm]; split <;> omega
    refine ⟨a, len, cap, by simpa using h0, hlc, hm, fun i hi => ⟨?_, ?_⟩⟩
    · have hmp : 0 < m * P.cellsOf e := Nat.mul_pos (by omega) (by rw [hC]; exact hpos)
      refine row_block hmp (fun x hx' => hl x ?_)
      rw [(Prod.mk.inj hx).2]
      exact List.mem_append_left _ hx'
    · obtain ⟨cs', h1, h2⟩ := hall i (by omega)
      obtain ⟨_, hlen, hcell⟩ := World.cells?_some h1
      obtain ⟨xs, k, _, hxe, _, hxl, hg⟩ := DataW.trod_struct he h2
      rw [hC] at hlen hcell
      refine ⟨cs', hlen, fun j hj => (congrArg w.cell? (add_add a (i * fs.size) j).symm).trans (hcell j hj), fun j f hf => ?_⟩
      obtain ⟨o, q⟩ := hone_of hone j f hf
      have hj : j < fs.size := (Array.getElem?_eq_some_iff.1 hf).1
      have h3 := hg j f hf
      rw [o, q] at h3
      have e1 : (cs'.drop j).take 1 = [cs'[j]'(by omega)] := by
        rw [List.drop_eq_getElem_cons (show j < cs'.length by omega), List.take_succ_cons, List.take_zero]
      rw [e1, List.getElem?_eq_getElem (by omega)] at h3
      refine ⟨cs'[j]'(by omega), _, k, List.getElem?_eq_getElem (by omega), h3, fun x hx2 => hl x ?_⟩
      rw [(Prod.mk.inj hx).2]
      refine List.mem_append_right _ (List.mem_flatMap.2 ⟨i, List.mem_range.2 (by omega), ?_⟩)
      rw [(Prod.mk.inj hxe).2]
      exact List.mem_flatMap.2 ⟨_, List.getElem_mem _, hx2⟩
/-- a slice of numbers, in one cell -/
theorem open_intl_cell {t e : TypeId} {v : Value} {y : DataW H × List MemPlace} {n : Nat} (ht : P.underlying t = some (.slice e)) (he : P.underlying e = some (.int .i64)) (hc : P.cellsOf e = 1)
    (h : DataW.trod enc P w base spare held n t [v] = some y) (hl : ∀ x ∈ y.2, x.block < w.heap.size) :
    ∃ a : SlI, v = .slice a.A a.l.length a.c ∧ a.l.length ≤ a.c ∧ a.c ≤ maxLen ∧ (∀ n ∈ a.l, I64 n) ∧ Rd w w.heap.size a.A (a.l.map (Value.int .i64)) := by
  rcases open_ints ht he hc h with ⟨h1, h2⟩ | ⟨a, len, cap, zs, h1, hb, hlc, hcm, hzl, hx, hcell, hwf⟩
  · refine ⟨⟨none, 0, []⟩, by simpa using h1, by simp, by simp, by simp, Rd.nil⟩
  · have hv : v = .slice (some a) len cap := by simpa using h1
    have hlen : len ≤ zs.length := by rw [hzl]; split <;> omega
    refine ⟨⟨some a, cap, zs.take len⟩, ?_, ?_, hcm, fun n hn => I64_of_wf (hwf n (List.mem_of_mem_take hn)), fun j u hj => ?_⟩
    · rw [hv]; simp only [List.length_take, Nat.min_eq_left hlen]
    · simp only [List.length_take]; omega
    · rw [List.getElem?_map] at hj
      cases hz : (zs.take len)[j]? with
      | none => rw [hz] at hj; simp at hj
      | some n =>
        rw [hz] at hj
        obtain rfl : Value.int .i64 n = u := by simpa using hj
        obtain ⟨hjl, hn⟩ := List.getElem?_eq_some_iff.1 hz
        rw [List.length_take] at hjl
        have hjz : j < zs.length := by omega
        refine ⟨a, rfl, row_block (n := zs.length) (by omega) (by rw [hx] at hl; exact hl), ?_⟩
        rw [hcell j hjz, ← hn]
        simp [List.getD, hjz]
end
/-- a slice at A reads as acts, below block B -/
def RdA (w : World) (B : Nat) (A : Option Addr) (l : List Ac) : Prop :=
  ∀ k x, l[k]? = some x → ∃ ad, A = some ad ∧ ad.block < B ∧ w.cell? (ad.add (k * 6)) = some (.int .i64 x.kind) ∧ w.cell? ⟨(ad.add (k * 6)).block, (ad.add (k * 6)).off + 1, none⟩ = some (.string x.nm) ∧ w.cell? ⟨(ad.add (k * 6)).block, (ad.add (k * 6)).off + 2, none⟩ = some (.string x.to_)
    ∧ w.cell? ⟨(ad.add (k * 6)).block, (ad.add (k * 6)).off + 3, none⟩ = some (.string x.s) ∧ w.cell? ⟨(ad.add (k * 6)).block, (ad.add (k * 6)).off + 4, none⟩ = some (.int .i64 x.n) ∧ w.cell? ⟨(ad.add (k * 6)).block, (ad.add (k * 6)).off + 5, none⟩ = some (.slice x.Ak x.ks.length x.ck)
    ∧ Rd w B x.Ak (x.ks.map (Value.int .i64))
theorem RdA.below {w w' : World} {B : Nat} {A : Option Addr} {l : List Ac} (h : RdA w B A l) (hb : Below B w w') : RdA w' B A l := fun k x hk => by
  obtain ⟨ad, e, hlt, h0, h1, h2, h3, h4, h5, h6⟩ := h k x hk
  have hb' : ∀ a : Addr, a.block = ad.block → w'.cell? a = w.cell? a := fun a ha => hb.cell (p := a) (by rw [ha]; exact hlt)
  have hj : ∀ j, w'.cell? ⟨(ad.add (k * 6)).block, (ad.add (k * 6)).off + j, none⟩ = w.cell? ⟨(ad.add (k * 6)).block, (ad.add (k * 6)).off + j, none⟩ := fun j => hb' _ (addr_add_block ad (k * 6))
  exact ⟨ad, e, hlt, (hb' _ (addr_add_block ad (k * 6))).trans h0, (hj 1).trans h1, (hj 2).trans h2, (hj 3).trans h3, (hj 4).trans h4, (hj 5).trans h5, h6.below hb⟩
theorem RdA.more {w : World} {B B' : Nat} {A : Option Addr} {l : List Ac} (h : RdA w B A l) (hB : B ≤ B') : RdA w B' A l := fun k x hk => by
  obtain ⟨ad, e, hlt, h0, h1, h2, h3, h4, h5, h6⟩ := h k x hk
  exact ⟨ad, e, Nat.lt_of_lt_of_le hlt hB, h0, h1, h2, h3, h4, h5, h6.more hB⟩
/-- an act as it comes in -/
structure Ac.Ok (x : Ac) : Prop where
  kind : I64 x.kind
  n : I64 x.n
  nm : x.nm.size ≤ maxLen
  to_ : x.to_.size ≤ maxLen
  s : x.s.size ≤ maxLen
  ks : x.ks.length ≤ x.ck
  ck : x.ck ≤ maxLen
  all : ∀ n ∈ x.ks, I64 n
/-- a slice of acts, opened -/
structure SlA where
  A : Option Addr
  c : Nat
  l : List Ac
def SlA.Ok (a : SlA) (w : World) : Prop := a.l.length ≤ maxLen ∧ a.l.length ≤ a.c ∧ (∀ x ∈ a.l, x.Ok) ∧ RdA w w.heap.size a.A a.l
instance : Inhabited Ac := ⟨⟨0, ⟨#[]⟩, ⟨#[]⟩, ⟨#[]⟩, 0, none, 0, []⟩⟩

/-- few acts of few bytes -/
def smallA (x : Ac) : Prop := x.s.size ≤ 100 ∧ x.nm.size ≤ 100 ∧ x.to_.size ≤ 100 ∧ x.ks.length ≤ 20
def fewA (most : Nat) (l : List Ac) : Prop := l.length ≤ most ∧ ∀ x ∈ l, smallA x
theorem ataken {α : Type} (l : List α) (k : Nat) (f : α) (h : l[k]? = some f) : l.take (k + 1) = l.take k ++ [f] := by
  obtain ⟨h1, rfl⟩ := List.getElem?_eq_some_iff.1 h
  exact List.take_succ_eq_append_getElem h1
end Go.Proofs.YtabccphcoojbjaaDoor

namespace Go.Proofs.YtabccphcoojbjaaDoor
open Go.ChangeShapes Go.WideShapes Go.ChangeAt Go.RowKit Go.Deep DiskP


theorem disk_Append (d : Nat) (A : Option Addr) (c : Nat) (S : DS) (hS : OkD S) (nm s : ByteArray) (hnm : nm.size ≤ 1000) (hs : s.size ≤ 1000000) (w : World) (h : Dk d A c S w) :
    Calls Tryd.prog 22 #[.pointer (some ⟨d, 0, none⟩), .string nm, .string s] w (DPost d (appendD S nm s).1 (.int .i64 (appendD S nm s).2) w) := by
  by_cases hbad : S.on = false ∨ namedD nm = false ∨ S.room - (used S.fs : Int) < (s.size : Int) ∨ (has S.fs nm = false ∧ 64 ≤ S.fs.length)
  · refine (disk_Append_bad d A c S hS nm s hnm hs hbad w h).mono ?_
    rintro e w' ⟨rfl, h1, h2⟩
    exact ⟨rfl, A, c, by rw [h1]; exact h.kept h2, DKeep.of_below h2 (Nat.le_of_lt h.lt)⟩
  · have hon : S.on = true := by cases hx : S.on with
      | true => rfl
      | false => exact absurd (.inl hx) hbad
    have hn : namedD nm = true := by cases hx : namedD nm with
      | true => rfl
      | false => exact absurd (.inr (.inl hx)) hbad
    have hfit : ¬ S.room - (used S.fs : Int) < (s.size : Int) := fun hx => hbad (.inr (.inr (.inl hx)))
    have he : appendD S nm s = begun { S with fs := putF S.fs nm s } := by
      unfold appendD
      rw [if_neg (by simp [hon]), if_neg (by simp [hn]), if_neg (fun hx => hbad (.inr (.inr hx)))]
    rw [he]
    cases hh : has S.fs nm with
    | true => exact disk_Append_has d A c S hS nm s hnm hs hon hn hfit hh w h
    | false =>
      have h64 : S.fs.length < 64 := by
        have : ¬ 64 ≤ S.fs.length := fun hx => hbad (.inr (.inr (.inr ⟨hh, hx⟩)))
        omega
      exact disk_Append_new d A c S hS nm s hnm hs hon hn hfit hh h64 w h
/-- an act in memory, as a value -/
def acV (x : Ac) : Value := .agg #[.int .i64 x.kind, .string x.nm, .string x.to_, .string x.s, .int .i64 x.n, .slice x.Ak x.ks.length x.ck]

end Go.Proofs.YtabccphcoojbjaaDoor

namespace Go.Proofs.YtabccphcoojbjaaDoor
open Go.ChangeShapes Go.WideShapes Go.ChangeAt Go.RowKit Go.Deep DiskP


instance : DecidableEq Fl := fun a b => decidable_of_iff (a.nm = b.nm ∧ a.all = b.all ∧ a.su = b.su) (by obtain ⟨_, _, _⟩ := a; obtain ⟨_, _, _⟩ := b; simp)
instance : DecidableEq DS := fun a b => decidable_of_iff (a.fs = b.fs ∧ a.room = b.room ∧ a.made = b.made ∧ a.on = b.on ∧ a.fuse = b.fuse ∧ a.ops = b.ops) (by obtain ⟨_, _, _, _, _, _⟩ := a; obtain ⟨_, _, _, _, _, _⟩ := b; simp)
/-- the disk of the example, as it goes -/
def w7 (s : ByteArray) (su : Nat) (on : Bool) (fuse ops : Int) : DS := ⟨[⟨⟨#[102]⟩, s, su⟩], 9, true, on, fuse, ops⟩
def w0 : DS := ⟨[], 9, true, true, -1, 0⟩
def ab : ByteArray := ⟨#[97, 98]⟩
def abc : ByteArray := ⟨#[97, 98, 99]⟩
def abcde : ByteArray := ⟨#[97, 98, 99, 100, 101]⟩
theorem w0_ok : OkD w0 := ⟨by simp [w0, Sorted], by decide +kernel, by decide +kernel, by decide +kernel, by decide +kernel, by decide +kernel, by decide +kernel, by decide +kernel⟩
theorem w7_ok (s : ByteArray) (su : Nat) (on : Bool) (fuse ops : Int) (h1 : su ≤ s.size) (h2 : s.size ≤ 9) (h3 : -1 ≤ fuse ∧ fuse ≤ 100) (h4 : 0 ≤ ops ∧ ops ≤ 100) : OkD (w7 s su on fuse ops) := by
  refine ⟨by simp [w7, Sorted], by simp [w7], by simpa [w7] using h1, ?_, by simp [w7], ?_, ?_, ?_⟩
  · simp only [w7, used, List.map_cons, List.map_nil, List.sum_cons, List.sum_nil]; omega
  · simp only [w7, used, List.map_cons, List.map_nil, List.sum_cons, List.sum_nil]; omega
  · simp only [w7]; omega
  · simp only [w7]; omega
theorem w7_1 : appendD w0 ⟨#[102]⟩ ab = (w7 ab 0 true (-1) 1, 0) := by decide +kernel
theorem w7_2 : syncD (w7 ab 0 true (-1) 1) ⟨#[102]⟩ = (w7 ab 2 true (-1) 2, 0) := by decide +kernel
theorem w7_3 : appendD (w7 ab 2 true (-1) 2) ⟨#[102]⟩ ⟨#[99, 100, 101]⟩ = (w7 abcde 2 true (-1) 3, 0) := by decide +kernel
theorem w7_4 : appendD (w7 abcde 2 true (-1) 3) ⟨#[103]⟩ ⟨#[49, 50, 51, 52, 53]⟩ = (w7 abcde 2 true (-1) 3, 5) := by decide +kernel
theorem w7_5 : appendD (w7 abcde 2 true (-1) 3) ⟨#[71]⟩ ⟨#[]⟩ = (w7 abcde 2 true (-1) 3, 1) := by decide +kernel
theorem w7_6 : readD (w7 abcde 2 true (-1) 3) ⟨#[102]⟩ = (abcde, 0) := by decide +kernel
theorem w7_8 : removeD (w7 abcde 2 true 0 3) ⟨#[102]⟩ = (w7 abcde 2 false (-1) 4, 9) := by decide +kernel
theorem w7_9 : upD (w7 abcde 2 false (-1) 4) [1] = w7 abc 3 true (-1) 4 := by decide +kernel
theorem w7_10 : readD (w7 abc 3 true (-1) 4) ⟨#[102]⟩ = (abc, 0) := by decide +kernel
theorem rd_box {W : World} {b : Nat} {cs : Array Value} {T : TypeId} (h : W.heap[b]? = some (.cells cs T (0, 0))) : Rd W W.heap.size (some ⟨b, 0, none⟩) cs.toList := fun j u hj => by
  refine ⟨_, rfl, bx_lt h, ?_⟩
  rw [fl_add_0, cell_of_row _ _ _ cs T _ h]
  simpa using hj

end Go.Proofs.YtabccphcoojbjaaDoor

namespace Go.Proofs.YtabccphcoojbjaaDoor
open Go.ChangeShapes Go.WideShapes Go.ChangeAt Go.RowKit Go.Deep DiskP


/-- as Appended, with all that is as it was -/
structure Appended2 (base : Nat) (e : TypeId) (size : Nat) (W : World) (v : Value) (n : Nat) (xs : List Value) (cs : Array Value) (g cap : Nat) (w' : World) : Prop where
  own : w'.ownsRow base e size (.slice (some ⟨g, 0, none⟩) (n + 1) cap) (n + 1) (xs ++ cs.toList)
  gb : W.grownBy w' v.ownBlock
  fresh : v.ownBlock = some g ∨ W.heap.size ≤ g
  lt : g < w'.heap.size
theorem wpList_append_two {P : Program} {ops : Array Oper} {rest : List Oper} {o : Oper} {a : Act} {Q : Exit → Act → World → Prop} (hgd : o.guard = none) (s x : Operand) (t : TypeId)
    (ho : o.op = .call { callee := .builtin .append, args := #[s, x], argTypes := #[t, t] })
    (base : Nat) (e : TypeId) (i : TypeInfo) (z : Value) (size bytes : Nat) (ht : P.underlying t = some (.slice e)) (hi : P.info? e = some i) (hz : i.zero = some z)
    (hsize : i.size = size) (hby : i.bytes = bytes) (hzs : z.cells.size = size) (hsz : 0 < size) (hb200 : bytes ≤ 200)
    (v : Value) (n : Nat) (xs : List Value) (hs : a.eval s = v) (W : World) (hown : W.ownsRow base e size v n xs) (cs : Array Value) (H : Nat) (hH : W.heap.size = H) (hx : a.eval x = .slice (some ⟨H, 0, none⟩) 1 1)
    (hcs : cs.size = size) (h1 : ∀ u ∈ cs.toList, u.oneCell' = true) (hn : n < 100000000) (hbase : base ≤ W.heap.size)
    (h : ∀ g cap w', Appended2 base e size W v n xs cs g cap w' → wpList P ops Q rest (a.put o.dst (.slice (some ⟨g, 0, none⟩) (n + 1) cap)) w') :
    wpList P ops Q (o :: rest) a (W.alloc (.cells cs e)) := by
  subst hH
  refine wpList_append_lies (W.alloc (.cells cs e)) hgd s x t ho base e i z size bytes ht hi hz hsize hby hzs hsz v n xs hs (hown.alloc _) ⟨W.heap.size, 0, none⟩ 1 1 cs.toList hx
    (by simp [hcs]) (World.news_of_block (heap_alloc_new W _)) h1 (by omega) (by simp only [maxLen]; omega) ?_ (by simp; omega) (W.heap.size + 1) (by simp) ?_
  · have : (n + 1) * bytes ≤ 100000000 * 200 := Nat.mul_le_mul (by omega) hb200
    omega
  · intro g cap w' hown' hgrow hf hlt
    refine h g cap w' ⟨hown', ⟨hgrow.os, hgrow.tape, hgrow.output, by have := hgrow.size; rw [World.size_alloc] at this; omega, fun k hk hne => ?_⟩, ?_, hlt⟩
    · exact (hgrow.block k (by rw [World.size_alloc]; omega) hne).trans (heap_alloc_old W _ hk)
    · rcases hf with hf | hf
      · exact .inl hf
      · exact .inr (by omega)
theorem str_ne {a b : ByteArray} (h : a ≠ b) : (a.toList == b.toList) = false := by
  rw [beq_eq_false_iff_ne, Lib.toList_data, Lib.toList_data]
  intro e
  apply h
  obtain ⟨⟨a⟩⟩ := a
  obtain ⟨⟨b⟩⟩ := b
  simp only at e
  rw [e]
theorem own_at {w w' : World} {base n sz : Nat} {e : TypeId} {v : Value} {xs : List Value} (h : w.ownsRow base e sz v n xs) (hk : ∀ g, v.ownBlock = some g → w'.heap[g]? = w.heap[g]?) : w'.ownsRow base e sz v n xs := by
  refine ⟨h.1, ?_⟩
  rcases h.2 with hn | ⟨g, cap, cur, rfl, hb, hgg, rest⟩
  · exact .inl hn
  · exact .inr ⟨g, cap, cur, rfl, hb, (hk g rfl).trans hgg, rest⟩
/-- the type of the block that is owned -/
theorem own_type {w : World} {base n sz : Nat} {e : TypeId} {v : Value} {xs : List Value} (h : w.ownsRow base e sz v n xs) {g : Nat} (hg : v.ownBlock = some g) : ∃ cur, w.heap[g]? = some (.cells cur e (0, 0)) := by
  rcases h.2 with ⟨rfl, _⟩ | ⟨g', cap, cur, rfl, hb, hgg, rest⟩
  · simp [Value.ownBlock] at hg
  · obtain rfl : g' = g := by simpa [Value.ownBlock] using hg
    exact ⟨cur, hgg⟩
/-- what turns just block d, and rows of one type behind it -/
structure TKeep (T : TypeId) (d : Nat) (w w' : World) : Prop where
  below : Below d w w'
  others : ∀ b, d < b → b < w.heap.size → (∀ cs z, w.heap[b]? ≠ some (.cells cs T z)) → w'.heap[b]? = w.heap[b]?
theorem TKeep.refl (T : TypeId) (d : Nat) (w : World) : TKeep T d w w := ⟨Below.refl _ _, fun _ _ _ _ => rfl⟩
theorem TKeep.trans {T : TypeId} {d : Nat} {a b c : World} (h : TKeep T d a b) (k : TKeep T d b c) : TKeep T d a c :=
  ⟨h.below.trans k.below, fun x hx hs ht => by
    have h1 := h.others x hx hs ht
    rw [k.others x hx (Nat.lt_of_lt_of_le hs h.below.size) (by rw [h1]; exact ht), h1]⟩
theorem TKeep.of_below {T : TypeId} {d : Nat} {w w' : World} (h : Below w.heap.size w w') (hd : d ≤ w.heap.size) : TKeep T d w w' := ⟨h.mono hd, fun b _ hs _ => h.block b hs⟩
theorem TKeep.set {T : TypeId} {w : World} {d j : Nat} (u : Value) : TKeep T d w (w.setCell ⟨d, j, none⟩ u) :=
  ⟨(Below.refl d w).setCell (p := ⟨d, j, none⟩) (Nat.le_refl _) u, fun b hb _ _ => heap_setCell_other w ⟨d, j, none⟩ b u (by show b ≠ d; omega)⟩
theorem TKeep.grown {T : TypeId} {d n sz : Nat} {w w' : World} {v : Value} {xs : List Value} (ho : w.ownsRow (d + 1) T sz v n xs) (hg : w.grownBy w' v.ownBlock) (hd : d ≤ w.heap.size) : TKeep T d w w' := by
  refine ⟨(Below.refl d w).grown hg hd (fun k e => by have := (ho.lt k e).1; omega), fun b hb hs ht => hg.block b hs (fun e => ?_)⟩
  obtain ⟨cur, hc⟩ := own_type ho e.symm
  exact ht _ _ hc

/-- the first bytes of a name that must be there -/
def getL (L : List (ByteArray × ByteArray)) (nm : ByteArray) : ByteArray := match L.find? (fun p => decide (p.1 = nm)) with
  | some p => p.2
  | none => ⟨#[]⟩
def dropL (L : List (ByteArray × ByteArray)) (nm : ByteArray) : List (ByteArray × ByteArray) := L.filter (fun p => decide (p.1 ≠ nm))
theorem find_no {L : List (ByteArray × ByteArray)} {nm : ByteArray} (h : ∀ p ∈ L, p.1 ≠ nm) : getL L nm = ⟨#[]⟩ := by
  unfold getL
  rw [List.find?_eq_none.2 (fun p hp => by simpa using h p hp)]
theorem find_yes {L : List (ByteArray × ByteArray)} {nm : ByteArray} {k : Nat} {p : ByteArray × ByteArray} (hk : L[k]? = some p) (hp : p.1 = nm) (h : ∀ q ∈ L.take k, q.1 ≠ nm) : getL L nm = p.2 := by
  unfold getL
  obtain ⟨h1, h2⟩ := List.getElem?_eq_some_iff.1 hk
  have e : L = L.take k ++ p :: L.drop (k + 1) := by rw [← h2, ← List.drop_eq_getElem_cons h1, List.take_append_drop]
  rw [e, List.find?_append, List.find?_eq_none.2 (fun q hq => by simpa using h q hq), List.find?_cons_of_pos (by simpa using hp)]
  rfl
theorem drop_len (L : List (ByteArray × ByteArray)) (nm : ByteArray) : (dropL L nm).length ≤ L.length := List.length_filter_le _ _
theorem drop_snoc (L : List (ByteArray × ByteArray)) (nm : ByteArray) (p : ByteArray × ByteArray) : dropL (L ++ [p]) nm = if p.1 = nm then dropL L nm else dropL L nm ++ [p] := by
  unfold dropL
  rw [List.filter_append]
  split
  · rename_i h; simp [h]
  · rename_i h; simp [h]
theorem Rd.ownAt {w : World} {base n c : Nat} {A : Option Addr} {e : TypeId} {l : List (ByteArray × ByteArray)} {f : ByteArray × ByteArray → Value} (h : w.ownsRow base e 1 (.slice A n c) n (l.map f)) {k : Nat} {p : ByteArray × ByteArray} (hk : l[k]? = some p) :
    ∃ ad, A = some ad ∧ ad.block < w.heap.size ∧ w.cell? (ad.add k) = some (f p) := Rd.own h k (f p) (by rw [List.getElem?_map, hk]; rfl)

end Go.Proofs.YtabccphcoojbjaaDoor

namespace Go.Proofs.YtabccphcoojbjaaDoor
open Go.ChangeShapes Go.WideShapes Go.ChangeAt Go.RowKit Go.Deep DiskP


/-- two rows that grow together, apart -/
structure Two (B : Nat) (v1 v2 : Value) (M : List (ByteArray × ByteArray)) (w : World) : Prop where
  a : w.ownsRow B 9 1 v1 M.length (M.map fun p => Value.string p.1)
  b : w.ownsRow B 9 1 v2 M.length (M.map fun p => Value.string p.2)
  apart : ∀ g, v1.ownBlock = some g → v2.ownBlock ≠ some g
theorem Two.b_after {B g cap : Nat} {v1 v2 : Value} {M : List (ByteArray × ByteArray)} {w w1 : World} {cs : Array Value} (h : Two B v1 v2 M w) (hA : Appended2 B 9 1 w v1 M.length (M.map fun p => Value.string p.1) cs g cap w1) :
    w1.ownsRow B 9 1 v2 M.length (M.map fun p => Value.string p.2) ∧ v2.ownBlock ≠ some g := by
  refine ⟨h.b.kept hA.gb ?_, fun e => ?_⟩
  · cases he : v2.ownBlock with
    | none => exact .inl rfl
    | some x => exact .inr fun e => h.apart x e.symm he
  · rcases hA.fresh with hf | hf
    · exact h.apart g hf e
    · have := (h.b.lt g e).2; omega
theorem Two.next {B g1 g2 cap1 cap2 : Nat} {v1 v2 : Value} {M : List (ByteArray × ByteArray)} {w w1 w2 : World} {x1 x2 : ByteArray} (h : Two B v1 v2 M w)
    (hA : Appended2 B 9 1 w v1 M.length (M.map fun p => Value.string p.1) #[.string x1] g1 cap1 w1) (hB : Appended2 B 9 1 w1 v2 M.length (M.map fun p => Value.string p.2) #[.string x2] g2 cap2 w2) :
    Two B (.slice (some ⟨g1, 0, none⟩) (M.length + 1) cap1) (.slice (some ⟨g2, 0, none⟩) (M.length + 1) cap2) (M ++ [(x1, x2)]) w2 := by
  obtain ⟨_, hne⟩ := h.b_after hA
  refine ⟨?_, ?_, ?_⟩
  · have := hA.own.kept hB.gb (.inr (by show some g1 ≠ v2.ownBlock; exact fun e => hne e.symm))
    simpa using this
  · simpa using hB.own
  · intro g e1 e2
    have e1' : g1 = g := by simpa [Value.ownBlock] using e1
    have e2' : g2 = g := by simpa [Value.ownBlock] using e2
    subst e1'
    rcases hB.fresh with hf | hf
    · rw [hf] at hne; exact hne (by rw [e2'])
    · have := hA.lt; omega
theorem own_mono {w : World} {base base' n sz : Nat} {e : TypeId} {v : Value} {xs : List Value} (h : w.ownsRow base e sz v n xs) (hb : base' ≤ base) : w.ownsRow base' e sz v n xs := by
  refine ⟨h.1, ?_⟩
  rcases h.2 with hn | ⟨g, cap, cur, h1, h2, h3⟩
  · exact .inl hn
  · exact .inr ⟨g, cap, cur, h1, by omega, h3⟩
theorem app_below {B g cap n b0 : Nat} {v : Value} {xs : List Value} {e : TypeId} {w w1 W : World} {cs : Array Value} (hb : Below b0 W w) (h0 : w.ownsRow B e 1 v n xs) (hB : b0 ≤ B) (hs : b0 ≤ w.heap.size) (hA : Appended2 B e 1 w v n xs cs g cap w1) : Below b0 W w1 :=
  hb.grown hA.gb hs (fun k e => by have := (h0.lt k e).1; omega)

end Go.Proofs.YtabccphcoojbjaaDoor

namespace Go.Proofs.YtabccphcoojbjaaDoor
open Go.ChangeShapes Go.WideShapes Go.ChangeAt Go.RowKit Go.Deep DiskP


def cutN (G : ByteArray) (n : Int) : Nat := (max 0 (min (G.size : Int) n)).toNat
def noteL (S : DS) (L : List (ByteArray × ByteArray)) (x : Ac) : List (ByteArray × ByteArray) :=
  if x.kind = 2 then dropL L x.nm ++ [(x.nm, (readD S x.nm).1)]
  else if x.kind = 3 then dropL (dropL L x.nm) x.to_ ++ [(x.to_, getL L x.nm)]
  else if x.kind = 4 then dropL L x.nm
  else dropL L x.nm ++ [(x.nm, (getL L x.nm).extract 0 (cutN (getL L x.nm) x.n))]
theorem noteL_len (S : DS) (L : List (ByteArray × ByteArray)) (x : Ac) : (noteL S L x).length ≤ L.length + 1 := by
  have h1 := drop_len L x.nm
  have h2 := drop_len (dropL L x.nm) x.to_
  unfold noteL
  split
  · simp; omega
  · split
    · simp; omega
    · split
      · omega
      · simp; omega
theorem tkeep_box {T : TypeId} {s : Nat} {w w' : World} (h : TKeep T s w w') {b : Nat} {cs : Array Value} {U : TypeId} (hb : w.heap[b]? = some (.cells cs U (0, 0))) (hd : b ≠ s) (hT : U ≠ T) : w'.heap[b]? = some (.cells cs U (0, 0)) := by
  rcases Nat.lt_or_ge b s with h1 | h1
  · exact (h.below.block b h1).trans hb
  · exact (h.others b (by omega) (bx_lt hb) (fun cs' z e => by rw [hb] at e; simp at e; exact hT e.2.1)).trans hb

end Go.Proofs.YtabccphcoojbjaaDoor

namespace Go.Proofs.YtabccphcoojbjaaDoor
open Go.ChangeShapes Go.WideShapes Go.ChangeAt Go.RowKit Go.Deep DiskP


theorem ba_ext {a b : ByteArray} (h : a.data = b.data) : a = b := by
  cases a; cases b; simp only at h; rw [h]
theorem ex_app (a s : ByteArray) (n : Nat) (h : n ≤ a.size) : (a ++ s).extract 0 n = a.extract 0 n := by
  apply ba_ext
  rw [ByteArray.data_extract, ByteArray.data_extract, ByteArray.data_append, Array.extract_append]
  have e : n - a.size = 0 := by omega
  simp [e]
theorem ex_ex (a : ByteArray) (q n : Nat) (h : n ≤ q) : (a.extract 0 q).extract 0 n = a.extract 0 n := by
  rw [ByteArray.extract_extract]
  congr 1 <;> omega
/-- the file's first bytes, as far as they are sure, begin with b -/
def Keeps (f : Fl) (b : ByteArray) : Prop := b.size ≤ f.su ∧ f.all.extract 0 b.size = b
def SureF (fs : List Fl) (L : List (ByteArray × ByteArray)) : Prop := ∀ p ∈ L, ∃ f ∈ fs, f.nm = p.1 ∧ Keeps f p.2
theorem keeps_nil (f : Fl) : Keeps f ⟨#[]⟩ := ⟨Nat.zero_le _, by
  apply ba_ext
  rw [ByteArray.data_extract]
  show f.all.data.extract 0 0 = #[]
  simp⟩
theorem keeps_app {f : Fl} {b : ByteArray} (h : Keeps f b) (hs : f.su ≤ f.all.size) (s : ByteArray) : Keeps { f with all := f.all ++ s } b :=
  ⟨h.1, by
    have := h.1
    rw [ex_app _ _ _ (by omega)]; exact h.2⟩
theorem keeps_sync {f : Fl} {b : ByteArray} (h : Keeps f b) (hs : f.su ≤ f.all.size) : Keeps { f with su := f.all.size } b := ⟨Nat.le_trans h.1 hs, h.2⟩
theorem keeps_all (f : Fl) : Keeps { f with su := f.all.size } f.all := ⟨Nat.le_refl _, by simp⟩
theorem keeps_cut {f : Fl} {b : ByteArray} (h : Keeps f b) {m n : Nat} (h1 : m ≤ n) (h2 : m ≤ b.size) : Keeps (cutFl n f) (b.extract 0 m) := by
  have e : (b.extract 0 m).size = m := by rw [ByteArray.size_extract]; omega
  have := h.1
  refine ⟨by rw [e]; unfold cutFl; simp only; omega, ?_⟩
  rw [e]
  unfold cutFl
  simp only
  rw [ex_ex _ _ _ h1, ← h.2, ex_ex _ _ _ h2]
theorem keeps_up {f : Fl} {b : ByteArray} (h : Keeps f b) (ks : List Int) : Keeps (upOne f ks).1 b := by
  have := h.1
  unfold upOne
  split
  · exact h
  · split
    · exact ⟨h.1, by simp only; rw [ex_ex _ _ _ h.1]; exact h.2⟩
    · exact ⟨by simp only; omega, by simp only; rw [ex_ex _ _ _ (by omega)]; exact h.2⟩
theorem mem_at {fs : List Fl} {f : Fl} (h : f ∈ fs) : ∃ k : Nat, fs[k]? = some f := by
  obtain ⟨k, hk, e⟩ := List.getElem_of_mem h
  exact ⟨k, by rw [List.getElem?_eq_getElem hk, e]⟩
/-- a file is found where its name is sought -/
theorem file_at {fs : List Fl} (hs : Sorted fs) {f : Fl} (h : f ∈ fs) : fs[pos fs f.nm]? = some f ∧ has fs f.nm = true := by
  obtain ⟨k, hk⟩ := mem_at h
  have hp : pos fs f.nm = k := pos_uniq (by have := (List.getElem?_eq_some_iff.1 hk).1; omega) (fun j g hj hg => sorted_lt hs hj hg hk) (fun g hg => by rw [hk] at hg; obtain rfl := Option.some.inj hg; rw [cmpN_self]; omega)
  exact ⟨by rw [hp]; exact hk, (has_iff hs f.nm).2 ⟨f, h, rfl⟩⟩
theorem set_self {fs : List Fl} {p : Nat} {f : Fl} (h : fs[p]? = some f) (g : Fl) : g ∈ fs.set p g :=
  List.mem_of_getElem? (i := p) (by rw [List.getElem?_set_self (List.getElem?_eq_some_iff.1 h).1])
theorem set_other {fs : List Fl} {p : Nat} {f x : Fl} (h : fs[p]? = some f) (hx : x ∈ fs) (hne : x.nm ≠ f.nm) (g : Fl) : x ∈ fs.set p g := by
  obtain ⟨k, hk⟩ := mem_at hx
  have hkp : p ≠ k := fun e => by
    subst e
    rw [h] at hk
    obtain rfl := Option.some.inj hk
    exact hne rfl
  exact List.mem_of_getElem? (i := k) (by rw [List.getElem?_set_ne hkp]; exact hk)
theorem mem_modF {fs : List Fl} (hs : Sorted fs) {nm : ByteArray} (hh : has fs nm = true) (t : Fl → Fl) {f : Fl} (hf : f ∈ fs) : (f.nm = nm → t f ∈ modF fs nm t) ∧ (f.nm ≠ nm → f ∈ modF fs nm t) := by
  obtain ⟨g, hg, hn⟩ := has_some hh
  unfold modF
  rw [hg]
  simp only
  refine ⟨fun e => ?_, fun e => set_other hg hf (by rw [hn]; exact e) _⟩
  subst e
  have := (file_at hs hf).1
  rw [hg] at this
  obtain rfl := Option.some.inj this
  exact set_self hg _
theorem mem_delF {fs : List Fl} {nm : ByteArray} {f : Fl} (hf : f ∈ fs) (hne : f.nm ≠ nm) : f ∈ delF fs nm := by
  cases hh : has fs nm with
  | false => unfold delF; rw [if_neg (by simp [hh])]; exact hf
  | true =>
    obtain ⟨g, hg, hn⟩ := has_some hh
    obtain ⟨k, hk⟩ := mem_at hf
    have hkp : pos fs nm ≠ k := fun e => by
      rw [e, hk] at hg
      obtain rfl := Option.some.inj hg
      exact hne hn
    unfold delF
    rw [if_pos hh]
    rcases Nat.lt_or_ge k (pos fs nm) with h1 | h1
    · exact List.mem_append_left _ (List.mem_of_getElem? (i := k) (by rw [List.getElem?_take, if_pos h1]; exact hk))
    · exact List.mem_append_right _ (List.mem_of_getElem? (i := k - (pos fs nm + 1)) (by rw [List.getElem?_drop]; rw [← hk]; congr 1; omega))
theorem mem_ins {l : List Fl} {x f : Fl} {p : Nat} (h : x ∈ l) : x ∈ l.take p ++ f :: l.drop p := by
  rw [← List.take_append_drop p l] at h
  rcases List.mem_append.1 h with h | h
  · exact List.mem_append_left _ h
  · exact List.mem_append_right _ (List.mem_cons_of_mem _ h)
theorem mem_putF {fs : List Fl} {nm s : ByteArray} {f : Fl} (hf : f ∈ fs) : f ∈ putF fs nm s ∨ { f with all := f.all ++ s } ∈ putF fs nm s := by
  cases hh : has fs nm with
  | true =>
    obtain ⟨g, hg, hn⟩ := has_some hh
    have e : putF fs nm s = fs.set (pos fs nm) { g with all := g.all ++ s } := by unfold putF; rw [hg]; simp [hh]
    rw [e]
    obtain ⟨k, hk⟩ := mem_at hf
    by_cases hkp : pos fs nm = k
    · rw [hkp, hk] at hg
      obtain rfl := Option.some.inj hg
      exact .inr (by rw [hkp]; exact set_self hk _)
    · exact .inl (List.mem_of_getElem? (i := k) (by rw [List.getElem?_set_ne hkp]; exact hk))
  | false =>
    have e : putF fs nm s = fs.take (pos fs nm) ++ ⟨nm, ⟨#[]⟩ ++ s, 0⟩ :: fs.drop (pos fs nm) := by unfold putF; split <;> simp [hh]
    rw [e]
    exact .inl (mem_ins hf)
theorem mem_renF {fs : List Fl} {fr to_ : ByteArray} {f : Fl} (hf : f ∈ fs) (h1 : f.nm ≠ fr) (h2 : f.nm ≠ to_) : f ∈ renF fs fr to_ := by
  unfold renF
  exact mem_ins (mem_delF (mem_delF hf h1) h2)
theorem new_renF (fs : List Fl) (fr to_ : ByteArray) : { fileF fs fr with nm := to_ } ∈ renF fs fr to_ := by
  unfold renF
  simp
theorem mem_upL (fs : List Fl) (ks : List Int) : ∀ f ∈ fs, ∃ r, (upOne f r).1 ∈ (upL fs ks).1 := by
  induction fs using RankP.snoc_ind with
  | h0 => intro f hf; simp at hf
  | h1 l x ih =>
    intro f hf
    rw [upL_snoc]
    rcases List.mem_append.1 hf with hf | hf
    · obtain ⟨r, hr⟩ := ih f hf
      exact ⟨r, List.mem_append_left _ hr⟩
    · obtain rfl : f = x := by simpa using hf
      exact ⟨_, List.mem_append_right _ (List.mem_singleton.2 rfl)⟩
theorem upOne_nm (f : Fl) (r : List Int) : (upOne f r).1.nm = f.nm := by
  unfold upOne
  split
  · rfl
  · split <;> rfl
/-- what is read of a file that is there -/
theorem read_at {S : DS} (hs : Sorted S.fs) (hon : S.on = true) {f : Fl} (h : f ∈ S.fs) : readD S f.nm = (f.all, 0) := by
  obtain ⟨h1, h2⟩ := file_at hs h
  unfold readD
  rw [if_neg (by simp [hon]), h1]
  simp [h2]
theorem getL_sure {fs : List Fl} {L : List (ByteArray × ByteArray)} (h : SureF fs L) {nm : ByteArray} {f : Fl} (hs : Sorted fs) (hf : f ∈ fs) (hn : f.nm = nm) : Keeps f (getL L nm) := by
  unfold getL
  cases hp : L.find? (fun p => decide (p.1 = nm)) with
  | none => exact keeps_nil f
  | some p =>
    have h1 : p.1 = nm := by simpa using List.find?_some hp
    obtain ⟨g, hg, e, k⟩ := h p (List.mem_of_find?_eq_some hp)
    have q1 := (file_at hs hg).1
    have q2 := (file_at hs hf).1
    rw [e, h1, ← hn, q2] at q1
    obtain rfl := Option.some.inj q1
    exact k
theorem dropL_mem {L : List (ByteArray × ByteArray)} {nm : ByteArray} {p : ByteArray × ByteArray} (h : p ∈ dropL L nm) : p ∈ L ∧ p.1 ≠ nm := by
  unfold dropL at h
  simpa using h
theorem opD_cases (S : DS) (t : List Fl → List Fl) (hon : S.on = true) : ((opD S t).2 = 9 ∧ (opD S t).1.fs = S.fs) ∨ ((opD S t).2 = 0 ∧ (opD S t).1.fs = t S.fs ∧ (opD S t).1.on = true) := by
  unfold opD
  split
  · exact .inl ⟨rfl, (blow_fs S).1⟩
  · rename_i hb
    refine .inr ⟨rfl, rfl, ?_⟩
    show (blow S).1.on = true
    unfold blow at hb ⊢
    split
    · exact hon
    · split
      · rename_i h1 h2
        rw [if_neg h1, if_pos h2] at hb
        exact absurd rfl hb
      · exact hon
theorem actD_sure {S : DS} {L : List (ByteArray × ByteArray)} (hs : Sorted S.fs) (hsu : ∀ f ∈ S.fs, f.su ≤ f.all.size) (h : SureF S.fs L) (x : Ac) :
    ((actD S x).2 = 0 → 2 ≤ x.kind → x.kind ≤ 5 → SureF (actD S x).1.fs (noteL (actD S x).1 L x)) ∧ (¬ ((actD S x).2 = 0 ∧ 2 ≤ x.kind ∧ x.kind ≤ 5) → SureF (actD S x).1.fs L) := by
  have same : ∀ T : DS, T.fs = S.fs → SureF T.fs L := fun T e => by rw [e]; exact h
  obtain ⟨kind, nm, to_, s, n, Ak, ck, ks⟩ := x
  unfold actD
  simp only
  by_cases e1 : kind = 1
  · subst e1
    rw [if_pos rfl]
    refine ⟨fun _ h2 => by omega, fun _ => ?_⟩
    unfold appendD
    split
    · exact h
    · split
      · exact h
      · split
        · exact h
        · intro p hp
          obtain ⟨f, hf, e, k⟩ := h p hp
          have eb : (begun { S with fs := putF S.fs nm s }).1.fs = putF S.fs nm s := (blow_fs _).1
          rw [eb]
          rcases mem_putF (nm := nm) (s := s) hf with hm | hm
          · exact ⟨f, hm, e, k⟩
          · exact ⟨_, hm, e, keeps_app k (hsu f hf) s⟩
  rw [if_neg e1]
  by_cases e2 : kind = 2
  · subst e2
    rw [if_pos rfl]
    unfold syncD
    split
    · exact ⟨fun h0 => by simp at h0, fun _ => h⟩
    · rename_i hon
      split
      · exact ⟨fun h0 => by simp at h0, fun _ => h⟩
      · rename_i hh
        have hh' : has S.fs nm = true := by simpa using hh
        rcases opD_cases S (fun fs => modF fs nm fun f => { f with su := f.all.size }) (by simpa using hon) with ⟨c1, c2⟩ | ⟨c1, c2, c3⟩
        · rw [c1]; exact ⟨fun h0 => by simp at h0, fun _ => same _ c2⟩
        · refine ⟨fun _ _ _ => ?_, fun hc => absurd ⟨c1, by decide, by decide⟩ hc⟩
          have key := fun f hf => mem_modF hs hh' (fun f => { f with su := f.all.size }) (f := f) hf
          have hfs : SureF (opD S fun fs => modF fs nm fun f => { f with su := f.all.size }).1.fs L := by
            rw [c2]
            intro p hp
            obtain ⟨f, hf, e, k⟩ := h p hp
            by_cases hn : f.nm = nm
            · exact ⟨_, (key f hf).1 hn, e, keeps_sync k (hsu f hf)⟩
            · exact ⟨f, (key f hf).2 hn, e, k⟩
          obtain ⟨g, hg, hgn⟩ := (has_iff hs nm).1 hh'
          unfold noteL
          rw [if_pos rfl]
          intro p hp
          rcases List.mem_append.1 hp with hp | hp
          · exact hfs p (dropL_mem hp).1
          · obtain rfl := List.mem_singleton.1 hp
            have hm : { g with su := g.all.size } ∈ (opD S fun fs => modF fs nm fun f => { f with su := f.all.size }).1.fs := by rw [c2]; exact (key g hg).1 hgn
            refine ⟨_, hm, hgn, ?_⟩
            have hsort : Sorted (opD S fun fs => modF fs nm fun f => { f with su := f.all.size }).1.fs := by
              rw [c2]
              unfold modF
              split
              · rename_i f hf; exact sorted_of_names hs (names_set hf rfl)
              · exact hs
            have hr := read_at hsort c3 hm
            simp only at hr ⊢
            rw [hgn] at hr
            rw [hr]
            exact keeps_all g
  rw [if_neg e2]
  by_cases e3 : kind = 3
  · subst e3
    rw [if_pos rfl]
    unfold renameD
    split
    · exact ⟨fun h0 => by simp at h0, fun _ => h⟩
    · rename_i hon
      split
      · exact ⟨fun h0 => by simp at h0, fun _ => h⟩
      · rename_i hh
        have hh' : has S.fs nm = true := by simpa using hh
        split
        · exact ⟨fun h0 => by simp at h0, fun _ => h⟩
        · rcases opD_cases S (fun fs => renF fs nm to_) (by simpa using hon) with ⟨c1, c2⟩ | ⟨c1, c2, c3⟩
          · rw [c1]; exact ⟨fun h0 => by simp at h0, fun _ => same _ c2⟩
          · refine ⟨fun _ _ _ => ?_, fun hc => absurd ⟨c1, by decide, by decide⟩ hc⟩
            rw [c2]
            unfold noteL
            rw [if_neg (by simp), if_pos rfl]
            intro p hp
            rcases List.mem_append.1 hp with hp | hp
            · obtain ⟨hp1, hp2⟩ := dropL_mem hp
              obtain ⟨hp3, hp4⟩ := dropL_mem hp1
              obtain ⟨f, hf, e, k⟩ := h p hp3
              simp only at hp2 hp4
              exact ⟨f, mem_renF hf (by rw [e]; exact hp4) (by rw [e]; exact hp2), e, k⟩
            · obtain rfl := List.mem_singleton.1 hp
              obtain ⟨g, hg, hgn⟩ := (has_iff hs nm).1 hh'
              have hfile : fileF S.fs nm = g := by
                have := (file_at hs hg).1
                rw [hgn] at this
                unfold fileF; rw [this]; simp [hh']
              have hm := new_renF S.fs nm to_
              rw [hfile] at hm
              have hk := getL_sure h hs hg hgn
              exact ⟨_, hm, rfl, hk⟩
  rw [if_neg e3]
  by_cases e4 : kind = 4
  · subst e4
    rw [if_pos rfl]
    unfold removeD
    split
    · exact ⟨fun h0 => by simp at h0, fun _ => h⟩
    · rename_i hon
      split
      · exact ⟨fun h0 => by simp at h0, fun _ => h⟩
      · rcases opD_cases S (fun fs => delF fs nm) (by simpa using hon) with ⟨c1, c2⟩ | ⟨c1, c2, c3⟩
        · rw [c1]; exact ⟨fun h0 => by simp at h0, fun _ => same _ c2⟩
        · refine ⟨fun _ _ _ => ?_, fun hc => absurd ⟨c1, by decide, by decide⟩ hc⟩
          rw [c2]
          unfold noteL
          rw [if_neg (by simp), if_neg (by simp), if_pos rfl]
          intro p hp
          obtain ⟨hp1, hp2⟩ := dropL_mem hp
          obtain ⟨f, hf, e, k⟩ := h p hp1
          exact ⟨f, mem_delF hf (by rw [e]; exact hp2), e, k⟩
  rw [if_neg e4]
  by_cases e5 : kind = 5
  · subst e5
    rw [if_pos rfl]
    unfold cutD
    split
    · exact ⟨fun h0 => by simp at h0, fun _ => h⟩
    · rename_i hon
      split
      · exact ⟨fun h0 => by simp at h0, fun _ => h⟩
      · rename_i hh
        have hh' : has S.fs nm = true := by simpa using hh
        split
        · exact ⟨fun h0 => by simp at h0, fun _ => h⟩
        · rename_i hn0
          rcases opD_cases S (fun fs => modF fs nm (cutFl n.toNat)) (by simpa using hon) with ⟨c1, c2⟩ | ⟨c1, c2, c3⟩
          · rw [c1]; exact ⟨fun h0 => by simp at h0, fun _ => same _ c2⟩
          · refine ⟨fun _ _ _ => ?_, fun hc => absurd ⟨c1, by decide, by decide⟩ hc⟩
            rw [c2]
            have key := fun f hf => mem_modF hs hh' (cutFl n.toNat) (f := f) hf
            obtain ⟨g, hg, hgn⟩ := (has_iff hs nm).1 hh'
            unfold noteL
            rw [if_neg (by simp), if_neg (by simp), if_neg (by simp)]
            intro p hp
            rcases List.mem_append.1 hp with hp | hp
            · obtain ⟨hp1, hp2⟩ := dropL_mem hp
              obtain ⟨f, hf, e, k⟩ := h p hp1
              exact ⟨f, (key f hf).2 (by rw [e]; exact hp2), e, k⟩
            · obtain rfl := List.mem_singleton.1 hp
              refine ⟨_, (key g hg).1 hgn, hgn, ?_⟩
              have hk := getL_sure h hs hg hgn
              exact keeps_cut hk (by unfold cutN; simp only; omega) (by unfold cutN; simp only; omega)
  rw [if_neg e5]
  refine ⟨fun _ a b => by omega, fun _ => ?_⟩
  split
  · exact h
  · split
    · exact h
    · split
      · intro p hp
        obtain ⟨f, hf, e, k⟩ := h p hp
        obtain ⟨r, hr⟩ := mem_upL S.fs ks f hf
        exact ⟨_, hr, (upOne_nm f r).trans e, keeps_up k r⟩
      · exact h
end Go.Proofs.YtabccphcoojbjaaDoor
