/- Layer 7: acts that come in as a slice (each with a slice of its own): opened; are they few? · Layer 7: the law's own way to do an act · Layer 7: what must come, whatever the arguments are · Layer 7: the files of which something must be there (two slices behind one box): get, drop, set · The document's disk (layer 7): what it is in memory; New, Find, Used, Crash, crashes, Read. -/
import Derived.Test.YtcpmicinibfepaaGreatDoorWAs
import Derived.Test.YtcpmicinibfepaaGreatDoorWAj
namespace Go.Proofs.YtcpmicinibfepaaGreatDoor
open Go.ChangeShapes Go.WideShapes Go.ChangeAt Go.RowKit Go.Deep DiskP


section
variable {H : Type} {enc : TypeId × Value → H} {P : Program} {w : World} {base : Nat} {spare : Nat → Bool} {held : Bool}
/-- as open_structs, with the places that each field's own reading has -/
theorem open_structs_at {t e : TypeId} {fs : Array Field} {v : Value} {d : DataW H} {p : List MemPlace} (ht : P.underlying t = some (.slice e)) (he : P.underlying e = some (.struct fs)) (hone : oneCellFields P fs = true)
    (hC : P.cellsOf e = fs.size) (hpos : 0 < fs.size) (hcs : v.cells = #[v]) (h : DataW.Trod enc P w base spare held t v d p) (hl : ∀ x ∈ p, x.block < w.heap.size) :
    v = .slice none 0 0 ∨ ∃ a len cap, v = .slice (some a) len cap ∧ len ≤ cap ∧ cap ≤ maxLen ∧ ∀ i, i < len → a.block < w.heap.size ∧
      ∃ cs : List Value, cs.length = fs.size ∧ (∀ j, j < fs.size → w.cell? (a.add (i * fs.size + j)) = cs[j]?) ∧
        ∀ (j : Nat) (f : Field), fs[j]? = some f → ∃ (c : Value) (y : DataW H × List MemPlace) (n : Nat), cs[j]? = some c ∧ DataW.trod enc P w base spare held n f.type [c] = some y ∧ ∀ x ∈ y.2, x.block < w.heap.size := by
  obtain ⟨fuel, hf⟩ := h
  rw [hcs] at hf
  rcases open_slice ht hf with ⟨h0, _⟩ | ⟨a, len, cap, m, n, D, Pl, h0, hb, hlc, hm, hmm, hx, hall⟩
  · exact .inl (by simpa using h0)
  · right
    have hlm : len ≤ m := by rw [hmm]; split <;> omega
    refine ⟨a, len, cap, by simpa using h0, hlc, hm, fun i hi => ⟨?_, ?_⟩⟩
    · have hmp : 0 < m * P.cellsOf e := Nat.mul_pos (by omega) (by rw [hC]; exact hpos)
      refine row_block hmp (fun x hx' => hl x ?_)
      rw [(Prod.mk.inj hx).2]
      exact List.mem_append_left _ hx'
    · obtain ⟨cs', h1, h2⟩ := hall i (by omega)
      obtain ⟨_, hlen, hcell⟩ := World.cells?_some h1
      obtain ⟨xs, k, _, hxe, _, hxl, hg⟩ := DataW.trod_struct he h2
      rw [hC] at hlen hcell
      refine ⟨cs', hlen, fun j hj => (congrArg w.cell? (add_add a (i * fs.size) j).symm).trans (hcell j hj), fun j f hf => ?_⟩
      obtain ⟨o, q⟩ := hone_of hone j f hf
      have hj : j < fs.size := (Array.getElem?_eq_some_iff.1 hf).1
      have h3 := hg j f hf
      rw [o, q] at h3
      have e1 : (cs'.drop j).take 1 = [cs'[j]'(by omega)] := by
        rw [List.drop_eq_getElem_cons (show j < cs'.length by omega), List.take_succ_cons, List.take_zero]
      rw [e1, List.getElem?_eq_getElem (by omega)] at h3
      refine ⟨cs'[j]'(by omega), _, k, List.getElem?_eq_getElem (by omega), h3, fun x hx2 => hl x ?_⟩
      rw [(Prod.mk.inj hx).2]
      refine List.mem_append_right _ (List.mem_flatMap.2 ⟨i, List.mem_range.2 (by omega), ?_⟩)
      rw [(Prod.mk.inj hxe).2]
      exact List.mem_flatMap.2 ⟨_, List.getElem_mem _, hx2⟩
/-- a slice of numbers, in one cell -/
theorem open_intl_cell {t e : TypeId} {v : Value} {y : DataW H × List MemPlace} {n : Nat} (ht : P.underlying t = some (.slice e)) (he : P.underlying e = some (.int .i64)) (hc : P.cellsOf e = 1)
    (h : DataW.trod enc P w base spare held n t [v] = some y) (hl : ∀ x ∈ y.2, x.block < w.heap.size) :
    ∃ a : SlI, v = .slice a.A a.l.length a.c ∧ a.l.length ≤ a.c ∧ a.c ≤ maxLen ∧ (∀ n ∈ a.l, I64 n) ∧ Rd w w.heap.size a.A (a.l.map (Value.int .i64)) := by
  rcases open_ints ht he hc h with ⟨h1, h2⟩ | ⟨a, len, cap, zs, h1, hb, hlc, hcm, hzl, hx, hcell, hwf⟩
  · refine ⟨⟨none, 0, []⟩, by simpa using h1, by simp, by simp, by simp, Rd.nil⟩
  · have hv : v = .slice (some a) len cap := by simpa using h1
    have hlen : len ≤ zs.length := by rw [hzl]; split <;> omega
    refine ⟨⟨some a, cap, zs.take len⟩, ?_, ?_, hcm, fun n hn => I64_of_wf (hwf n (List.mem_of_mem_take hn)), fun j u hj => ?_⟩
    · rw [hv]; simp only [List.length_take, Nat.min_eq_left hlen]
    · simp only [List.length_take]; omega
    · rw [List.getElem?_map] at hj
      cases hz : (zs.take len)[j]? with
      | none => rw [hz] at hj; simp at hj
      | some n =>
        rw [hz] at hj
        obtain rfl : Value.int .i64 n = u := by simpa using hj
        obtain ⟨hjl, hn⟩ := List.getElem?_eq_some_iff.1 hz
        rw [List.length_take] at hjl
        have hjz : j < zs.length := by omega
        refine ⟨a, rfl, row_block (n := zs.length) (by omega) (by rw [hx] at hl; exact hl), ?_⟩
        rw [hcell j hjz, ← hn]
        simp [List.getD, hjz]
end
/-- a slice at A reads as acts, below block B -/
def RdA (w : World) (B : Nat) (A : Option Addr) (l : List Ac) : Prop :=
  ∀ k x, l[k]? = some x → ∃ ad, A = some ad ∧ ad.block < B ∧ w.cell? (ad.add (k * 6)) = some (.int .i64 x.kind) ∧ w.cell? ⟨(ad.add (k * 6)).block, (ad.add (k * 6)).off + 1, none⟩ = some (.string x.nm) ∧ w.cell? ⟨(ad.add (k * 6)).block, (ad.add (k * 6)).off + 2, none⟩ = some (.string x.to_)
    ∧ w.cell? ⟨(ad.add (k * 6)).block, (ad.add (k * 6)).off + 3, none⟩ = some (.string x.s) ∧ w.cell? ⟨(ad.add (k * 6)).block, (ad.add (k * 6)).off + 4, none⟩ = some (.int .i64 x.n) ∧ w.cell? ⟨(ad.add (k * 6)).block, (ad.add (k * 6)).off + 5, none⟩ = some (.slice x.Ak x.ks.length x.ck)
    ∧ Rd w B x.Ak (x.ks.map (Value.int .i64))
theorem RdA.below {w w' : World} {B : Nat} {A : Option Addr} {l : List Ac} (h : RdA w B A l) (hb : Below B w w') : RdA w' B A l := fun k x hk => by
  obtain ⟨ad, e, hlt, h0, h1, h2, h3, h4, h5, h6⟩ := h k x hk
  have hb' : ∀ a : Addr, a.block = ad.block → w'.cell? a = w.cell? a := fun a ha => hb.cell (p := a) (by rw [ha]; exact hlt)
  have hj : ∀ j, w'.cell? ⟨(ad.add (k * 6)).block, (ad.add (k * 6)).off + j, none⟩ = w.cell? ⟨(ad.add (k * 6)).block, (ad.add (k * 6)).off + j, none⟩ := fun j => hb' _ (addr_add_block ad (k * 6))
  exact ⟨ad, e, hlt, (hb' _ (addr_add_block ad (k * 6))).trans h0, (hj 1).trans h1, (hj 2).trans h2, (hj 3).trans h3, (hj 4).trans h4, (hj 5).trans h5, h6.below hb⟩
theorem RdA.more {w : World} {B B' : Nat} {A : Option Addr} {l : List Ac} (h : RdA w B A l) (hB : B ≤ B') : RdA w B' A l := fun k x hk => by
  obtain ⟨ad, e, hlt, h0, h1, h2, h3, h4, h5, h6⟩ := h k x hk
  exact ⟨ad, e, Nat.lt_of_lt_of_le hlt hB, h0, h1, h2, h3, h4, h5, h6.more hB⟩
/-- an act as it comes in -/
structure Ac.Ok (x : Ac) : Prop where
  kind : I64 x.kind
  n : I64 x.n
  nm : x.nm.size ≤ maxLen
  to_ : x.to_.size ≤ maxLen
  s : x.s.size ≤ maxLen
  ks : x.ks.length ≤ x.ck
  ck : x.ck ≤ maxLen
  all : ∀ n ∈ x.ks, I64 n
/-- a slice of acts, opened -/
structure SlA where
  A : Option Addr
  c : Nat
  l : List Ac
def SlA.Ok (a : SlA) (w : World) : Prop := a.l.length ≤ maxLen ∧ a.l.length ≤ a.c ∧ (∀ x ∈ a.l, x.Ok) ∧ RdA w w.heap.size a.A a.l
instance : Inhabited Ac := ⟨⟨0, ⟨#[]⟩, ⟨#[]⟩, ⟨#[]⟩, 0, none, 0, []⟩⟩

/-- few acts of few bytes -/
def smallA (x : Ac) : Prop := x.s.size ≤ 100 ∧ x.nm.size ≤ 100 ∧ x.to_.size ≤ 100 ∧ x.ks.length ≤ 20
def fewA (most : Nat) (l : List Ac) : Prop := l.length ≤ most ∧ ∀ x ∈ l, smallA x
theorem ataken {α : Type} (l : List α) (k : Nat) (f : α) (h : l[k]? = some f) : l.take (k + 1) = l.take k ++ [f] := by
  obtain ⟨h1, rfl⟩ := List.getElem?_eq_some_iff.1 h
  exact List.take_succ_eq_append_getElem h1
end Go.Proofs.YtcpmicinibfepaaGreatDoor

namespace Go.Proofs.YtcpmicinibfepaaGreatDoor
open Go.ChangeShapes Go.WideShapes Go.ChangeAt Go.RowKit Go.Deep DiskP


theorem disk_Append (d : Nat) (A : Option Addr) (c : Nat) (S : DS) (hS : OkD S) (nm s : ByteArray) (hnm : nm.size ≤ 1000) (hs : s.size ≤ 1000000) (w : World) (h : Dk d A c S w) :
    Calls Tryz.prog 39 #[.pointer (some ⟨d, 0, none⟩), .string nm, .string s] w (DPost d (appendD S nm s).1 (.int .i64 (appendD S nm s).2) w) := by
  by_cases hbad : S.on = false ∨ namedD nm = false ∨ S.room - (used S.fs : Int) < (s.size : Int) ∨ (has S.fs nm = false ∧ 64 ≤ S.fs.length)
  · refine (disk_Append_bad d A c S hS nm s hnm hs hbad w h).mono ?_
    rintro e w' ⟨rfl, h1, h2⟩
    exact ⟨rfl, A, c, by rw [h1]; exact h.kept h2, DKeep.of_below h2 (Nat.le_of_lt h.lt)⟩
  · have hon : S.on = true := by cases hx : S.on with
      | true => rfl
      | false => exact absurd (.inl hx) hbad
    have hn : namedD nm = true := by cases hx : namedD nm with
      | true => rfl
      | false => exact absurd (.inr (.inl hx)) hbad
    have hfit : ¬ S.room - (used S.fs : Int) < (s.size : Int) := fun hx => hbad (.inr (.inr (.inl hx)))
    have he : appendD S nm s = begun { S with fs := putF S.fs nm s } := by
      unfold appendD
      rw [if_neg (by simp [hon]), if_neg (by simp [hn]), if_neg (fun hx => hbad (.inr (.inr hx)))]
    rw [he]
    cases hh : has S.fs nm with
    | true => exact disk_Append_has d A c S hS nm s hnm hs hon hn hfit hh w h
    | false =>
      have h64 : S.fs.length < 64 := by
        have : ¬ 64 ≤ S.fs.length := fun hx => hbad (.inr (.inr (.inr ⟨hh, hx⟩)))
        omega
      exact disk_Append_new d A c S hS nm s hnm hs hon hn hfit hh h64 w h
/-- an act in memory, as a value -/
def acV (x : Ac) : Value := .agg #[.int .i64 x.kind, .string x.nm, .string x.to_, .string x.s, .int .i64 x.n, .slice x.Ak x.ks.length x.ck]

end Go.Proofs.YtcpmicinibfepaaGreatDoor

namespace Go.Proofs.YtcpmicinibfepaaGreatDoor
open Go.ChangeShapes Go.WideShapes Go.ChangeAt Go.RowKit Go.Deep DiskP


instance : DecidableEq Fl := fun a b => decidable_of_iff (a.nm = b.nm ∧ a.all = b.all ∧ a.su = b.su) (by obtain ⟨_, _, _⟩ := a; obtain ⟨_, _, _⟩ := b; simp)
instance : DecidableEq DS := fun a b => decidable_of_iff (a.fs = b.fs ∧ a.room = b.room ∧ a.made = b.made ∧ a.on = b.on ∧ a.fuse = b.fuse ∧ a.ops = b.ops) (by obtain ⟨_, _, _, _, _, _⟩ := a; obtain ⟨_, _, _, _, _, _⟩ := b; simp)
/-- the disk of the example, as it goes -/
def w7 (s : ByteArray) (su : Nat) (on : Bool) (fuse ops : Int) : DS := ⟨[⟨⟨#[102]⟩, s, su⟩], 9, true, on, fuse, ops⟩
def w0 : DS := ⟨[], 9, true, true, -1, 0⟩
def ab : ByteArray := ⟨#[97, 98]⟩
def abc : ByteArray := ⟨#[97, 98, 99]⟩
def abcde : ByteArray := ⟨#[97, 98, 99, 100, 101]⟩
theorem w0_ok : OkD w0 := ⟨by simp [w0, Sorted], by decide +kernel, by decide +kernel, by decide +kernel, by decide +kernel, by decide +kernel, by decide +kernel, by decide +kernel⟩
theorem w7_ok (s : ByteArray) (su : Nat) (on : Bool) (fuse ops : Int) (h1 : su ≤ s.size) (h2 : s.size ≤ 9) (h3 : -1 ≤ fuse ∧ fuse ≤ 100) (h4 : 0 ≤ ops ∧ ops ≤ 100) : OkD (w7 s su on fuse ops) := by
  refine ⟨by simp [w7, Sorted], by simp [w7], by simpa [w7] using h1, ?_, by simp [w7], ?_, ?_, ?_⟩
  · simp only [w7, used, List.map_cons, List.map_nil, List.sum_cons, List.sum_nil]; omega
  · simp only [w7, used, List.map_cons, List.map_nil, List.sum_cons, List.sum_nil]; omega
  · simp only [w7]; omega
  · simp only [w7]; omega
theorem w7_1 : appendD w0 ⟨#[102]⟩ ab = (w7 ab 0 true (-1) 1, 0) := by decide +kernel
theorem w7_2 : syncD (w7 ab 0 true (-1) 1) ⟨#[102]⟩ = (w7 ab 2 true (-1) 2, 0) := by decide +kernel
theorem w7_3 : appendD (w7 ab 2 true (-1) 2) ⟨#[102]⟩ ⟨#[99, 100, 101]⟩ = (w7 abcde 2 true (-1) 3, 0) := by decide +kernel
theorem w7_4 : appendD (w7 abcde 2 true (-1) 3) ⟨#[103]⟩ ⟨#[49, 50, 51, 52, 53]⟩ = (w7 abcde 2 true (-1) 3, 5) := by decide +kernel
theorem w7_5 : appendD (w7 abcde 2 true (-1) 3) ⟨#[71]⟩ ⟨#[]⟩ = (w7 abcde 2 true (-1) 3, 1) := by decide +kernel
theorem w7_6 : readD (w7 abcde 2 true (-1) 3) ⟨#[102]⟩ = (abcde, 0) := by decide +kernel
theorem w7_8 : removeD (w7 abcde 2 true 0 3) ⟨#[102]⟩ = (w7 abcde 2 false (-1) 4, 9) := by decide +kernel
theorem w7_9 : upD (w7 abcde 2 false (-1) 4) [1] = w7 abc 3 true (-1) 4 := by decide +kernel
theorem w7_10 : readD (w7 abc 3 true (-1) 4) ⟨#[102]⟩ = (abc, 0) := by decide +kernel
theorem rd_box {W : World} {b : Nat} {cs : Array Value} {T : TypeId} (h : W.heap[b]? = some (.cells cs T (0, 0))) : Rd W W.heap.size (some ⟨b, 0, none⟩) cs.toList := fun j u hj => by
  refine ⟨_, rfl, bx_lt h, ?_⟩
  rw [fl_add_0, cell_of_row _ _ _ cs T _ h]
  simpa using hj

end Go.Proofs.YtcpmicinibfepaaGreatDoor

namespace Go.Proofs.YtcpmicinibfepaaGreatDoor
open Go.ChangeShapes Go.WideShapes Go.ChangeAt Go.RowKit Go.Deep DiskP


/-- as Appended, with all that is as it was -/
structure Appended2 (base : Nat) (e : TypeId) (size : Nat) (W : World) (v : Value) (n : Nat) (xs : List Value) (cs : Array Value) (g cap : Nat) (w' : World) : Prop where
  own : w'.ownsRow base e size (.slice (some ⟨g, 0, none⟩) (n + 1) cap) (n + 1) (xs ++ cs.toList)
  gb : W.grownBy w' v.ownBlock
  fresh : v.ownBlock = some g ∨ W.heap.size ≤ g
  lt : g < w'.heap.size
theorem wpList_append_two {P : Program} {ops : Array Oper} {rest : List Oper} {o : Oper} {a : Act} {Q : Exit → Act → World → Prop} (hgd : o.guard = none) (s x : Operand) (t : TypeId)
    (ho : o.op = .call { callee := .builtin .append, args := #[s, x], argTypes := #[t, t] })
    (base : Nat) (e : TypeId) (i : TypeInfo) (z : Value) (size bytes : Nat) (ht : P.underlying t = some (.slice e)) (hi : P.info? e = some i) (hz : i.zero = some z)
    (hsize : i.size = size) (hby : i.bytes = bytes) (hzs : z.cells.size = size) (hsz : 0 < size) (hb200 : bytes ≤ 200)
    (v : Value) (n : Nat) (xs : List Value) (hs : a.eval s = v) (W : World) (hown : W.ownsRow base e size v n xs) (cs : Array Value) (H : Nat) (hH : W.heap.size = H) (hx : a.eval x = .slice (some ⟨H, 0, none⟩) 1 1)
    (hcs : cs.size = size) (h1 : ∀ u ∈ cs.toList, u.oneCell' = true) (hn : n < 100000000) (hbase : base ≤ W.heap.size)
    (h : ∀ g cap w', Appended2 base e size W v n xs cs g cap w' → wpList P ops Q rest (a.put o.dst (.slice (some ⟨g, 0, none⟩) (n + 1) cap)) w') :
    wpList P ops Q (o :: rest) a (W.alloc (.cells cs e)) := by
  subst hH
  refine wpList_append_lies (W.alloc (.cells cs e)) hgd s x t ho base e i z size bytes ht hi hz hsize hby hzs hsz v n xs hs (hown.alloc _) ⟨W.heap.size, 0, none⟩ 1 1 cs.toList hx
    (by simp [hcs]) (World.news_of_block (heap_alloc_new W _)) h1 (by omega) (by simp only [maxLen]; omega) ?_ (by simp; omega) (W.heap.size + 1) (by simp) ?_
  · have : (n + 1) * bytes ≤ 100000000 * 200 := Nat.mul_le_mul (by omega) hb200
    omega
  · intro g cap w' hown' hgrow hf hlt
    refine h g cap w' ⟨hown', ⟨hgrow.os, hgrow.tape, hgrow.output, by have := hgrow.size; rw [World.size_alloc] at this; omega, fun k hk hne => ?_⟩, ?_, hlt⟩
    · exact (hgrow.block k (by rw [World.size_alloc]; omega) hne).trans (heap_alloc_old W _ hk)
    · rcases hf with hf | hf
      · exact .inl hf
      · exact .inr (by omega)
theorem str_ne {a b : ByteArray} (h : a ≠ b) : (a.toList == b.toList) = false := by
  rw [beq_eq_false_iff_ne, Lib.toList_data, Lib.toList_data]
  intro e
  apply h
  obtain ⟨⟨a⟩⟩ := a
  obtain ⟨⟨b⟩⟩ := b
  simp only at e
  rw [e]
theorem own_at {w w' : World} {base n sz : Nat} {e : TypeId} {v : Value} {xs : List Value} (h : w.ownsRow base e sz v n xs) (hk : ∀ g, v.ownBlock = some g → w'.heap[g]? = w.heap[g]?) : w'.ownsRow base e sz v n xs := by
  refine ⟨h.1, ?_⟩
  rcases h.2 with hn | ⟨g, cap, cur, rfl, hb, hgg, rest⟩
  · exact .inl hn
  · exact .inr ⟨g, cap, cur, rfl, hb, (hk g rfl).trans hgg, rest⟩
/-- the type of the block that is owned -/
theorem own_type {w : World} {base n sz : Nat} {e : TypeId} {v : Value} {xs : List Value} (h : w.ownsRow base e sz v n xs) {g : Nat} (hg : v.ownBlock = some g) : ∃ cur, w.heap[g]? = some (.cells cur e (0, 0)) := by
  rcases h.2 with ⟨rfl, _⟩ | ⟨g', cap, cur, rfl, hb, hgg, rest⟩
  · simp [Value.ownBlock] at hg
  · obtain rfl : g' = g := by simpa [Value.ownBlock] using hg
    exact ⟨cur, hgg⟩
/-- what turns just block d, and rows of one type behind it -/
structure TKeep (T : TypeId) (d : Nat) (w w' : World) : Prop where
  below : Below d w w'
  others : ∀ b, d < b → b < w.heap.size → (∀ cs z, w.heap[b]? ≠ some (.cells cs T z)) → w'.heap[b]? = w.heap[b]?
theorem TKeep.refl (T : TypeId) (d : Nat) (w : World) : TKeep T d w w := ⟨Below.refl _ _, fun _ _ _ _ => rfl⟩
theorem TKeep.trans {T : TypeId} {d : Nat} {a b c : World} (h : TKeep T d a b) (k : TKeep T d b c) : TKeep T d a c :=
  ⟨h.below.trans k.below, fun x hx hs ht => by
    have h1 := h.others x hx hs ht
    rw [k.others x hx (Nat.lt_of_lt_of_le hs h.below.size) (by rw [h1]; exact ht), h1]⟩
theorem TKeep.of_below {T : TypeId} {d : Nat} {w w' : World} (h : Below w.heap.size w w') (hd : d ≤ w.heap.size) : TKeep T d w w' := ⟨h.mono hd, fun b _ hs _ => h.block b hs⟩
theorem TKeep.set {T : TypeId} {w : World} {d j : Nat} (u : Value) : TKeep T d w (w.setCell ⟨d, j, none⟩ u) :=
  ⟨(Below.refl d w).setCell (p := ⟨d, j, none⟩) (Nat.le_refl _) u, fun b hb _ _ => heap_setCell_other w ⟨d, j, none⟩ b u (by show b ≠ d; omega)⟩
theorem TKeep.grown {T : TypeId} {d n sz : Nat} {w w' : World} {v : Value} {xs : List Value} (ho : w.ownsRow (d + 1) T sz v n xs) (hg : w.grownBy w' v.ownBlock) (hd : d ≤ w.heap.size) : TKeep T d w w' := by
  refine ⟨(Below.refl d w).grown hg hd (fun k e => by have := (ho.lt k e).1; omega), fun b hb hs ht => hg.block b hs (fun e => ?_)⟩
  obtain ⟨cur, hc⟩ := own_type ho e.symm
  exact ht _ _ hc

/-- the first bytes of a name that must be there -/
def getL (L : List (ByteArray × ByteArray)) (nm : ByteArray) : ByteArray := match L.find? (fun p => decide (p.1 = nm)) with
  | some p => p.2
  | none => ⟨#[]⟩
def dropL (L : List (ByteArray × ByteArray)) (nm : ByteArray) : List (ByteArray × ByteArray) := L.filter (fun p => decide (p.1 ≠ nm))
theorem find_no {L : List (ByteArray × ByteArray)} {nm : ByteArray} (h : ∀ p ∈ L, p.1 ≠ nm) : getL L nm = ⟨#[]⟩ := by
  unfold getL
  rw [List.find?_eq_none.2 (fun p hp => by simpa using h p hp)]
theorem find_yes {L : List (ByteArray × ByteArray)} {nm : ByteArray} {k : Nat} {p : ByteArray × ByteArray} (hk : L[k]? = some p) (hp : p.1 = nm) (h : ∀ q ∈ L.take k, q.1 ≠ nm) : getL L nm = p.2 := by
  unfold getL
  obtain ⟨h1, h2⟩ := List.getElem?_eq_some_iff.1 hk
  have e : L = L.take k ++ p :: L.drop (k + 1) := by rw [← h2, ← List.drop_eq_getElem_cons h1, List.take_append_drop]
  rw [e, List.find?_append, List.find?_eq_none.2 (fun q hq => by simpa using h q hq), List.find?_cons_of_pos (by simpa using hp)]
  rfl
theorem drop_len (L : List (ByteArray × ByteArray)) (nm : ByteArray) : (dropL L nm).length ≤ L.length := List.length_filter_le _ _
theorem drop_snoc (L : List (ByteArray × ByteArray)) (nm : ByteArray) (p : ByteArray × ByteArray) : dropL (L ++ [p]) nm = if p.1 = nm then dropL L nm else dropL L nm ++ [p] := by
  unfold dropL
  rw [List.filter_append]
  split
  · rename_i h; simp [h]
  · rename_i h; simp [h]
theorem Rd.ownAt {w : World} {base n c : Nat} {A : Option Addr} {e : TypeId} {l : List (ByteArray × ByteArray)} {f : ByteArray × ByteArray → Value} (h : w.ownsRow base e 1 (.slice A n c) n (l.map f)) {k : Nat} {p : ByteArray × ByteArray} (hk : l[k]? = some p) :
    ∃ ad, A = some ad ∧ ad.block < w.heap.size ∧ w.cell? (ad.add k) = some (f p) := Rd.own h k (f p) (by rw [List.getElem?_map, hk]; rfl)

end Go.Proofs.YtcpmicinibfepaaGreatDoor

namespace Go.Proofs.YtcpmicinibfepaaGreatDoor
open Go.ChangeShapes Go.WideShapes Go.ChangeAt Go.RowKit Go.Deep DiskP

theorem tk_row_other {w : World} {d n sz j : Nat} {e : TypeId} {v : Value} {xs : List Value} (h : w.ownsRow (d + 1) e sz v n xs) (u : Value) : (w.setCell ⟨d, j, none⟩ u).ownsRow (d + 1) e sz v n xs := dk_row_other h u
/-- where a file is; the number of files: nowhere -/
def fnd (L : List Fl) (nm : ByteArray) : Nat := L.findIdx fun f => decide (f.nm = nm)
def fndI (L : List Fl) (nm : ByteArray) : Int := if fnd L nm < L.length then (fnd L nm : Nat) else -1
theorem fnd_no {L : List Fl} {nm : ByteArray} (h : ∀ f ∈ L, f.nm ≠ nm) : fndI L nm = -1 := by
  unfold fndI fnd
  rw [if_neg]
  intro hc
  have := List.findIdx_getElem (w := hc)
  exact h _ (List.getElem_mem hc) (by simpa using this)
theorem fnd_yes {L : List Fl} {nm : ByteArray} {k : Nat} {f : Fl} (hk : L[k]? = some f) (hf : f.nm = nm) (h : ∀ g ∈ L.take k, g.nm ≠ nm) : fnd L nm = k := by
  obtain ⟨h1, h2⟩ := List.getElem?_eq_some_iff.1 hk
  unfold fnd
  rw [List.findIdx_eq h1]
  refine ⟨by rw [h2]; simpa using hf, fun j hj => ?_⟩
  have := h (L[j]'(by omega)) (by rw [List.mem_take_iff_getElem]; exact ⟨j, by omega, rfl⟩)
  simpa using this
theorem fndI_yes {L : List Fl} {nm : ByteArray} {k : Nat} {f : Fl} (hk : L[k]? = some f) (hf : f.nm = nm) (h : ∀ g ∈ L.take k, g.nm ≠ nm) : fndI L nm = (k : Nat) := by
  have e := fnd_yes hk hf h
  unfold fndI
  rw [e, if_pos (List.getElem?_eq_some_iff.1 hk).1]

/-- what is read -/
def readX (S : DS) (nm : ByteArray) : ByteArray × Int :=
  if S.on = false then (⟨#[]⟩, 9) else match S.fs[fnd S.fs nm]? with
    | some f => (f.all, 0)
    | none => (⟨#[]⟩, 7)
end Go.Proofs.YtcpmicinibfepaaGreatDoor
