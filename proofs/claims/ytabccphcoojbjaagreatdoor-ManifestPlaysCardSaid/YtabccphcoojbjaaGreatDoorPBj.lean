/- The document's disk (layer 7): Do · The document's disk (layer 7): Do, where it is done · The document's disk (layer 7): Up · The document's disk (layer 7): Act. -/
import Derived.Test.YtabccphcoojbjaaGreatDoorPBh
import Derived.Test.YtabccphcoojbjaaGreatDoorPBi
namespace Go.Proofs.YtabccphcoojbjaaGreatDoor
open Go.ChangeShapes Go.WideShapes Go.ChangeAt Go.RowKit Go.Deep DiskP


/-- what an operation makes of the files, where it is done: k is where the file is -/
def doT (L : List Fl) (kind : Int) (s to_ : ByteArray) (n : Int) : List Fl := match L[fnd L s]? with
  | some f => if kind = 2 then L.set (fnd L s) { f with su := f.all.size }
    else if kind = 3 then outX (outX L s) to_ ++ [⟨to_, f.all, f.su⟩]
    else if kind = 4 then outX L s
    else L.set (fnd L s) ⟨s, f.all.extract 0 n.toNat, min f.su n.toNat⟩
  | none => L
def doX (S : DS) (kind : Int) (s to_ : ByteArray) (n : Int) : DS × Int :=
  if S.on = false then (S, 9) else match S.fs[fnd S.fs s]? with
  | none => (S, 7)
  | some f => if kind = 3 ∧ namedD to_ = false then (S, 1)
    else if kind = 5 ∧ (n < 0 ∨ (f.all.size : Int) < n) then (S, 11)
    else opD S fun L => doT L kind s to_ n
theorem Rk.set_file3 {x g c : Nat} {S : DS} {w : World} (h : Rk x (some ⟨g, 0, none⟩) c S w) {k : Nat} {f f' : Fl} (hk : S.fs[k]? = some f) :
    Rk x (some ⟨g, 0, none⟩) c { S with fs := S.fs.set k f' } (((w.setCell ⟨g, k * 3, none⟩ (.string f'.nm)).setCell ⟨g, k * 3 + 1, none⟩ (.string f'.all)).setCell ⟨g, k * 3 + 2, none⟩ (.int .i64 (f'.su : Int))) ∧
    TKeep 84 x w (((w.setCell ⟨g, k * 3, none⟩ (.string f'.nm)).setCell ⟨g, k * 3 + 1, none⟩ (.string f'.all)).setCell ⟨g, k * 3 + 2, none⟩ (.int .i64 (f'.su : Int))) := by
  have hl := (List.getElem?_eq_some_iff.1 hk).1
  obtain ⟨h1, k1⟩ := h.set_file (k := k) (f' := { f with nm := f'.nm }) (r := 0) (u := .string f'.nm) hk (by omega) rfl
  obtain ⟨h2, k2⟩ := h1.set_file (k := k) (f' := { f' with su := f.su }) (r := 1) (u := .string f'.all) (List.getElem?_set_self hl) (by omega) rfl
  simp only [List.set_set] at h2
  obtain ⟨h3, k3⟩ := h2.set_file (k := k) (f' := f') (r := 2) (u := .int .i64 (f'.su : Int)) (List.getElem?_set_self hl) (by omega) rfl
  simp only [List.set_set] at h3
  exact ⟨h3, (k1.trans k2).trans k3⟩
theorem fs_of_blow (S : DS) : (blow S).1 = ⟨S.fs, S.room, S.made, (blow S).1.on, (blow S).1.fuse, (blow S).1.ops⟩ := by
  unfold blow
  split
  · rfl
  · split <;> rfl

set_option maxRecDepth 100000 in
set_option maxHeartbeats 8000000 in
theorem ref7_Do_bad (x : Nat) (A : Option Addr) (c : Nat) (S : DS) (hS : OkX S) (kind : Int) (h25 : 2 ≤ kind ∧ kind ≤ 5) (s to_ : ByteArray) (hto : to_.size ≤ 1000) (n : Int) (w : World) (h : Rk x A c S w)
    (hbad : S.on = false ∨ ¬ fnd S.fs s < S.fs.length ∨ (kind = 3 ∧ namedD to_ = false) ∨ (kind = 5 ∧ ∃ f, S.fs[fnd S.fs s]? = some f ∧ (n < 0 ∨ (f.all.size : Int) < n))) :
    Calls Tryz.prog 59 #[.pointer (some ⟨x, 0, none⟩), .int .i64 kind, .string s, .string to_, .int .i64 n] w fun e w' => e = .returned (.int .i64 (doX S kind s to_ n).2) ∧ (doX S kind s to_ n).1 = S ∧ w = w' := by
  have hl : S.fs.length ≤ 1000 := by have := hS.many; omega
  have hmany := hS.many
  have HF := Lib.hid (ref7_Find x A c S s hl w h)
  have HN := Lib.hid (ref7_name to_ (by unfold maxLen; omega) w)
  have x2 := bx_cells h.box 2
  have x0 := bx_cells h.box 0
  have hlt := h.lt
  cases hon : S.on with
  | false =>
    have he : doX S kind s to_ n = (S, 9) := by unfold doX; rw [if_pos hon]
    rw [he]
    rw [hon] at x2
    clear hbad he
    go_enter Tryz.func59, Tryz.ntmps59
    go_wp2_with (go_at_call 44; (with_reducible refine (HF.out).mono ?_); rintro e w1 ⟨rfl, rfl⟩)
    go_ret
    exact ⟨rfl, trivial, rfl⟩
  | true =>
    rw [hon] at x2
    by_cases hp : fnd S.fs s < S.fs.length
    · obtain ⟨f, hf⟩ : ∃ f, S.fs[fnd S.fs s]? = some f := ⟨S.fs[fnd S.fs s], List.getElem?_eq_getElem hp⟩
      have hfi : fndI S.fs s = ((fnd S.fs s : Nat) : Int) := by unfold fndI; rw [if_pos hp]
      rw [hfi] at HF
      by_cases h3 : kind = 3
      · subst h3
        have hn : namedD to_ = false := by
          rcases hbad with h1 | h1 | ⟨_, h1⟩ | ⟨h1, _⟩
          · rw [hon] at h1; cases h1
          · exact absurd hp h1
          · exact h1
          · omega
        have he : doX S 3 s to_ n = (S, 1) := by unfold doX; rw [if_neg (by simp [hon]), hf]; simp only; rw [if_pos ⟨trivial, hn⟩]
        rw [he]
        rw [hn] at HN
        generalize fnd S.fs s = p at HF
        clear hbad he hn hfi hf
        go_enter Tryz.func59, Tryz.ntmps59
        go_wp2_with (first
          | (go_at_call 44; (with_reducible refine (HF.out).mono ?_); rintro e w1 ⟨rfl, rfl⟩)
          | (go_at_call 45; (with_reducible refine (HN.out).mono ?_); rintro e w1 ⟨rfl, rfl⟩))
        go_ret
        exact ⟨rfl, trivial, rfl⟩
      · obtain ⟨h5, hr⟩ : kind = 5 ∧ (n < 0 ∨ (f.all.size : Int) < n) := by
          rcases hbad with h1 | h1 | ⟨h1, _⟩ | ⟨h1, f', h2, h4⟩
          · rw [hon] at h1; cases h1
          · exact absurd hp h1
          · exact absurd h1 h3
          · rw [hf] at h2; obtain rfl := Option.some.inj h2; exact ⟨h1, h4⟩
        subst h5
        have he : doX S 5 s to_ n = (S, 11) := by unfold doX; rw [if_neg (by simp [hon]), hf]; simp only; rw [if_neg (by omega), if_pos ⟨trivial, hr⟩]
        rw [he]
        obtain ⟨p, hpp⟩ : ∃ p, fnd S.fs s = p := ⟨_, rfl⟩
        rw [hpp] at HF hf hp
        obtain ⟨ad, rfl, hadl, c0, c1, c2⟩ := RdFl_own h.row p f hf
        have hi1 : (p : Int) < (S.fs.length : Int) := by omega
        clear hbad he hfi hf hpp
        by_cases hn : n < 0
        · clear hr
          go_enter Tryz.func59, Tryz.ntmps59
          go_wp2_with (go_at_call 44; (with_reducible refine (HF.out).mono ?_); rintro e w1 ⟨rfl, rfl⟩)
          go_ret
          exact ⟨rfl, trivial, rfl⟩
        · have hr2 : (f.all.size : Int) < n := hr.resolve_left hn
          clear hr
          go_enter Tryz.func59, Tryz.ntmps59
          go_wp2_with (go_at_call 44; (with_reducible refine (HF.out).mono ?_); rintro e w1 ⟨rfl, rfl⟩)
          go_ret
          exact ⟨rfl, trivial, rfl⟩
    · have he : doX S kind s to_ n = (S, 7) := by unfold doX; rw [if_neg (by simp [hon]), List.getElem?_eq_none (by omega)]
      rw [he]
      have hfi : fndI S.fs s = -1 := by unfold fndI; rw [if_neg hp]
      rw [hfi] at HF
      clear hbad he hfi
      go_enter Tryz.func59, Tryz.ntmps59
      go_wp2_with (go_at_call 44; (with_reducible refine (HF.out).mono ?_); rintro e w1 ⟨rfl, rfl⟩)
      go_ret
      exact ⟨rfl, trivial, rfl⟩
end Go.Proofs.YtabccphcoojbjaaGreatDoor

namespace Go.Proofs.YtabccphcoojbjaaGreatDoor
open Go.ChangeShapes Go.WideShapes Go.ChangeAt Go.RowKit Go.Deep DiskP


/-- two operations may come up -/
theorem wpAnyH_two {P : Program} {md : Region.Mode} {Q : Exit → Act → World → Prop} {S : World → Prop} {l : List Oper} {o o' : Oper} (i j : Nat) {f : Nat} {listed : Array Bool} {a : Act} {w : World} (hr : Region.ready md l.toArray listed = [i, j]) (ho : (l.drop i).head? = some o) (ho' : (l.drop j).head? = some o')
    (h : ∀ K' : Act → World → Prop, Shut (∀ a w, S w → (S w → wpAnyH P md l.toArray Q S f (listed.setIfInBounds i true) a w) → K' a w) → if Region.wanted o (yielded l.toArray a.tmps) = true then Oper.wp P o a w K' Q else K' (a.put o.dst undef) w)
    (h' : ∀ K' : Act → World → Prop, Shut (∀ a w, S w → (S w → wpAnyH P md l.toArray Q S f (listed.setIfInBounds j true) a w) → K' a w) → if Region.wanted o' (yielded l.toArray a.tmps) = true then Oper.wp P o' a w K' Q else K' (a.put o'.dst undef) w) : wpAnyH P md l.toArray Q S (f + 1) listed a w :=
  wpAnyH_ready (rs := [i, j]) hr (by simp) (AllReadyH.cons (by rw [List.head?_drop] at ho; simpa using ho) h (AllReadyH.cons (by rw [List.head?_drop] at ho'; simpa using ho') h' AllReadyH.nil))
theorem grown_alloc {u w4 : World} {o : Obj} {b : Option Nat} (h : (u.alloc o).grownBy w4 b) : u.grownBy w4 b :=
  ⟨h.os, h.tape, h.output, by have := h.size; rw [World.size_alloc] at this; omega, fun k hk hne => (h.block k (by rw [World.size_alloc]; omega) hne).trans (heap_alloc_old u _ hk)⟩
theorem app_facts2 {x c : Nat} {A : Option Addr} {S : DS} {u w4 : World} {f : Fl} {v4 : Value} (hd : Rk x A c S u)
    (hown : w4.ownsRow (x + 1) 84 3 v4 (S.fs.length + 1) (S.fs.flatMap fC ++ fC f)) (hgb : u.grownBy w4 (Value.ownBlock (.slice A S.fs.length c))) :
    w4.cell? ⟨x, 0, none⟩ = some (.slice A S.fs.length c) ∧ w4.frozen? ⟨x, 0, none⟩ = false ∧ ∃ g4 c4, v4 = .slice (some ⟨g4, 0, none⟩) (S.fs.length + 1) c4 ∧ Rk x (some ⟨g4, 0, none⟩) c4 { S with fs := S.fs ++ [f] } (w4.setCell ⟨x, 0, none⟩ (.slice (some ⟨g4, 0, none⟩) (S.fs.length + 1) c4)) ∧ TKeep 84 x u (w4.setCell ⟨x, 0, none⟩ (.slice (some ⟨g4, 0, none⟩) (S.fs.length + 1) c4)) := by
  have hne : some x ≠ Value.ownBlock (.slice A S.fs.length c) := fun e => by have := (hd.row.lt x e.symm).1; omega
  have hb : w4.heap[x]? = some (.cells #[.slice A S.fs.length c, .int .i64 S.room, .bool S.on, .int .i64 S.fuse, .int .i64 S.ops] 42 (0, 0)) := (hgb.block x hd.lt hne).trans hd.box
  have hl : (S.fs ++ [f]).length = S.fs.length + 1 := by simp
  rcases row_slice hown with ⟨_, h0⟩ | ⟨g4, c4, rfl, _, _, _⟩
  · omega
  refine ⟨bx_cells hb 0, bx_free hb 0, g4, c4, rfl, ⟨?_, ?_⟩, (TKeep.grown hd.row hgb (Nat.le_of_lt hd.lt)).trans (TKeep.set _)⟩
  · rw [hl]; simpa using bx_set hb 0 (.slice (some ⟨g4, 0, none⟩) (S.fs.length + 1) c4)
  · have := dk_row_other (j := 0) hown (.slice (some ⟨g4, 0, none⟩) (S.fs.length + 1) c4)
    simp only [hl]
    simpa [fC] using this

set_option maxRecDepth 100000 in
set_option maxHeartbeats 8000000 in
theorem ref7_Do_ok (x : Nat) (A : Option Addr) (c : Nat) (S : DS) (hS : OkX S) (kind : Int) (h25 : 2 ≤ kind ∧ kind ≤ 5) (s to_ : ByteArray) (hto : to_.size ≤ 1000) (n : Int) (w : World) (h : Rk x A c S w) (hon : S.on = true) (f : Fl) (hf : S.fs[fnd S.fs s]? = some f)
    (hn3 : kind = 3 → namedD to_ = true) (hn5 : kind = 5 → 0 ≤ n ∧ n ≤ (f.all.size : Int)) :
    Calls Tryz.prog 59 #[.pointer (some ⟨x, 0, none⟩), .int .i64 kind, .string s, .string to_, .int .i64 n] w (RPost x (opD S fun L => doT L kind s to_ n).1 (.int .i64 (opD S fun L => doT L kind s to_ n).2) w) := by
  have hl : S.fs.length ≤ 1000 := by have := hS.many; omega
  have hmany := hS.many
  have HF := Lib.hid (ref7_Find x A c S s hl w h)
  have HN := Lib.hid (ref7_name to_ (by unfold maxLen; omega) w)
  have hHC := ref7_crashes x A c S hon hS.fuse hS.ops w h
  have x2 := bx_cells h.box 2
  have x0 := bx_cells h.box 0
  rw [hon] at x2
  have hlt := h.lt
  have hsure := hS.sure f (List.mem_of_getElem? hf)
  have hU := hS.size
  have hfz := used_mem hf
  have hp := (List.getElem?_eq_some_iff.1 hf).1
  have hfi : fndI S.fs s = ((fnd S.fs s : Nat) : Int) := by unfold fndI; rw [if_pos hp]
  rw [hfi] at HF
  have hdo : doT S.fs kind s to_ n = if kind = 2 then S.fs.set (fnd S.fs s) { f with su := f.all.size } else if kind = 3 then outX (outX S.fs s) to_ ++ [⟨to_, f.all, f.su⟩] else if kind = 4 then outX S.fs s else S.fs.set (fnd S.fs s) ⟨s, f.all.extract 0 n.toNat, min f.su n.toNat⟩ := by unfold doT; rw [hf]
  unfold opD
  simp only
  rw [hdo]
  have hbs := fs_of_blow S
  obtain ⟨B1, B2, hB⟩ : ∃ B1 B2, blow S = (B1, B2) := ⟨_, _, rfl⟩
  rw [hB] at hHC hbs ⊢
  simp only at hHC hbs ⊢
  obtain ⟨p, hpp⟩ : ∃ p, fnd S.fs s = p := ⟨_, rfl⟩
  rw [hpp] at HF hf hp ⊢
  obtain ⟨g, rfl, hxg, hgl⟩ := row_some' h.row (by omega)
  obtain ⟨on', hon'⟩ : ∃ o, B1.on = o := ⟨_, rfl⟩
  obtain ⟨fu', hfu'⟩ : ∃ o, B1.fuse = o := ⟨_, rfl⟩
  obtain ⟨op', hop'⟩ : ∃ o, B1.ops = o := ⟨_, rfl⟩
  rw [hon', hfu', hop'] at hbs
  subst hbs
  clear hon' hfu' hop'
  simp only at hHC ⊢
  obtain ⟨T, hT⟩ : ∃ T : DS, (⟨S.fs, S.room, S.made, on', fu', op'⟩ : DS) = T := ⟨_, rfl⟩
  have hTf : T.fs = S.fs := by rw [← hT]
  have hTt : ∀ L, (⟨L, S.room, S.made, on', fu', op'⟩ : DS) = { T with fs := L } := fun L => by rw [← hT]
  rw [hT] at hHC ⊢
  simp only [hTt]
  have HC := Lib.hid hHC
  have hx1 := h.row.cells (g := g) rfl (p * 3) (.string f.nm) (by have := fC_at _ p f hf 0 (by omega); rw [Nat.add_zero] at this; rw [this]; rfl)
  have hx2 := h.row.cells (g := g) rfl (p * 3 + 1) (.string f.all) (by rw [fC_at _ p f hf 1 (by omega)]; rfl)
  have hx3 := h.row.cells (g := g) rfl (p * 3 + 2) (.int .i64 (f.su : Int)) (by rw [fC_at _ p f hf 2 (by omega)]; rfl)
  rw [fl_add_0] at hx1 hx2 hx3
  have HZ := Lib.hid (fun (W : World) (hd : Rk x (some ⟨g, 0, none⟩) c T W) => And.intro (hTf ▸ bx_cells hd.box 0 : W.cell? ⟨x, 0, none⟩ = #[.slice (some ⟨g, 0, none⟩) S.fs.length c, .int .i64 T.room, .bool T.on, .int .i64 T.fuse, .int .i64 T.ops][0]?) (And.intro ((by
      have := hd.row.cells (g := g) rfl (p * 3) (.string f.nm) (by rw [hTf]; have := fC_at _ p f hf 0 (by omega); rw [Nat.add_zero] at this; rw [this]; rfl)
      rwa [fl_add_0] at this : W.cell? ⟨g, p * 3, none⟩ = some (.string f.nm))) (And.intro ((by
      have := hd.row.cells (g := g) rfl (p * 3 + 1) (.string f.all) (by rw [hTf, fC_at _ p f hf 1 (by omega)]; rfl)
      rwa [fl_add_0] at this : W.cell? ⟨g, p * 3 + 1, none⟩ = some (.string f.all))) ((by
      have := hd.row.cells (g := g) rfl (p * 3 + 2) (.int .i64 (f.su : Int)) (by rw [hTf, fC_at _ p f hf 2 (by omega)]; rfl)
      rwa [fl_add_0] at this : W.cell? ⟨g, p * 3 + 2, none⟩ = some (.int .i64 (f.su : Int)))))))
  have hi1 : (p : Int) < (S.fs.length : Int) := by omega
  have HTF := Lib.hid hTf
  have HFK := Lib.hid hf
  clear hHC hB hdo hfi hpp hT hTt hTf h hS hf
  cases B2 with
  | true =>
    simp only [if_true]
    by_cases h2 : kind = 2
    · subst h2
      go_enter Tryz.func59, Tryz.ntmps59
      go_wp2_with (first | (go_at_call 44; (with_reducible refine (HF.out).mono ?_); rintro e w1 ⟨rfl, rfl⟩) | (go_at_call 45; (with_reducible refine (HN.out).mono ?_); rintro e w1 ⟨rfl, rfl⟩) | (go_at_call 47; (with_reducible refine (HC.out).mono ?_); rintro e w6 ⟨rfl, hd6, k6⟩; obtain ⟨z0, z1, z2, z3⟩ := HZ.out _ hd6))
      go_ret
      exact ⟨rfl, _, _, hd6, k6⟩
    · by_cases h3 : kind = 3
      · subst h3
        rw [hn3 rfl] at HN
        go_enter Tryz.func59, Tryz.ntmps59
        go_wp2_with (first | (go_at_call 44; (with_reducible refine (HF.out).mono ?_); rintro e w1 ⟨rfl, rfl⟩) | (go_at_call 45; (with_reducible refine (HN.out).mono ?_); rintro e w1 ⟨rfl, rfl⟩) | (go_at_call 47; (with_reducible refine (HC.out).mono ?_); rintro e w6 ⟨rfl, hd6, k6⟩; obtain ⟨z0, z1, z2, z3⟩ := HZ.out _ hd6))
        go_ret
        exact ⟨rfl, _, _, hd6, k6⟩
      · by_cases h4 : kind = 4
        · subst h4
          go_enter Tryz.func59, Tryz.ntmps59
          go_wp2_with (first | (go_at_call 44; (with_reducible refine (HF.out).mono ?_); rintro e w1 ⟨rfl, rfl⟩) | (go_at_call 45; (with_reducible refine (HN.out).mono ?_); rintro e w1 ⟨rfl, rfl⟩) | (go_at_call 47; (with_reducible refine (HC.out).mono ?_); rintro e w6 ⟨rfl, hd6, k6⟩; obtain ⟨z0, z1, z2, z3⟩ := HZ.out _ hd6))
          go_ret
          exact ⟨rfl, _, _, hd6, k6⟩
        · obtain rfl : kind = 5 := by omega
          obtain ⟨q1, q2⟩ := hn5 rfl
          go_enter Tryz.func59, Tryz.ntmps59
          go_wp2_with (first | (go_at_call 44; (with_reducible refine (HF.out).mono ?_); rintro e w1 ⟨rfl, rfl⟩) | (go_at_call 45; (with_reducible refine (HN.out).mono ?_); rintro e w1 ⟨rfl, rfl⟩) | (go_at_call 47; (with_reducible refine (HC.out).mono ?_); rintro e w6 ⟨rfl, hd6, k6⟩; obtain ⟨z0, z1, z2, z3⟩ := HZ.out _ hd6))
          go_ret
          exact ⟨rfl, _, _, hd6, k6⟩
  | false =>
    have HSET := Lib.hid (fun (W : World) (hd : Rk x (some ⟨g, 0, none⟩) c T W) => hd.set_file (k := p) (f := f) (f' := { f with su := f.all.size }) (r := 2) (u := .int .i64 (f.all.size : Nat)) (by rw [HTF.out]; exact HFK.out) (by omega) rfl)
    by_cases h2 : kind = 2
    · subst h2
      simp only [if_true]
      go_enter Tryz.func59, Tryz.ntmps59
      go_wp2_with (first | (go_at_call 44; (with_reducible refine (HF.out).mono ?_); rintro e w1 ⟨rfl, rfl⟩) | (go_at_call 45; (with_reducible refine (HN.out).mono ?_); rintro e w1 ⟨rfl, rfl⟩) | (go_at_call 47; (with_reducible refine (HC.out).mono ?_); rintro e w6 ⟨rfl, hd6, k6⟩; obtain ⟨z0, z1, z2, z3⟩ := HZ.out _ hd6))
      (have hlt6 := hd6.lt; have hd7 := hd6.kept (alloc_kept w6 (.cells #[.string f.nm, .string f.all, .int .i64 (f.su : Int)] 84)); have hk7 := k6.trans (TKeep.of_below (T := 84) (d := x) (alloc_kept w6 (.cells #[.string f.nm, .string f.all, .int .i64 (f.su : Int)] 84)) (Nat.le_of_lt hlt6)); have hb7 := heap_alloc_new w6 (.cells #[.string f.nm, .string f.all, .int .i64 (f.su : Int)] 84); have hs7 : w6.heap.size + 1 = (w6.alloc (.cells #[.string f.nm, .string f.all, .int .i64 (f.su : Int)] 84)).heap.size := (World.size_alloc w6 _).symm; clear z0 z1 z2 z3; generalize w6.alloc (.cells #[.string f.nm, .string f.all, .int .i64 (f.su : Int)] 84) = W7 at hd7 hk7 hb7 hs7 ⊢)
      obtain ⟨z0, z1, z2, z3⟩ := HZ.out _ hd7
      have y1 := bx_cells hb7 1
      have z4 := hd7.row.frozenAt (p * 3 + 2)
      refine wp_region_quiet_tail 10 (by kernel_rfl) (by kernel_rfl) ?_
      simp only [List.take_succ_cons, List.take_zero, List.drop_succ_cons, List.drop_zero]
      repeat (go_big_quiet_step (fail))
      refine wpQuiet_nil ?_
      rintro _ ⟨n2, rfl⟩
      obtain ⟨hd8, hk8⟩ := HSET.out (W7.drewN n2) ⟨hd7.box, hd7.row⟩
      have hk9 := (hk7.trans (TKeep.of_below (T := 84) (d := x) (below_drewN (Below.refl _ W7) n2) (Nat.le_of_lt hd7.lt))).trans hk8
      rw [HTF.out] at hd8
      go_wp2_with fail
      go_ret
      exact ⟨rfl, _, _, hd8, hk9⟩
    · by_cases h3 : kind = 3
      · subst h3
        rw [hn3 rfl] at HN
        simp only [show ¬ (3 : Int) = 2 by decide, if_false, if_true]
        have HW := Lib.hid (fun (W : World) (hd : Rk x (some ⟨g, 0, none⟩) c T W) => ref7_without' x _ c T (by rw [HTF.out]; exact hl) s W hd)
        rw [HTF.out] at HW
        obtain ⟨L1, hL1⟩ : ∃ L1, outX S.fs s = L1 := ⟨_, rfl⟩
        have hl1 : L1.length ≤ 64 := by have := outX_len S.fs s; rw [hL1] at this; omega
        rw [hL1] at HW ⊢
        have HW2 := Lib.hid (fun (W : World) (A1 : Option Addr) (c1 : Nat) (hd : Rk x A1 c1 { T with fs := L1 } W) => ref7_without' x A1 c1 { T with fs := L1 } (by simp only; omega) to_ W hd)
        simp only at HW2
        obtain ⟨L2, hL2⟩ : ∃ L2, outX L1 to_ = L2 := ⟨_, rfl⟩
        have hl2 : L2.length ≤ 64 := by have := outX_len L1 to_; rw [hL2] at this; omega
        rw [hL2] at HW2 ⊢
        obtain ⟨i0, hi, hz0, hz1, hz2⟩ := info_parts' info_rfile
        have HI := Lib.hid (And.intro hi (And.intro hz0 (And.intro hz1 hz2)))
        clear hL1 hL2 hi hz0 hz1 hz2
        go_enter Tryz.func59, Tryz.ntmps59
        go_wp2_with (first | (go_at_call 44; (with_reducible refine (HF.out).mono ?_); rintro e w1 ⟨rfl, rfl⟩) | (go_at_call 45; (with_reducible refine (HN.out).mono ?_); rintro e w1 ⟨rfl, rfl⟩) | (go_at_call 47; (with_reducible refine (HC.out).mono ?_); rintro e w6 ⟨rfl, hd6, k6⟩; obtain ⟨z0, z1, z2, z3⟩ := HZ.out _ hd6))
        (have hlt6 := hd6.lt; have hd7 := hd6.kept (alloc_kept w6 (.cells #[.string f.nm, .string f.all, .int .i64 (f.su : Int)] 84)); have hk7 := k6.trans (TKeep.of_below (T := 84) (d := x) (alloc_kept w6 (.cells #[.string f.nm, .string f.all, .int .i64 (f.su : Int)] 84)) (Nat.le_of_lt hlt6)); have hb7 := heap_alloc_new w6 (.cells #[.string f.nm, .string f.all, .int .i64 (f.su : Int)] 84); have hs7 : w6.heap.size + 1 = (w6.alloc (.cells #[.string f.nm, .string f.all, .int .i64 (f.su : Int)] 84)).heap.size := (World.size_alloc w6 _).symm; clear z0 z1 z2 z3; generalize w6.alloc (.cells #[.string f.nm, .string f.all, .int .i64 (f.su : Int)] 84) = W7 at hd7 hk7 hb7 hs7 ⊢)
        (with_reducible refine (HW.out _ hd7).mono ?_); rintro e w8 ⟨rfl, A8, c8, hd8, k8, _⟩
        have hk8 := hk7.trans (TKeep.of_rkeep (T := 84) k8)
        have hb8 := (k8.others w6.heap.size hlt6 (by omega) (by simp)).trans hb7
        have hs8 := k8.below.size
        go_wp2_with fail
        (with_reducible refine (HW2.out _ _ _ hd8).mono ?_); rintro e w9 ⟨rfl, A9, c9, hd9, k9, hfr9⟩
        have hk9 := hk8.trans (TKeep.of_rkeep (T := 84) k9)
        have hb9 := (k9.others w6.heap.size hlt6 (by omega) (by simp)).trans hb8
        have hs9 := k9.below.size
        go_wp2_with fail
        refine wp_region_noPanic ?_
        refine wp_region_held_drew (S := fun W => W.cell? ⟨w6.heap.size, 1, none⟩ = some (.string f.all) ∧ W.cell? ⟨w6.heap.size, 2, none⟩ = some (.int .i64 (f.su : Int))) (by kernel_rfl) ⟨bx_cells hb9 1, bx_cells hb9 2⟩ (fun hS0 => ?_)
        have hd9' : Rk x A9 c9 { T with fs := L2 } w9.drew := ⟨hd9.box, hd9.row⟩
        have hb9' : w9.drew.heap[w6.heap.size]? = some (.cells #[.string f.nm, .string f.all, .int .i64 (f.su : Int)] 84 (0, 0)) := hb9
        have hkA := hk9.trans (TKeep.of_below (T := 84) (d := x) (Below.refl _ w9).drew (Nat.le_of_lt hd9.lt))
        have hs9' : w6.heap.size < w9.drew.heap.size := by show w6.heap.size < w9.heap.size; omega
        generalize w9.drew = v0 at hd9' hb9' hkA hs9' hS0 ⊢
        have hbne : some w6.heap.size ≠ Value.ownBlock (.slice A9 L2.length c9) := fun e => by have := hfr9 _ e.symm; omega
        clear hd7 hk7 hb7 hs7 hd8 k8 hk8 hb8 hs8 hd9 k9 hk9 hb9 hs9
        refine wpAnyH_seg (by kernel_rfl) (fun _ _ _ _ _ h => h) hS0 12 4 0 _ _ (by decide) (by kernel_rfl) ?_
        simp only [List.drop_zero, List.take_succ_cons, List.take_zero]
        ((iterate 4 ((refine' wpTake_cons (by rfl) (fun W hW => ?_) ?_); rotate_left; (skip; go_simp; with_reducible rfl); simp only [Act.put, List.setIfInBounds_toArray, List.set_cons_zero, List.set_cons_succ])); refine wpTake_nil ?_)
        refine wpAnyH_seg (by kernel_rfl) (fun _ _ _ _ _ h => h) hS0 6 6 5 _ _ (by decide) (by kernel_rfl) ?_
        simp only [List.drop_succ_cons, List.drop_zero, List.take_succ_cons, List.take_zero]
        ((iterate 6 ((refine' wpTake_cons (by rfl) (fun W hW => ?_) ?_); rotate_left; (obtain ⟨y1, y2⟩ := hW; go_simp; with_reducible rfl); simp only [Act.put, List.setIfInBounds_toArray, List.set_cons_zero, List.set_cons_succ])); refine wpTake_nil ?_)
        refine wpAnyH_two 4 11 (by kernel_rfl) rfl rfl (fun K hK => ?_) (fun K hK => ?_)
        · rw [if_pos (by rfl)]
          have y0 := bx_cells hd9'.box 0
          go_simp
          refine hK.out _ _ hS0 (fun _ => ?_)
          clear hK K
          (try simp only [Act.put, List.setIfInBounds_toArray, List.set_cons_zero, List.set_cons_succ])
          refine wpAnyH_one 11 (by kernel_rfl) rfl (fun K hK => ?_)
          rw [if_pos (by rfl)]
          go_simp
          have hb10 := (Below.heap_alloc v0 (.cells #[.string to_, .string f.all, .int .i64 (f.su : Int)] 84) _ hs9').trans hb9'
          refine hK.out _ _ ⟨bx_cells hb10 1, bx_cells hb10 2⟩ (fun _ => ?_)
          clear hK K hb10
          (try simp only [Act.put, List.setIfInBounds_toArray, List.set_cons_zero, List.set_cons_succ])
          (refine wpAnyH_one 12 (by kernel_rfl) rfl (fun K hK => ?_); rw [if_pos (by rfl)]; refine wp_append_own _ (.tmp 88) (.tmp 95) 40 rfl (x + 1) 84 i0 _ 3 40 Tryz.underlying40 HI.out.1 HI.out.2.1 HI.out.2.2.1 HI.out.2.2.2 rfl (by decide) (.slice A9 L2.length c9) L2.length _ (by rfl) (hd9'.row.alloc _) ⟨v0.heap.size, 0, none⟩ 1 1 [.string to_, .string f.all, .int .i64 (f.su : Int)] (by rfl) rfl (World.news_of_block (heap_alloc_new v0 _)) (by simp [Value.oneCell']) (by unfold maxLen; omega) (by omega) (by rw [World.size_alloc]; have := hd9'.lt; omega) ?_; intro v4 w4 ho4 hg4 _; obtain ⟨u0, u1, g4, c4, rfl, hd5, hk5⟩ := app_facts2 (f := ⟨to_, f.all, f.su⟩) hd9' ho4 (grown_alloc hg4); have hb4 := ((grown_alloc hg4).block w6.heap.size hs9' hbne).trans hb9'; have hS4 := And.intro (bx_cells hb4 1) (bx_cells hb4 2); refine hK.out _ _ hS4 (fun _ => ?_); clear hK K; (try simp only [Act.put, List.setIfInBounds_toArray, List.set_cons_zero, List.set_cons_succ]); refine wpAnyH_one 13 (by kernel_rfl) rfl (fun K hK => ?_); rw [if_pos (by rfl)]; go_simp; refine hK.out _ _ hS4 (fun _ => ?_); clear hK K; (try simp only [Act.put, List.setIfInBounds_toArray, List.set_cons_zero, List.set_cons_succ]); refine wpAnyH_one 14 (by kernel_rfl) rfl (fun K hK => ?_); rw [if_pos (by rfl)]; go_simp; refine hK.out _ _ hS4 (fun _ => ?_); clear hK K; (try simp only [Act.put, List.setIfInBounds_toArray, List.set_cons_zero, List.set_cons_succ]); have hS5 := And.intro (bx_cells ((heap_setCell_other w4 ⟨x, 0, none⟩ w6.heap.size (.slice (some ⟨g4, 0, none⟩) (L2.length + 1) c4) (by show w6.heap.size ≠ x; omega)).trans hb4) 1) (bx_cells ((heap_setCell_other w4 ⟨x, 0, none⟩ w6.heap.size (.slice (some ⟨g4, 0, none⟩) (L2.length + 1) c4) (by show w6.heap.size ≠ x; omega)).trans hb4) 2); refine wpAnyH_one 15 (by kernel_rfl) rfl (fun K hK => ?_); rw [if_pos (by rfl)]; go_simp; refine hK.out _ _ hS5 (fun _ => ?_); clear hK K; (try simp only [Act.put, List.setIfInBounds_toArray, List.set_cons_zero, List.set_cons_succ]); refine wpAnyH_done (by kernel_rfl) ?_ _; refine NoPanic.normal ?_; go_wp2_with fail; go_ret; exact ⟨rfl, _, _, hd5, hkA.trans hk5⟩)
        · rw [if_pos (by rfl)]
          go_simp
          have hb10 := (Below.heap_alloc v0 (.cells #[.string to_, .string f.all, .int .i64 (f.su : Int)] 84) _ hs9').trans hb9'
          refine hK.out _ _ ⟨bx_cells hb10 1, bx_cells hb10 2⟩ (fun hS1 => ?_)
          clear hK K
          (try simp only [Act.put, List.setIfInBounds_toArray, List.set_cons_zero, List.set_cons_succ])
          have y0 := bx_cells ((Below.heap_alloc v0 (.cells #[.string to_, .string f.all, .int .i64 (f.su : Int)] 84) _ hd9'.lt).trans hd9'.box) 0
          refine wpAnyH_one 4 (by kernel_rfl) rfl (fun K hK => ?_)
          rw [if_pos (by rfl)]
          go_simp
          refine hK.out _ _ hS1 (fun _ => ?_)
          clear hK K hb10
          (try simp only [Act.put, List.setIfInBounds_toArray, List.set_cons_zero, List.set_cons_succ])
          (refine wpAnyH_one 12 (by kernel_rfl) rfl (fun K hK => ?_); rw [if_pos (by rfl)]; refine wp_append_own _ (.tmp 88) (.tmp 95) 40 rfl (x + 1) 84 i0 _ 3 40 Tryz.underlying40 HI.out.1 HI.out.2.1 HI.out.2.2.1 HI.out.2.2.2 rfl (by decide) (.slice A9 L2.length c9) L2.length _ (by rfl) (hd9'.row.alloc _) ⟨v0.heap.size, 0, none⟩ 1 1 [.string to_, .string f.all, .int .i64 (f.su : Int)] (by rfl) rfl (World.news_of_block (heap_alloc_new v0 _)) (by simp [Value.oneCell']) (by unfold maxLen; omega) (by omega) (by rw [World.size_alloc]; have := hd9'.lt; omega) ?_; intro v4 w4 ho4 hg4 _; obtain ⟨u0, u1, g4, c4, rfl, hd5, hk5⟩ := app_facts2 (f := ⟨to_, f.all, f.su⟩) hd9' ho4 (grown_alloc hg4); have hb4 := ((grown_alloc hg4).block w6.heap.size hs9' hbne).trans hb9'; have hS4 := And.intro (bx_cells hb4 1) (bx_cells hb4 2); refine hK.out _ _ hS4 (fun _ => ?_); clear hK K; (try simp only [Act.put, List.setIfInBounds_toArray, List.set_cons_zero, List.set_cons_succ]); refine wpAnyH_one 13 (by kernel_rfl) rfl (fun K hK => ?_); rw [if_pos (by rfl)]; go_simp; refine hK.out _ _ hS4 (fun _ => ?_); clear hK K; (try simp only [Act.put, List.setIfInBounds_toArray, List.set_cons_zero, List.set_cons_succ]); refine wpAnyH_one 14 (by kernel_rfl) rfl (fun K hK => ?_); rw [if_pos (by rfl)]; go_simp; refine hK.out _ _ hS4 (fun _ => ?_); clear hK K; (try simp only [Act.put, List.setIfInBounds_toArray, List.set_cons_zero, List.set_cons_succ]); have hS5 := And.intro (bx_cells ((heap_setCell_other w4 ⟨x, 0, none⟩ w6.heap.size (.slice (some ⟨g4, 0, none⟩) (L2.length + 1) c4) (by show w6.heap.size ≠ x; omega)).trans hb4) 1) (bx_cells ((heap_setCell_other w4 ⟨x, 0, none⟩ w6.heap.size (.slice (some ⟨g4, 0, none⟩) (L2.length + 1) c4) (by show w6.heap.size ≠ x; omega)).trans hb4) 2); refine wpAnyH_one 15 (by kernel_rfl) rfl (fun K hK => ?_); rw [if_pos (by rfl)]; go_simp; refine hK.out _ _ hS5 (fun _ => ?_); clear hK K; (try simp only [Act.put, List.setIfInBounds_toArray, List.set_cons_zero, List.set_cons_succ]); refine wpAnyH_done (by kernel_rfl) ?_ _; refine NoPanic.normal ?_; go_wp2_with fail; go_ret; exact ⟨rfl, _, _, hd5, hkA.trans hk5⟩)
      · by_cases h4 : kind = 4
        · subst h4
          simp only [show ¬ (4 : Int) = 2 by decide, show ¬ (4 : Int) = 3 by decide, if_false, if_true]
          have HW := Lib.hid (fun (W : World) (hd : Rk x (some ⟨g, 0, none⟩) c T W) => ref7_without' x _ c T (by rw [HTF.out]; exact hl) s W hd)
          rw [HTF.out] at HW
          go_enter Tryz.func59, Tryz.ntmps59
          go_wp2_with (first | (go_at_call 44; (with_reducible refine (HF.out).mono ?_); rintro e w1 ⟨rfl, rfl⟩) | (go_at_call 45; (with_reducible refine (HN.out).mono ?_); rintro e w1 ⟨rfl, rfl⟩) | (go_at_call 47; (with_reducible refine (HC.out).mono ?_); rintro e w6 ⟨rfl, hd6, k6⟩; obtain ⟨z0, z1, z2, z3⟩ := HZ.out _ hd6))
          (have hlt6 := hd6.lt; have hd7 := hd6.kept (alloc_kept w6 (.cells #[.string f.nm, .string f.all, .int .i64 (f.su : Int)] 84)); have hk7 := k6.trans (TKeep.of_below (T := 84) (d := x) (alloc_kept w6 (.cells #[.string f.nm, .string f.all, .int .i64 (f.su : Int)] 84)) (Nat.le_of_lt hlt6)); have hb7 := heap_alloc_new w6 (.cells #[.string f.nm, .string f.all, .int .i64 (f.su : Int)] 84); have hs7 : w6.heap.size + 1 = (w6.alloc (.cells #[.string f.nm, .string f.all, .int .i64 (f.su : Int)] 84)).heap.size := (World.size_alloc w6 _).symm; clear z0 z1 z2 z3; generalize w6.alloc (.cells #[.string f.nm, .string f.all, .int .i64 (f.su : Int)] 84) = W7 at hd7 hk7 hb7 hs7 ⊢)
          (with_reducible refine (HW.out _ hd7).mono ?_); rintro e w8 ⟨rfl, A8, c8, hd8, k8, _⟩
          have hk9 := hk7.trans (TKeep.of_rkeep (T := 84) k8)
          go_wp2_with fail
          go_ret
          exact ⟨rfl, _, _, hd8, hk9⟩
        · obtain rfl : kind = 5 := by omega
          obtain ⟨q1, q2⟩ := hn5 rfl
          simp only [show ¬ (5 : Int) = 2 by decide, show ¬ (5 : Int) = 3 by decide, show ¬ (5 : Int) = 4 by decide, if_false]
          obtain ⟨m, rfl⟩ : ∃ m : Nat, n = (m : Int) := ⟨n.toNat, by omega⟩
          simp only [Int.toNat_natCast]
          obtain ⟨t, ht⟩ : ∃ t, min f.su m = t := ⟨_, rfl⟩
          have hmi : min (f.su : Int) (m : Int) = (t : Int) := by omega
          have HSET5 := Lib.hid (fun (W : World) (hd : Rk x (some ⟨g, 0, none⟩) c T W) => hd.set_file3 (k := p) (f := f) (f' := ⟨s, f.all.extract 0 m, t⟩) (by rw [HTF.out]; exact HFK.out))
          rw [ht]
          clear ht
          go_enter Tryz.func59, Tryz.ntmps59
          go_wp2_with (first | (go_at_call 44; (with_reducible refine (HF.out).mono ?_); rintro e w1 ⟨rfl, rfl⟩) | (go_at_call 45; (with_reducible refine (HN.out).mono ?_); rintro e w1 ⟨rfl, rfl⟩) | (go_at_call 47; (with_reducible refine (HC.out).mono ?_); rintro e w6 ⟨rfl, hd6, k6⟩; obtain ⟨z0, z1, z2, z3⟩ := HZ.out _ hd6))
          (have hlt6 := hd6.lt; have hd7 := hd6.kept (alloc_kept w6 (.cells #[.string f.nm, .string f.all, .int .i64 (f.su : Int)] 84)); have hk7 := k6.trans (TKeep.of_below (T := 84) (d := x) (alloc_kept w6 (.cells #[.string f.nm, .string f.all, .int .i64 (f.su : Int)] 84)) (Nat.le_of_lt hlt6)); have hb7 := heap_alloc_new w6 (.cells #[.string f.nm, .string f.all, .int .i64 (f.su : Int)] 84); have hs7 : w6.heap.size + 1 = (w6.alloc (.cells #[.string f.nm, .string f.all, .int .i64 (f.su : Int)] 84)).heap.size := (World.size_alloc w6 _).symm; clear z0 z1 z2 z3; generalize w6.alloc (.cells #[.string f.nm, .string f.all, .int .i64 (f.su : Int)] 84) = W7 at hd7 hk7 hb7 hs7 ⊢)
          obtain ⟨z0, z1, z2, z3⟩ := HZ.out _ hd7
          have y1 := bx_cells hb7 1
          have y2 := bx_cells hb7 2
          have z4 := hd7.row.frozenAt (p * 3)
          have z5 := hd7.row.frozenAt (p * 3 + 1)
          have z6 := hd7.row.frozenAt (p * 3 + 2)
          refine wp_region_quiet_tail 16 (by kernel_rfl) (by kernel_rfl) ?_
          simp only [List.take_succ_cons, List.take_zero, List.drop_succ_cons, List.drop_zero]
          repeat (go_big_quiet_step (fail))
          refine wpQuiet_nil ?_
          rintro _ ⟨n2, rfl⟩
          obtain ⟨hd8, hk8⟩ := HSET5.out (W7.drewN n2) ⟨hd7.box, hd7.row⟩
          have hk9 := (hk7.trans (TKeep.of_below (T := 84) (d := x) (below_drewN (Below.refl _ W7) n2) (Nat.le_of_lt hd7.lt))).trans hk8
          rw [HTF.out] at hd8
          go_wp2_with fail
          go_ret
          exact ⟨rfl, _, _, hd8, hk9⟩
end Go.Proofs.YtabccphcoojbjaaGreatDoor

namespace Go.Proofs.YtabccphcoojbjaaGreatDoor
open Go.ChangeShapes Go.WideShapes Go.ChangeAt Go.RowKit Go.Deep DiskP


/-- how many unsure bytes are kept -/
def keepX (ks : List Int) (at_ rest : Nat) : Nat := match ks[at_]? with
  | some x => (max 0 (min x (rest : Int))).toNat
  | none => 0
def upF (f : Fl) (n : Nat) : Fl := ⟨f.nm, f.all.extract 0 (f.su + n), f.su + n⟩
def upX1 (ks : List Int) (st : List Fl × Nat) (nm : ByteArray) : List Fl × Nat := match st.1[fnd st.1 nm]? with
  | none => st
  | some f => if f.all.size = f.su then st else (st.1.set (fnd st.1 nm) (upF f (keepX ks st.2 (f.all.size - f.su))), st.2 + 1)
def upXL (L : List Fl) (ks : List Int) (nms : List ByteArray) : List Fl × Nat := nms.foldl (upX1 ks) (L, 0)
theorem upXL_snoc (L : List Fl) (ks : List Int) (nms : List ByteArray) (nm : ByteArray) : upXL L ks (nms ++ [nm]) = upX1 ks (upXL L ks nms) nm := by unfold upXL; rw [List.foldl_append]; rfl
/-- what stays as it is -/
structure UpInv (L : List Fl) (i : Nat) (st : List Fl × Nat) : Prop where
  nms : names st.1 = names L
  sure : ∀ f ∈ st.1, f.su ≤ f.all.size
  big : ∀ f ∈ st.1, f.all.size ≤ 100000000
  at_ : st.2 ≤ i
theorem keepX_le (ks : List Int) (a r : Nat) : keepX ks a r ≤ r := by
  unfold keepX
  split
  · omega
  · omega
theorem upX1_inv {L : List Fl} {i : Nat} {st : List Fl × Nat} (h : UpInv L i st) (ks : List Int) (nm : ByteArray) : UpInv L (i + 1) (upX1 ks st nm) := by
  have h4 := h.at_
  unfold upX1
  split
  · exact ⟨h.nms, h.sure, h.big, by omega⟩
  · rename_i f hf
    split
    · exact ⟨h.nms, h.sure, h.big, by omega⟩
    · have hs := h.sure f (List.mem_of_getElem? hf)
      have hb := h.big f (List.mem_of_getElem? hf)
      have hk := keepX_le ks st.2 (f.all.size - f.su)
      refine ⟨by rw [← h.nms]; exact names_set hf rfl, fun g hg => ?_, fun g hg => ?_, by simp only; omega⟩
      · rcases mem_set hg with rfl | hg
        · unfold upF; simp only [ByteArray.size_extract]; omega
        · exact h.sure g hg
      · rcases mem_set hg with rfl | hg
        · unfold upF; simp only [ByteArray.size_extract]; omega
        · exact h.big g hg
theorem upXL_inv {L : List Fl} (hs : ∀ f ∈ L, f.su ≤ f.all.size) (hb : ∀ f ∈ L, f.all.size ≤ 100000000) (ks : List Int) (nms : List ByteArray) : UpInv L nms.length (upXL L ks nms) := by
  induction nms using RankP.snoc_ind with
  | h0 => exact ⟨rfl, hs, hb, Nat.le_refl _⟩
  | h1 l x ih => rw [upXL_snoc, List.length_append]; exact upX1_inv ih ks x
theorem fnd_lt {L : List Fl} {nm : ByteArray} (h : nm ∈ names L) : fnd L nm < L.length := by
  obtain ⟨f, hf, e⟩ := List.mem_map.1 h
  exact List.findIdx_lt_length_of_exists ⟨f, hf, by simpa using e⟩
theorem insN_mem {out : List ByteArray} {nm a : ByteArray} : a ∈ insN out nm ↔ a = nm ∨ a ∈ out := by
  unfold insN
  constructor
  · intro h
    rcases List.mem_append.1 h with h | h
    · exact .inr (List.mem_of_mem_take h)
    · rcases List.mem_cons.1 h with h | h
      · exact .inl h
      · exact .inr (List.mem_of_mem_drop h)
  · rintro (h | h)
    · exact List.mem_append_right _ (by rw [h]; exact List.mem_cons_self)
    · rw [← List.take_append_drop (posN out nm) out] at h
      rcases List.mem_append.1 h with h | h
      · exact List.mem_append_left _ h
      · exact List.mem_append_right _ (List.mem_cons_of_mem _ h)
theorem namesX_mem {L : List Fl} {a : ByteArray} : a ∈ namesX L ↔ a ∈ names L := by
  induction L using RankP.snoc_ind with
  | h0 => rfl
  | h1 l x ih =>
    rw [namesX_snoc, insN_mem, ih]
    unfold names
    rw [List.map_append, List.mem_append, List.map_cons, List.map_nil, List.mem_singleton]
    exact Or.comm
def upX (S : DS) (ks : List Int) : DS := { S with fs := (upXL S.fs ks (namesX S.fs)).1, on := true, fuse := -1 }
theorem tkeep_row {T e : TypeId} {x n sz base : Nat} {v : Value} {xs : List Value} {w w' : World} (h : TKeep T x w w') (ho : w.ownsRow base e sz v n xs) (hb : x < base) (he : e ≠ T) : w'.ownsRow base e sz v n xs := own_at ho fun g hg => by
  obtain ⟨cur, hc⟩ := own_type ho hg
  have h1 := ho.lt g hg
  exact h.others g (by omega) h1.2 (fun cs z e' => by rw [hc] at e'; exact he (by simpa using congrArg (fun o => match o with | some (Obj.cells _ T _) => T | _ => 0) e'))

set_option maxRecDepth 100000 in
set_option maxHeartbeats 8000000 in
theorem ref7_Up' (x : Nat) (A : Option Addr) (c : Nat) (S : DS) (hS : OkX S) (Ak : Option Addr) (ck : Nat) (ks : List Int) (hkl : ks.length ≤ 1000) (w : World) (h : Rk x A c S w) (hks : ∀ W, TKeep 84 x w W → Rd W W.heap.size Ak (ks.map (Value.int .i64))) :
    Calls Tryz.prog 22 #[.pointer (some ⟨x, 0, none⟩), .slice Ak ks.length ck] w (RPost x (upX S ks) (.tuple #[]) w) := by
  have hm := hS.many
  have hU := hS.size
  have HINV := Lib.hid (fun i => upXL_inv (L := S.fs) hS.sure (fun f hf => by obtain ⟨k, hk, e⟩ := List.getElem_of_mem hf; have := used_mem (fs := S.fs) (k := k) (f := f) (by rw [List.getElem?_eq_getElem hk, e]); omega) ks ((namesX S.fs).take i))
  have HNM := Lib.hid (ref7_Names x A c S (by omega) w h)
  have HMEM := Lib.hid (fun a => (namesX_mem (L := S.fs) (a := a)).1)
  have hnl := namesX_len S.fs
  have HD := Lib.hid h
  have HKS := Lib.hid hks
  have hlt := h.lt
  unfold upX
  obtain ⟨nms, hnms⟩ : ∃ nms, namesX S.fs = nms := ⟨_, rfl⟩
  rw [hnms] at HINV HNM HMEM hnl ⊢
  clear h hks hS hnms
  go_enter Tryz.func22, Tryz.ntmps22
  go_wp2_with (go_at_call 20; (with_reducible refine (HNM.out).mono ?_); rintro e w1 ⟨A1, c1, rfl, ho1, b1⟩)
  have hd1 := HD.out.kept b1
  have hk1 := TKeep.of_below (T := 84) (d := x) b1 (Nat.le_of_lt hlt)
  have HN1 := Lib.hid ho1
  clear ho1
  go_loopw [5, 6] (fun va vi wr => ∃ i : Nat, i ≤ S.fs.length ∧ vi = .int .i64 i ∧ va = .int .i64 ((upXL S.fs ks (nms.take i)).2 : Nat) ∧ Rk x A c { S with fs := (upXL S.fs ks (nms.take i)).1 } wr ∧ TKeep 84 x w1 wr) (fun _ vi _ => S.fs.length - (intOf vi).toNat)
  case atStart => exact ⟨0, by omega, rfl, rfl, hd1, TKeep.refl _ _ _⟩
  case round =>
    obtain ⟨i, hi, rfl, rfl, hd, hkp⟩ := hrel
    have hinv := HINV.out i
    rw [List.length_take] at hinv
    have hrow := tkeep_row hkp HN1.out (by omega) (by decide)
    have HSN := Lib.hid (fun nm (hn : nms[i]? = some nm) => (show upXL S.fs ks (nms.take (i + 1)) = upX1 ks (upXL S.fs ks (nms.take i)) nm by rw [btaken _ _ _ hn, upXL_snoc]))
    have hll : (upXL S.fs ks (nms.take i)).1.length = S.fs.length := by have := congrArg List.length hinv.nms; simpa [names] using this
    have hat := hinv.at_
    by_cases hlt2 : i < S.fs.length
    · obtain ⟨nm, hnm⟩ : ∃ nm, nms[i]? = some nm := ⟨nms[i], List.getElem?_eq_getElem (by omega)⟩
      obtain ⟨a1, rfl, hl1, y1⟩ := Rd.own hrow i (.string nm) (by rw [List.getElem?_map, hnm]; rfl)
      have hs1 := HSN.out nm hnm
      have hp : fnd (upXL S.fs ks (nms.take i)).1 nm < (upXL S.fs ks (nms.take i)).1.length := fnd_lt (by rw [hinv.nms]; exact HMEM.out nm (List.mem_of_getElem? hnm))
      obtain ⟨L, at_, hst⟩ : ∃ L at_, upXL S.fs ks (nms.take i) = (L, at_) := ⟨_, _, rfl⟩
      rw [hst] at hinv hd hs1 hp hll hat ⊢
      simp only at hinv hd hs1 hp hll hat ⊢
      have HFI := Lib.hid (ref7_Find x A c { S with fs := L } nm (by simp only; omega) wr hd)
      obtain ⟨f, hf⟩ : ∃ f, L[fnd L nm]? = some f := ⟨L[fnd L nm], List.getElem?_eq_getElem hp⟩
      have hfi : fndI L nm = ((fnd L nm : Nat) : Int) := by unfold fndI; rw [if_pos hp]
      simp only [hfi] at HFI
      have hx1 : upX1 ks (L, at_) nm = if f.all.size = f.su then (L, at_) else (L.set (fnd L nm) (upF f (keepX ks at_ (f.all.size - f.su))), at_ + 1) := by unfold upX1; simp only [hf]
      rw [hx1] at hs1
      obtain ⟨p, hpp⟩ : ∃ p, fnd L nm = p := ⟨_, rfl⟩
      rw [hpp] at HFI hf hp hs1
      have hsu := hinv.sure f (List.mem_of_getElem? hf)
      have hbg := hinv.big f (List.mem_of_getElem? hf)
      obtain ⟨g, rfl, hxg, hgl⟩ := row_some' hd.row (by simp only; omega)
      have z0 := bx_cells hd.box 0
      have z1 := hd.row.cells (g := g) rfl (p * 3) (.string f.nm) (by have := fC_at _ p f hf 0 (by omega); rw [Nat.add_zero] at this; rw [this]; rfl)
      have z2 := hd.row.cells (g := g) rfl (p * 3 + 1) (.string f.all) (by rw [fC_at _ p f hf 1 (by omega)]; rfl)
      have z3 := hd.row.cells (g := g) rfl (p * 3 + 2) (.int .i64 (f.su : Int)) (by rw [fC_at _ p f hf 2 (by omega)]; rfl)
      rw [fl_add_0] at z1 z2 z3
      simp only [hll] at z0
      have hi1 : (p : Int) < (S.fs.length : Int) := by omega
      have hi2 : (i : Int) < (S.fs.length : Int) := by omega
      have hSF := fun (W : World) (hd : Rk x (some ⟨g, 0, none⟩) c { S with fs := L } W) (f' : Fl) => hd.set_file3 (k := p) (f := f) (f' := f') hf
      have HSF := Lib.hid hSF
      have HZ := Lib.hid (fun (W : World) (hd : Rk x (some ⟨g, 0, none⟩) c { S with fs := L } W) => And.intro ((by
        have := hd.row.cells (g := g) rfl (p * 3) (.string f.nm) (by have := fC_at _ p f hf 0 (by omega); rw [Nat.add_zero] at this; rw [this]; rfl)
        rwa [fl_add_0] at this : W.cell? ⟨g, p * 3, none⟩ = some (.string f.nm))) (And.intro ((by
        have := hd.row.cells (g := g) rfl (p * 3 + 1) (.string f.all) (by rw [fC_at _ p f hf 1 (by omega)]; rfl)
        rwa [fl_add_0] at this : W.cell? ⟨g, p * 3 + 1, none⟩ = some (.string f.all))) ((by
        have := hd.row.cells (g := g) rfl (p * 3 + 2) (.int .i64 (f.su : Int)) (by rw [fC_at _ p f hf 2 (by omega)]; rfl)
        rwa [fl_add_0] at this : W.cell? ⟨g, p * 3 + 2, none⟩ = some (.int .i64 (f.su : Int))))))
      have HS1 := Lib.hid hs1
      have HLL := Lib.hid hll
      have HHD := Lib.hid hd
      clear hf hs1 hx1 hst hpp hfi hSF hnm hll hinv hrow hd hd1
      by_cases hr0 : f.all.size = f.su
      · have e5 : ((f.all.size : Int) - (f.su : Int) == 0) = true := by rw [beq_iff_eq]; omega
        have hH := HS1.out
        rw [if_pos hr0] at hH
        have HH := Lib.hid hH
        clear hH
        go_wp2_with (go_at_call 44; (with_reducible refine (HFI.out).mono ?_); rintro e w2 ⟨rfl, rfl⟩)
        exact ⟨⟨i + 1, by omega, by go_num, by rw [HH.out], by rw [HH.out]; exact HHD.out.kept (alloc_kept _ _), hkp.trans (TKeep.of_below (alloc_kept _ _) (Nat.le_of_lt HHD.out.lt))⟩, by show S.fs.length - ((i : Int) + 1).toNat < S.fs.length - ((i : Int)).toNat; omega⟩
      · have e5 : ((f.all.size : Int) - (f.su : Int) == 0) = false := by rw [beq_eq_false_iff_ne]; omega
        have hH := HS1.out
        rw [if_neg hr0] at hH
        have hl0 := HHD.out.lt
        have hat2 : at_ ≤ i := by omega
        by_cases hka : at_ < ks.length
        · obtain ⟨v, hv⟩ : ∃ v, ks[at_]? = some v := ⟨ks[at_], List.getElem?_eq_getElem hka⟩
          obtain ⟨t, ht⟩ : ∃ t, min v ((f.all.size : Int) - (f.su : Int)) = t := ⟨_, rfl⟩
          obtain ⟨kk, hkk⟩ : ∃ kk : Nat, max 0 t = (kk : Int) := ⟨(max 0 t).toNat, by omega⟩
          have hke : keepX ks at_ (f.all.size - f.su) = kk := by
            unfold keepX
            rw [hv]
            simp only
            rw [show ((f.all.size - f.su : Nat) : Int) = (f.all.size : Int) - (f.su : Int) by omega, ht, hkk]
            rfl
          rw [hke] at hH
          have hkr : f.su + kk ≤ f.all.size := by omega
          obtain ⟨q, hqe⟩ : ∃ q, f.su + kk = q := ⟨_, rfl⟩
          have hu : upF f kk = ⟨f.nm, f.all.extract 0 q, q⟩ := by unfold upF; rw [hqe]
          rw [hu] at hH
          have hqi : (f.su : Int) + (kk : Int) = (q : Int) := by omega
          have hq2 : (q : Int) ≤ (f.all.size : Int) := by omega
          have HH := Lib.hid hH
          obtain ⟨ak, rfl, hakl, hak⟩ := (HKS.out _ (hk1.trans hkp)) at_ (.int .i64 v) (by rw [List.getElem?_map, hv]; rfl)
          have hj1 : (at_ : Int) < (ks.length : Int) := by omega
          have hakl2 := (World.cell?_alloc_lt wr (.cells #[.string f.nm, .string f.all, .int .i64 (f.su : Int)] 84) (ak.add at_) (by rw [addr_add_block]; omega)).trans hak
          have HKK := Lib.hid (And.intro hkr hqe)
          clear hH hke hv hu hkr hqe HS1
          go_wp2_with (go_at_call 44; (with_reducible refine (HFI.out).mono ?_); rintro e w2 ⟨rfl, rfl⟩)
          have hd7 := HHD.out.kept (alloc_kept wr (.cells #[.string f.nm, .string f.all, .int .i64 (f.su : Int)] 84))
          have hk7 := hkp.trans (TKeep.of_below (T := 84) (d := x) (alloc_kept wr (.cells #[.string f.nm, .string f.all, .int .i64 (f.su : Int)] 84)) (Nat.le_of_lt hl0))
          have hb7 := heap_alloc_new wr (.cells #[.string f.nm, .string f.all, .int .i64 (f.su : Int)] 84)
          generalize wr.alloc (.cells #[.string f.nm, .string f.all, .int .i64 (f.su : Int)] 84) = W7 at hd7 hk7 hb7 ⊢
          have v0 := bx_cells hd7.box 0
          simp only [HLL.out] at v0
          obtain ⟨t1, t2, t3⟩ := HZ.out _ hd7
          have v1 := bx_cells hb7 0
          have v2 := bx_cells hb7 1
          have v3 := bx_cells hb7 2
          have z4 := hd7.row.frozenAt (p * 3)
          have z5 := hd7.row.frozenAt (p * 3 + 1)
          have z6 := hd7.row.frozenAt (p * 3 + 2)
          refine wp_region_quiet_tail 20 (by kernel_rfl) (by kernel_rfl) ?_
          simp only [List.take_succ_cons, List.take_zero, List.drop_succ_cons, List.drop_zero]
          repeat (go_big_quiet_step (fail))
          refine wpQuiet_nil ?_
          rintro _ ⟨n2, rfl⟩
          obtain ⟨hd8, hk8⟩ := HSF.out (W7.drewN n2) ⟨hd7.box, hd7.row⟩ ⟨f.nm, f.all.extract 0 q, q⟩
          have hk9 := (hk7.trans (TKeep.of_below (T := 84) (d := x) (below_drewN (Below.refl _ W7) n2) (Nat.le_of_lt hd7.lt))).trans hk8
          go_wp2_with fail
          exact ⟨⟨i + 1, by omega, by go_num, by rw [HH.out]; go_num, by rw [HH.out]; exact hd8, hk9⟩, by show S.fs.length - ((i : Int) + 1).toNat < S.fs.length - ((i : Int)).toNat; omega⟩
        · have hke : keepX ks at_ (f.all.size - f.su) = 0 := by
            unfold keepX
            rw [List.getElem?_eq_none (by omega)]
          rw [hke] at hH
          have hu : upF f 0 = ⟨f.nm, f.all.extract 0 f.su, f.su⟩ := rfl
          rw [hu] at hH
          have hq2 : (f.su : Int) ≤ (f.all.size : Int) := by omega
          have HH := Lib.hid hH
          have hj1 : ¬ (at_ : Int) < (ks.length : Int) := by omega
          clear hH hke hu HS1
          go_wp2_with (go_at_call 44; (with_reducible refine (HFI.out).mono ?_); rintro e w2 ⟨rfl, rfl⟩)
          have hd7 := HHD.out.kept (alloc_kept wr (.cells #[.string f.nm, .string f.all, .int .i64 (f.su : Int)] 84))
          have hk7 := hkp.trans (TKeep.of_below (T := 84) (d := x) (alloc_kept wr (.cells #[.string f.nm, .string f.all, .int .i64 (f.su : Int)] 84)) (Nat.le_of_lt hl0))
          have hb7 := heap_alloc_new wr (.cells #[.string f.nm, .string f.all, .int .i64 (f.su : Int)] 84)
          generalize wr.alloc (.cells #[.string f.nm, .string f.all, .int .i64 (f.su : Int)] 84) = W7 at hd7 hk7 hb7 ⊢
          have v0 := bx_cells hd7.box 0
          simp only [HLL.out] at v0
          obtain ⟨t1, t2, t3⟩ := HZ.out _ hd7
          have v1 := bx_cells hb7 0
          have v2 := bx_cells hb7 1
          have v3 := bx_cells hb7 2
          have z4 := hd7.row.frozenAt (p * 3)
          have z5 := hd7.row.frozenAt (p * 3 + 1)
          have z6 := hd7.row.frozenAt (p * 3 + 2)
          refine wp_region_quiet_tail 20 (by kernel_rfl) (by kernel_rfl) ?_
          simp only [List.take_succ_cons, List.take_zero, List.drop_succ_cons, List.drop_zero]
          repeat (go_big_quiet_step (fail))
          refine wpQuiet_nil ?_
          rintro _ ⟨n2, rfl⟩
          obtain ⟨hd8, hk8⟩ := HSF.out (W7.drewN n2) ⟨hd7.box, hd7.row⟩ ⟨f.nm, f.all.extract 0 f.su, f.su⟩
          have hk9 := (hk7.trans (TKeep.of_below (T := 84) (d := x) (below_drewN (Below.refl _ W7) n2) (Nat.le_of_lt hd7.lt))).trans hk8
          go_wp2_with fail
          exact ⟨⟨i + 1, by omega, by go_num, by rw [HH.out]; go_num, by rw [HH.out]; exact hd8, hk9⟩, by show S.fs.length - ((i : Int) + 1).toNat < S.fs.length - ((i : Int)).toNat; omega⟩
    · obtain rfl : i = S.fs.length := by omega
      rw [List.take_of_length_le (by omega)] at hd
      have q1 := (hd.set_on true).set_fuse (-1)
      have q2 := bx_cells hd.box 2
      have q3 := bx_free hd.box 2
      have q4 := bx_cells (hd.set_on true).box 3
      have q5 := bx_free (hd.set_on true).box 3
      have q6 := (hk1.trans hkp).trans ((TKeep.set (w := wr) (d := x) (j := 2) (.bool true)).trans (TKeep.set (j := 3) (.int .i64 (-1))))
      obtain ⟨Ar, cr, hAr⟩ := bx_shape hrow
      clear HSN hinv hat hrow hll
      go_wp2_with fail
      go_end0
      exact ⟨rfl, A, c, q1, q6⟩
theorem ref7_Up (x : Nat) (A : Option Addr) (c : Nat) (S : DS) (hS : OkX S) (Ak : Option Addr) (ck : Nat) (ks : List Int) (hkl : ks.length ≤ 1000) (w : World) (h : Rk x A c S w) (hks : Rd w x Ak (ks.map (Value.int .i64))) :
    Calls Tryz.prog 22 #[.pointer (some ⟨x, 0, none⟩), .slice Ak ks.length ck] w (RPost x (upX S ks) (.tuple #[]) w) :=
  ref7_Up' x A c S hS Ak ck ks hkl w h (fun _ hW => (hks.below hW.below).more (by have := hW.below.size; have := h.lt; omega))
end Go.Proofs.YtabccphcoojbjaaGreatDoor

namespace Go.Proofs.YtabccphcoojbjaaGreatDoor
open Go.ChangeShapes Go.WideShapes Go.ChangeAt Go.RowKit Go.Deep DiskP


theorem ref7_Do (x : Nat) (A : Option Addr) (c : Nat) (S : DS) (hS : OkX S) (kind : Int) (h25 : 2 ≤ kind ∧ kind ≤ 5) (s to_ : ByteArray) (hto : to_.size ≤ 1000) (n : Int) (w : World) (h : Rk x A c S w) :
    Calls Tryz.prog 59 #[.pointer (some ⟨x, 0, none⟩), .int .i64 kind, .string s, .string to_, .int .i64 n] w (RPost x (doX S kind s to_ n).1 (.int .i64 (doX S kind s to_ n).2) w) := by
  by_cases hbad : S.on = false ∨ ¬ fnd S.fs s < S.fs.length ∨ (kind = 3 ∧ namedD to_ = false) ∨ (kind = 5 ∧ ∃ f, S.fs[fnd S.fs s]? = some f ∧ (n < 0 ∨ (f.all.size : Int) < n))
  · refine (ref7_Do_bad x A c S hS kind h25 s to_ hto n w h hbad).mono ?_
    rintro e w' ⟨rfl, h1, rfl⟩
    exact ⟨rfl, A, c, by rw [h1]; exact h, TKeep.refl _ _ _⟩
  · have hon : S.on = true := by cases hx : S.on with
      | true => rfl
      | false => exact absurd (.inl hx) hbad
    have hp : fnd S.fs s < S.fs.length := Classical.byContradiction fun hx => hbad (.inr (.inl hx))
    obtain ⟨f, hf⟩ : ∃ f, S.fs[fnd S.fs s]? = some f := ⟨S.fs[fnd S.fs s], List.getElem?_eq_getElem hp⟩
    have hn3 : kind = 3 → namedD to_ = true := fun h3 => by cases hx : namedD to_ with
      | true => rfl
      | false => exact absurd (.inr (.inr (.inl ⟨h3, hx⟩))) hbad
    have hn5 : kind = 5 → 0 ≤ n ∧ n ≤ (f.all.size : Int) := fun h5 => by
      have h9 : ¬ (n < 0 ∨ (f.all.size : Int) < n) := fun hx => hbad (.inr (.inr (.inr ⟨h5, f, hf, hx⟩)))
      omega
    have he : doX S kind s to_ n = opD S fun L => doT L kind s to_ n := by
      unfold doX
      rw [if_neg (by simp [hon]), hf]
      simp only
      rw [if_neg (by rintro ⟨h3, hx⟩; rw [hn3 h3] at hx; cases hx), if_neg (by rintro ⟨h5, hx⟩; have := hn5 h5; omega)]
    rw [he]
    exact ref7_Do_ok x A c S hS kind h25 s to_ hto n w h hon f hf hn3 hn5
def actX (S : DS) (a : Ac) : DS × Int :=
  if a.kind = 1 then appendX S a.nm a.s
  else if 2 ≤ a.kind ∧ a.kind ≤ 5 then doX S a.kind a.nm a.to_ a.n
  else if a.kind = 6 then ({ S with fuse := max a.n (-1) }, 0)
  else if a.kind = 7 then ({ S with on := false, fuse := -1 }, 0)
  else if a.kind = 8 then (upX S a.ks, 0)
  else (S, 0)

end Go.Proofs.YtabccphcoojbjaaGreatDoor
