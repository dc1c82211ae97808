/- The document's disk (layer 7): Append, without. -/
import Derived.Test.YtmkaijjakcjflaaRefB
namespace Go.Proofs.Ytmkaijjakcjflaa
open Go.ChangeShapes Go.WideShapes Go.ChangeAt Go.RowKit Go.Deep DiskP

structure OkX (S : DS) : Prop where
  many : S.fs.length ≤ 64
  sure : ∀ f ∈ S.fs, f.su ≤ f.all.size
  full : (used S.fs : Int) ≤ S.room
  room : 0 ≤ S.room ∧ S.room ≤ 9223372036854775807
  size : used S.fs ≤ 100000000
  fuse : -1 ≤ S.fuse ∧ S.fuse ≤ 9223372036854775807
  ops : 0 ≤ S.ops ∧ S.ops ≤ 1000000000
theorem row_some' {w : World} {base sz n c : Nat} {e : TypeId} {A : Option Addr} {xs : List Value} (h : w.ownsRow base e sz (.slice A n c) n xs) (hn : 0 < n) : ∃ g, A = some ⟨g, 0, none⟩ ∧ base ≤ g ∧ g < w.heap.size := by
  rcases h.2 with ⟨e1, e2⟩ | ⟨g, cap, cur, e1, hb, hg, _⟩
  · omega
  · exact ⟨g, (by simpa using e1 : A = some ⟨g, 0, none⟩ ∧ c = cap).1, hb, bx_lt hg⟩
theorem Rk.set_file {x g c : Nat} {S : DS} {w : World} (h : Rk x (some ⟨g, 0, none⟩) c S w) {k : Nat} {f f' : Fl} {r : Nat} {u : Value} (hk : S.fs[k]? = some f) (hr : r < 3) (hf : fC f' = (fC f).set r u) :
    Rk x (some ⟨g, 0, none⟩) c { S with fs := S.fs.set k f' } (w.setCell ⟨g, k * 3 + r, none⟩ u) ∧ TKeep 54 x w (w.setCell ⟨g, k * 3 + r, none⟩ u) := by
  obtain ⟨h1, h2⟩ := h.row.stored (k * 3 + r) u
  have hgd := (h.row.lt g rfl).1
  refine ⟨⟨?_, ?_⟩, TKeep.grown h.row h2 (Nat.le_of_lt h.lt)⟩
  · have := (h2.block x h.lt (by simp; omega)).trans h.box
    simpa using this
  · rw [fC_set _ k f f' r u hk hr hf] at h1
    simpa using h1
def putX (L : List Fl) (nm s : ByteArray) : List Fl := match L[fnd L nm]? with
  | some f => L.set (fnd L nm) { f with all := f.all ++ s }
  | none => L ++ [⟨nm, ⟨#[]⟩ ++ s, 0⟩]
def appendX (S : DS) (nm s : ByteArray) : DS × Int :=
  if S.on = false then (S, 9) else if namedD nm = false then (S, 1)
  else if S.room - (used S.fs : Int) < (s.size : Int) ∨ (¬ fnd S.fs nm < S.fs.length ∧ 64 ≤ S.fs.length) then (S, 5)
  else begun { S with fs := putX S.fs nm s }
/-- a file is put behind the others -/
theorem app_facts {x c : Nat} {A : Option Addr} {S : DS} {u w4 : World} {f : Fl} {g4 c4 : Nat} (hd : Rk x A c S u)
    (hA : Appended2 (x + 1) 54 3 u (.slice A S.fs.length c) S.fs.length (S.fs.flatMap fC) #[.string f.nm, .string f.all, .int .i64 (f.su : Int)] g4 c4 w4) :
    w4.cell? ⟨x, 0, none⟩ = some (.slice A S.fs.length c) ∧ w4.frozen? ⟨x, 0, none⟩ = false ∧ Rk x (some ⟨g4, 0, none⟩) c4 { S with fs := S.fs ++ [f] } (w4.setCell ⟨x, 0, none⟩ (.slice (some ⟨g4, 0, none⟩) (S.fs.length + 1) c4)) ∧ TKeep 54 x u (w4.setCell ⟨x, 0, none⟩ (.slice (some ⟨g4, 0, none⟩) (S.fs.length + 1) c4)) := by
  have hne : some x ≠ Value.ownBlock (.slice A S.fs.length c) := fun e => by have := (hd.row.lt x e.symm).1; omega
  have hb : w4.heap[x]? = some (.cells #[.slice A S.fs.length c, .int .i64 S.room, .bool S.on, .int .i64 S.fuse, .int .i64 S.ops] 49 (0, 0)) := (hA.gb.block x hd.lt hne).trans hd.box
  have hl : (S.fs ++ [f]).length = S.fs.length + 1 := by simp
  refine ⟨bx_cells hb 0, bx_free hb 0, ⟨?_, ?_⟩, (TKeep.grown hd.row hA.gb (Nat.le_of_lt hd.lt)).trans (TKeep.set _)⟩
  · rw [hl]; simpa using bx_set hb 0 (.slice (some ⟨g4, 0, none⟩) (S.fs.length + 1) c4)
  · have := dk_row_other (j := 0) hA.own (.slice (some ⟨g4, 0, none⟩) (S.fs.length + 1) c4)
    simp only [hl]
    simpa [fC] using this
theorem info_rfile : (Try.prog.info? 54).map (fun i => (i.zero, i.size, i.bytes)) = some (some (.agg #[.string ⟨#[]⟩, .string ⟨#[]⟩, .int .i64 0]), 3, 40) := by kernel_rfl
set_option maxRecDepth 100000 in
set_option maxHeartbeats 4000000 in
theorem ref7_Append (x : Nat) (A : Option Addr) (c : Nat) (S : DS) (hS : OkX S) (nm s : ByteArray) (hnm : nm.size ≤ 1000) (hs : s.size ≤ 1000000) (w : World) (h : Rk x A c S w) :
    Calls Try.prog 35 #[.pointer (some ⟨x, 0, none⟩), .string nm, .string s] w (RPost x (appendX S nm s).1 (.int .i64 (appendX S nm s).2) w) := by
  have hl : S.fs.length ≤ 1000 := by have := hS.many; omega
  have hmany := hS.many
  have HF := Lib.hid (ref7_Find x A c S nm hl w h)
  have HN := Lib.hid (ref7_name nm (by unfold maxLen; omega) w)
  have x2 := bx_cells h.box 2
  have x1 := bx_cells h.box 1
  have x0 := bx_cells h.box 0
  have hlt := h.lt
  cases hon : S.on with
  | false =>
    have he : appendX S nm s = (S, 9) := by unfold appendX; rw [if_pos hon]
    rw [he]
    rw [hon] at x2
    go_enter Try.func35, Try.ntmps35
    go_wp2_with (go_at_call 39; (with_reducible refine (HF.out).mono ?_); rintro e w1 ⟨rfl, rfl⟩)
    go_ret
    exact ⟨rfl, A, c, h, TKeep.refl _ _ _⟩
  | true =>
    rw [hon] at x2
    cases hn : namedD nm with
    | false =>
      have he : appendX S nm s = (S, 1) := by unfold appendX; rw [if_neg (by simp [hon]), if_pos hn]
      rw [he]
      rw [hn] at HN
      go_enter Try.func35, Try.ntmps35
      go_wp2_with (first
        | (go_at_call 39; (with_reducible refine (HF.out).mono ?_); rintro e w1 ⟨rfl, rfl⟩)
        | (go_at_call 52; (with_reducible refine (HN.out).mono ?_); rintro e w1 ⟨rfl, rfl⟩))
      go_ret
      exact ⟨rfl, A, c, h, TKeep.refl _ _ _⟩
    | true =>
      rw [hn] at HN
      have hU := hS.size
      have hroom := hS.room
      have hfull := hS.full
      have HFO := Lib.hid (And.intro hS.fuse hS.ops)
      have HUS := Lib.hid (fun (n : Nat) => ref7_Used x A c S hl (by omega) (w.drewN n) ⟨h.box, h.row⟩)
      have HD := Lib.hid h
      have HON := Lib.hid hon
      by_cases hc : S.room - (used S.fs : Int) < (s.size : Int)
      · have he : appendX S nm s = (S, 5) := by unfold appendX; rw [if_neg (by simp [hon]), if_neg (by simp [hn]), if_pos (.inl hc)]
        rw [he]
        clear he hS h hon hn
        generalize hUU : used S.fs = U at HUS hc hfull hU
        have hdec : decide (S.room - (U : Int) < (s.size : Int)) = true := decide_eq_true hc
        go_enter Try.func35, Try.ntmps35
        go_wp2_with (first
          | (go_at_call 39; (with_reducible refine (HF.out).mono ?_); rintro e w1 ⟨rfl, rfl⟩)
          | (go_at_call 52; (with_reducible refine (HN.out).mono ?_); rintro e w1 ⟨rfl, rfl⟩))
        go_quiet ((go_at_call 17; exact quiet_left (HUS.out _)))
        go_wp2_with fail
        go_ret
        exact ⟨rfl, A, c, ⟨HD.out.box, HD.out.row⟩, TKeep.of_below (below_drewN (Below.refl _ w) nq) (Nat.le_of_lt hlt)⟩
      · have hdec : decide (S.room - (used S.fs : Int) < (s.size : Int)) = false := decide_eq_false hc
        by_cases hp : fnd S.fs nm < S.fs.length
        · obtain ⟨f, hf⟩ : ∃ f, S.fs[fnd S.fs nm]? = some f := ⟨S.fs[fnd S.fs nm], List.getElem?_eq_getElem hp⟩
          have he : appendX S nm s = begun { S with fs := S.fs.set (fnd S.fs nm) { f with all := f.all ++ s } } := by
            unfold appendX; rw [if_neg (by simp [hon]), if_neg (by simp [hn]), if_neg (by rintro (h1 | ⟨h1, _⟩); exact hc h1; exact h1 hp)]; unfold putX; rw [hf]
          rw [he]
          have hfi : fndI S.fs nm = ((fnd S.fs nm : Nat) : Int) := by unfold fndI; rw [if_pos hp]
          rw [hfi] at HF
          obtain ⟨p, hpp⟩ : ∃ p, fnd S.fs nm = p := ⟨_, rfl⟩
          rw [hpp] at HF hf hp ⊢
          have hfsz := used_mem hf
          obtain ⟨g, rfl, hxg, hgl⟩ := row_some' h.row (by omega)
          have HD2 := Lib.hid (fun n => (⟨HD.out.box, HD.out.row⟩ : Rk x (some ⟨g, 0, none⟩) c S (w.drewN n)))
          have HP := Lib.hid (fun (W : World) (hd : Rk x (some ⟨g, 0, none⟩) c S W) => hd.row.cells (g := g) rfl (p * 3 + 1) (.string f.all) (by rw [fC_at _ p f hf 1 (by omega)]; rfl))
          have HST := Lib.hid (fun (W : World) (hd : Rk x (some ⟨g, 0, none⟩) c S W) => hd.set_file (k := p) (f' := { f with all := f.all ++ s }) (r := 1) (u := .string (f.all ++ s)) hf (by omega) rfl)
          have HOP := Lib.hid (fun (W : World) (hd : Rk x (some ⟨g, 0, none⟩) c { S with fs := S.fs.set p { f with all := f.all ++ s } } W) => ref7_crashes x _ c { S with fs := S.fs.set p { f with all := f.all ++ s } } HON.out HFO.out.1 HFO.out.2 W hd)
          unfold begun
          obtain ⟨B1, B2, hB⟩ : ∃ B1 B2, blow { S with fs := S.fs.set p { f with all := f.all ++ s } } = (B1, B2) := ⟨_, _, rfl⟩
          rw [hB] at HOP ⊢
          simp only at HOP ⊢
          obtain ⟨v, hv⟩ : ∃ v : Int, (if B2 = true then 9 else 0) = v := ⟨_, rfl⟩
          rw [hv]
          have HV := Lib.hid hv
          clear hv he hS h hon hn hfi hpp hf hc hB
          generalize hUU : used S.fs = U at HUS hdec hfull hU hfsz
          have hi1 : (p : Int) < (S.fs.length : Int) := by omega
          have hwr : IntKind.i64.wrap (S.room - (U : Int)) = S.room - (U : Int) := by rw [IntKind.wrap_i64]; omega
          go_enter Try.func35, Try.ntmps35
          go_wp2_with (first
            | (go_at_call 39; (with_reducible refine (HF.out).mono ?_); rintro e w1 ⟨rfl, rfl⟩)
            | (go_at_call 52; (with_reducible refine (HN.out).mono ?_); rintro e w1 ⟨rfl, rfl⟩))
          go_quiet ((go_at_call 17; exact quiet_left (HUS.out _)))
          have hdu := HD2.out nq
          have hk0 := TKeep.of_below (T := 54) (d := x) (below_drewN (Below.refl _ w) nq) (Nat.le_of_lt hlt)
          generalize w.drewN nq = W at hdu hk0 ⊢
          have z0 := bx_cells hdu.box 0
          have z1 := HP.out _ hdu
          rw [fl_add_0] at z1
          have z2 := hdu.row.frozenAt (p * 3 + 1)
          go_wp2_with fail
          refine wp_region_quiet_tail 17 (by kernel_rfl) (by kernel_rfl) ?_
          simp only [List.take_succ_cons, List.take_zero, List.drop_succ_cons, List.drop_zero]
          repeat (go_big_quiet_step (fail))
          refine wpQuiet_nil ?_
          rintro _ ⟨n2, rfl⟩
          have hdu2 : Rk x (some ⟨g, 0, none⟩) c S (W.drewN n2) := ⟨hdu.box, hdu.row⟩
          have hk1 := hk0.trans (TKeep.of_below (T := 54) (d := x) (below_drewN (Below.refl _ W) n2) (Nat.le_of_lt hdu.lt))
          obtain ⟨hd5, hk5⟩ := HST.out _ hdu2
          have HOP5 := Lib.hid (HOP.out _ hd5)
          have hk6 := hk1.trans hk5
          cases B2 with
          | true =>
            go_wp2_with (go_at_call 53; refine (HOP5.out).mono ?_; rintro e w6 ⟨rfl, hd6, hk7⟩)
            go_ret
            exact ⟨by rw [← HV.out]; rfl, _, _, hd6, hk6.trans hk7⟩
          | false =>
            go_wp2_with (go_at_call 53; refine (HOP5.out).mono ?_; rintro e w6 ⟨rfl, hd6, hk7⟩)
            go_ret
            exact ⟨by rw [← HV.out]; rfl, _, _, hd6, hk6.trans hk7⟩
        · have hfi : fndI S.fs nm = -1 := by unfold fndI; rw [if_neg hp]
          rw [hfi] at HF
          by_cases h64 : 64 ≤ S.fs.length
          · have he : appendX S nm s = (S, 5) := by unfold appendX; rw [if_neg (by simp [hon]), if_neg (by simp [hn]), if_pos (.inr ⟨hp, h64⟩)]
            rw [he]
            have hdec2 : decide ((64 : Int) ≤ (S.fs.length : Int)) = true := by rw [decide_eq_true_eq]; omega
            clear he hS h hon hn hfi hp hc
            generalize hUU : used S.fs = U at HUS hdec hfull hU
            go_enter Try.func35, Try.ntmps35
            go_wp2_with (first
              | (go_at_call 39; (with_reducible refine (HF.out).mono ?_); rintro e w1 ⟨rfl, rfl⟩)
              | (go_at_call 52; (with_reducible refine (HN.out).mono ?_); rintro e w1 ⟨rfl, rfl⟩))
            go_quiet ((go_at_call 17; exact quiet_left (HUS.out _)))
            go_wp2_with fail
            go_ret
            exact ⟨rfl, A, c, ⟨HD.out.box, HD.out.row⟩, TKeep.of_below (below_drewN (Below.refl _ w) nq) (Nat.le_of_lt hlt)⟩
          · have he : appendX S nm s = begun { S with fs := S.fs ++ [⟨nm, ⟨#[]⟩ ++ s, 0⟩] } := by
              unfold appendX; rw [if_neg (by simp [hon]), if_neg (by simp [hn]), if_neg (by rintro (h1 | ⟨_, h1⟩); exact hc h1; exact h64 h1)]; unfold putX; rw [List.getElem?_eq_none (by omega)]
            rw [he]
            have hdec2 : decide ((64 : Int) ≤ (S.fs.length : Int)) = false := by rw [decide_eq_false_iff_not]; omega
            obtain ⟨i0, hi, hz0, hz1, hz2⟩ := info_parts' info_rfile
            have HI := Lib.hid (And.intro hi (And.intro hz0 (And.intro hz1 hz2)))
            obtain ⟨q, hq⟩ : ∃ q, S.fs.length = q := ⟨_, rfl⟩
            obtain ⟨I, hI⟩ : ∃ I, S.fs ++ [⟨nm, ⟨#[]⟩, 0⟩] = I := ⟨_, rfl⟩
            have hIl : I.length = q + 1 := by rw [← hI]; simp [hq]
            have hIa : I[q]? = some ⟨nm, ⟨#[]⟩, 0⟩ := by rw [← hI, ← hq]; simp
            have hIs : S.fs ++ [⟨nm, ⟨#[]⟩ ++ s, 0⟩] = I.set q ⟨nm, ⟨#[]⟩ ++ s, 0⟩ := by rw [← hI, ← hq]; simp
            rw [hIs]
            have HFACT := Lib.hid (fun (W w4 : World) (g4 c4 : Nat) (hd : Rk x A c S W) hA => app_facts (f := ⟨nm, ⟨#[]⟩, 0⟩) (w4 := w4) (g4 := g4) (c4 := c4) hd hA)
            rw [hI] at HFACT
            have HP := Lib.hid (fun (W : World) (g c4 : Nat) (hd : Rk x (some ⟨g, 0, none⟩) c4 { S with fs := I } W) => hd.row.cells (g := g) rfl (q * 3 + 1) (.string ⟨#[]⟩) (by rw [fC_at _ q _ hIa 1 (by omega)]; rfl))
            have HST := Lib.hid (fun (W : World) (g c4 : Nat) (hd : Rk x (some ⟨g, 0, none⟩) c4 { S with fs := I } W) => hd.set_file (k := q) (f' := ⟨nm, ⟨#[]⟩ ++ s, 0⟩) (r := 1) (u := .string (⟨#[]⟩ ++ s)) hIa (by omega) rfl)
            have HOP := Lib.hid (fun (W : World) (g c4 : Nat) (hd : Rk x (some ⟨g, 0, none⟩) c4 { S with fs := I.set q ⟨nm, ⟨#[]⟩ ++ s, 0⟩ } W) => ref7_crashes x _ c4 { S with fs := I.set q ⟨nm, ⟨#[]⟩ ++ s, 0⟩ } HON.out HFO.out.1 HFO.out.2 W hd)
            have HD2 := Lib.hid (fun n => (⟨HD.out.box, HD.out.row⟩ : Rk x A c S (w.drewN n)))
            unfold begun
            obtain ⟨B1, B2, hB⟩ : ∃ B1 B2, blow { S with fs := I.set q ⟨nm, ⟨#[]⟩ ++ s, 0⟩ } = (B1, B2) := ⟨_, _, rfl⟩
            rw [hB] at HOP ⊢
            simp only at HOP ⊢
            obtain ⟨v, hv⟩ : ∃ v : Int, (if B2 = true then 9 else 0) = v := ⟨_, rfl⟩
            rw [hv]
            have HV := Lib.hid hv
            clear hv
            rw [hq] at x0 hdec2 HFACT
            have HIL := Lib.hid hIl
            have hql : q ≤ 64 := by omega
            have HQ := Lib.hid hq
            clear he hS h hon hn hfi hp hc hB hI hIa hIs hIl hi hz0 hz1 hz2
            generalize hUU : used S.fs = U at HUS hdec hfull hU
            go_enter Try.func35, Try.ntmps35
            go_wp2_with (first
              | (go_at_call 39; (with_reducible refine (HF.out).mono ?_); rintro e w1 ⟨rfl, rfl⟩)
              | (go_at_call 52; (with_reducible refine (HN.out).mono ?_); rintro e w1 ⟨rfl, rfl⟩))
            go_quiet ((go_at_call 17; exact quiet_left (HUS.out _)))
            have hdu := HD2.out nq
            have hk0 := TKeep.of_below (T := 54) (d := x) (below_drewN (Below.refl _ w) nq) (Nat.le_of_lt hlt)
            generalize w.drewN nq = W at hdu hk0 ⊢
            have z0 := bx_cells hdu.box 0
            have hWl := hdu.lt
            have HROW := Lib.hid hdu.row
            have HFA := Lib.hid (fun w4 g4 c4 => HFACT.out W w4 g4 c4 hdu)
            rw [HQ.out] at z0 HROW
            clear hq
            go_wp2_with (at_builtin; refine wpList_append_two rfl _ _ _ (by rfl) (x + 1) 54 i0 _ 3 40 Try.underlying47 HI.out.1 HI.out.2.1 HI.out.2.2.1 HI.out.2.2.2 rfl (by decide) (by decide) (.slice A q c) q _ (by rfl) W HROW.out _ _ rfl (by rfl) (by rfl) (by simp [Value.oneCell']) (by omega) (by omega) ?_; intro g4 c4 w4 hA; obtain ⟨y0, y1, hd5, hk5⟩ := HFA.out w4 g4 c4 hA; have hk6 := hk0.trans hk5; have v0 := bx_cells hd5.box 0; have v1 := HP.out _ _ _ hd5; rw [fl_add_0] at v1; have v2 := hd5.row.frozenAt (q * 3 + 1); have HD5 := Lib.hid hd5; simp only [HIL.out] at v0; clear hd5)
            have hi1 : (q : Int) < (q : Int) + 1 := by omega
            generalize w4.setCell ⟨x, 0, none⟩ (.slice (some ⟨g4, 0, none⟩) (q + 1) c4) = W5 at hk6 v0 v1 v2 HD5 ⊢
            refine wp_region_quiet_tail 17 (by kernel_rfl) (by kernel_rfl) ?_
            simp only [List.take_succ_cons, List.take_zero, List.drop_succ_cons, List.drop_zero]
            repeat (go_big_quiet_step (fail))
            refine wpQuiet_nil ?_
            rintro _ ⟨n2, rfl⟩
            have hdu2 : Rk x (some ⟨g4, 0, none⟩) c4 { S with fs := I } (W5.drewN n2) := ⟨HD5.out.box, HD5.out.row⟩
            have hk7 := hk6.trans (TKeep.of_below (T := 54) (d := x) (below_drewN (Below.refl _ W5) n2) (Nat.le_of_lt HD5.out.lt))
            obtain ⟨hd8, hk8⟩ := HST.out _ _ _ hdu2
            have HOP8 := Lib.hid (HOP.out _ _ _ hd8)
            have hk9 := hk7.trans hk8
            cases B2 with
            | true =>
              go_wp2_with (go_at_call 53; refine (HOP8.out).mono ?_; rintro e w6 ⟨rfl, hd6, hkA⟩)
              go_ret
              exact ⟨by rw [← HV.out]; rfl, _, _, hd6, hk9.trans hkA⟩
            | false =>
              go_wp2_with (go_at_call 53; refine (HOP8.out).mono ?_; rintro e w6 ⟨rfl, hd6, hkA⟩)
              go_ret
              exact ⟨by rw [← HV.out]; rfl, _, _, hd6, hk9.trans hkA⟩
end Go.Proofs.Ytmkaijjakcjflaa
