/- Walks of layer 7 (disk): Append, where it is done. -/
import Derived.Test.YtmkaijjakcjflaaDiskI
namespace Go.Proofs.Ytmkaijjakcjflaa
open Go.ChangeShapes Go.WideShapes Go.ChangeAt Go.RowKit Go.Deep DiskP

theorem used_mem {fs : List Fl} {f : Fl} {k : Nat} (h : fs[k]? = some f) : f.all.size ≤ used fs := by
  have h1 := used_take h
  have h2 := used_le fs (k + 1)
  omega
set_option maxRecDepth 100000 in
set_option maxHeartbeats 4000000 in
theorem disk_Append_has (d : Nat) (A : Option Addr) (c : Nat) (S : DS) (hS : OkD S) (nm s : ByteArray) (hnm : nm.size ≤ 1000) (hs : s.size ≤ 1000000) (hon : S.on = true) (hn : namedD nm = true) (hfit : ¬ S.room - (used S.fs : Int) < (s.size : Int)) (hh : has S.fs nm = true) (w : World) (h : Dk d A c S w) :
    Calls Try.prog 23 #[.pointer (some ⟨d, 0, none⟩), .string nm, .string s] w (DPost d (begun { S with fs := putF S.fs nm s }).1 (.int .i64 (begun { S with fs := putF S.fs nm s }).2) w) := by
  have hl : S.fs.length ≤ 1000 := by have := hS.many; omega
  have HF := Lib.hid (disk_find d A c S nm hS.sorted hl w h)
  have HN := Lib.hid (fun W => disk_named nm (by unfold maxLen; omega) W)
  have HD := Lib.hid h
  obtain ⟨f, hf, -⟩ := has_some hh
  have hp := (List.getElem?_eq_some_iff.1 hf).1
  obtain ⟨g, rfl, hdg, hgl⟩ := row_some h.row (by omega)
  have hput : putF S.fs nm s = S.fs.set (pos S.fs nm) { f with all := f.all ++ s } := by unfold putF; rw [hf]; simp [hh]
  rw [hput]
  have hfsz := used_mem hf
  have hU := hS.size
  have hroom := hS.room
  have hfull := hS.full
  have HFO := Lib.hid (And.intro hS.fuse hS.ops)
  have HUS := Lib.hid (fun (W : World) (hd : Dk d (some ⟨g, 0, none⟩) c S W) => disk_Used d _ c S hl (by omega) W hd)
  have HX := Lib.hid (fun (W : World) (hd : Dk d (some ⟨g, 0, none⟩) c S W) (u : Later W.heap.size W) => And.intro ((u.h.cell (p := ⟨d, 0, none⟩) hd.lt).trans (bx_cells hd.box 0)) ((u.h.cell (p := ⟨d, 1, none⟩) hd.lt).trans (bx_cells hd.box 1)))
  have HKD := Lib.hid (fun (W : World) (hd : Dk d (some ⟨g, 0, none⟩) c S W) (u : Later W.heap.size W) => HUS.out u.w (hd.kept u.h))
  rw [hn] at HN
  rw [hh] at HF
  generalize pos S.fs nm = p at HF hf hp ⊢
  have HP := Lib.hid (fun (W : World) (hd : Dk d (some ⟨g, 0, none⟩) c S W) => hd.row.cells (g := g) rfl (p * 3 + 1) (.string f.all) (by rw [fC_at _ p f hf 1 (by omega)]; rfl))
  have HST := Lib.hid (fun (W : World) (hd : Dk d (some ⟨g, 0, none⟩) c S W) => hd.set_file (k := p) (f' := { f with all := f.all ++ s }) (r := 1) (u := .string (f.all ++ s)) hf (by omega) rfl)
  clear h hS hput hf hh hn
  have HOP := Lib.hid (fun (W : World) (hd : Dk d (some ⟨g, 0, none⟩) c { S with fs := S.fs.set p { f with all := f.all ++ s } } W) => disk_op_none d _ c { S with fs := S.fs.set p { f with all := f.all ++ s } } hon HFO.out.1 HFO.out.2 W hd)
  have hdec : decide (S.room - (used S.fs : Int) < (s.size : Int)) = false := decide_eq_false hfit
  generalize used S.fs = U at HKD hfit hdec hfsz hU hfull
  have hi1 : (p : Int) < (S.fs.length : Int) := by omega
  clear hfit
  go_enter Try.func23, Try.ntmps23
  go_wp2_with (first
    | (go_at_call 34; (with_reducible refine (HF.out).mono ?_); rintro e w1 ⟨rfl, b1⟩; have hd1 := HD.out.kept b1)
    | (go_at_call 11; refine (disk_On d _ c S _ hd1).mono ?_; rintro e w2 ⟨rfl, rfl⟩; rw [hon])
    | (go_at_call 40; (with_reducible refine (HN.out _).mono ?_); rintro e w3 ⟨rfl, b3⟩; have hd3 := hd1.kept b3))
  have F0 := fun u => (HX.out _ hd3 u).1
  have F1 := fun u => (HX.out _ hd3 u).2
  have HK3 := Lib.hid (HKD.out _ hd3)
  refine wp_region_later w3.heap.size (by kernel_rfl) (by kernel_rfl) ?_
  repeat (go_big_quiet_step ((go_at_call 16; exact later_of _ (Nat.le_refl _) (HK3.out _))))
  refine wpQuiet_nil ?_; intro _ hw'; obtain ⟨u, hw''⟩ := hw'; subst hw''
  have hdu := hd3.kept u.h
  have y0 := bx_cells hdu.box 0
  have y1 := HP.out _ hdu
  rw [fl_add_0] at y1
  have y2 := hdu.row.frozenAt (p * 3 + 1)
  obtain ⟨hd5, hk5⟩ := HST.out _ hdu
  have HOP5 := Lib.hid (HOP.out _ hd5)
  clear F0 F1 HOP HST HP HX HKD HF
  have hBu : Below w.heap.size w u.w := by have b9 := u.h; (repeat (first | assumption | exact Below.refl _ _ | refine below_step (by assumption) ?_ | refine below_alloc' _ ?_ | refine below_drewN ?_ _ | refine Below.drew ?_))
  go_wp2_with (go_at_call 42; refine (HOP5.out).mono ?_; rintro e w6 ⟨rfl, A6, c6, hd6, hk6⟩)
  go_ret
  exact ⟨(by rw [hon]; rfl), A6, c6, hd6, (DKeep.of_below hBu (Nat.le_of_lt HD.out.lt)).trans (hk5.trans hk6)⟩
theorem ins_facts {d c q : Nat} {A A4 : Option Addr} {c4 : Nat} {S : DS} {u w4 : World} {tmp : Obj} {ins : List Fl} (hd : Dk d A c S u) (hq : ins.length = q) (hq0 : 0 < q)
    (o4 : w4.ownsRow (d + 1) 67 3 (.slice A4 q c4) q (ins.flatMap fC)) (g4 : (u.alloc tmp).grownBy w4 (Value.ownBlock (.slice A S.fs.length c))) :
    w4.cell? ⟨d, 0, none⟩ = some (.slice A S.fs.length c) ∧ w4.frozen? ⟨d, 0, none⟩ = false ∧ (∃ g, A4 = some ⟨g, 0, none⟩) ∧ Dk d A4 c4 { S with fs := ins } (w4.setCell ⟨d, 0, none⟩ (.slice A4 q c4)) ∧ DKeep d u (w4.setCell ⟨d, 0, none⟩ (.slice A4 q c4)) := by
  subst hq
  have hne : some d ≠ Value.ownBlock (.slice A S.fs.length c) := fun e => by have := (hd.row.lt d e.symm).1; omega
  have hb : w4.heap[d]? = some (.cells #[.slice A S.fs.length c, .int .i64 S.room, .bool S.made, .bool S.on, .int .i64 S.fuse, .int .i64 S.ops] 44 (0, 0)) :=
    (g4.block d (by rw [World.size_alloc]; have := hd.lt; omega) hne).trans ((Below.heap_alloc u tmp d hd.lt).trans hd.box)
  obtain ⟨g, hg, _, _⟩ := row_some o4 hq0
  refine ⟨bx_cells hb 0, bx_free hb 0, ⟨g, hg⟩, ⟨by simpa using bx_set hb 0 (.slice A4 ins.length c4), dk_row_other o4 _⟩, ?_⟩
  have k1 : DKeep d (u.alloc tmp) w4 := dkeep_grown (hd.row.alloc tmp) g4 (by rw [World.size_alloc]; have := hd.lt; omega)
  exact ((DKeep.of_below (below_alloc' tmp (Below.refl _ u)) (Nat.le_of_lt hd.lt)).trans k1).trans (dkeep_set _)
theorem ins_at (fs : List Fl) (f : Fl) (p : Nat) (hp : p ≤ fs.length) : (fs.take p ++ f :: fs.drop p)[p]? = some f := by
  rw [List.getElem?_append_right (by rw [List.length_take]; omega), List.length_take, show p - min p fs.length = 0 by omega]
  rfl
theorem ins_set (fs : List Fl) (f f' : Fl) (p : Nat) (hp : p ≤ fs.length) : (fs.take p ++ f :: fs.drop p).set p f' = fs.take p ++ f' :: fs.drop p := by
  rw [List.set_append_right _ _ (by rw [List.length_take]; omega), List.length_take, show p - min p fs.length = 0 by omega]
  rfl
theorem ins_len (fs : List Fl) (f : Fl) (p : Nat) (hp : p ≤ fs.length) : (fs.take p ++ f :: fs.drop p).length = fs.length + 1 := by
  rw [List.length_append, List.length_cons, List.length_take, List.length_drop]; omega
set_option maxRecDepth 100000 in
set_option maxHeartbeats 4000000 in
theorem disk_Append_new (d : Nat) (A : Option Addr) (c : Nat) (S : DS) (hS : OkD S) (nm s : ByteArray) (hnm : nm.size ≤ 1000) (hs : s.size ≤ 1000000) (hon : S.on = true) (hn : namedD nm = true) (hfit : ¬ S.room - (used S.fs : Int) < (s.size : Int)) (hh : has S.fs nm = false) (h64 : S.fs.length < 64) (w : World) (h : Dk d A c S w) :
    Calls Try.prog 23 #[.pointer (some ⟨d, 0, none⟩), .string nm, .string s] w (DPost d (begun { S with fs := putF S.fs nm s }).1 (.int .i64 (begun { S with fs := putF S.fs nm s }).2) w) := by
  have hl : S.fs.length ≤ 1000 := by omega
  have HF := Lib.hid (disk_find d A c S nm hS.sorted hl w h)
  have HN := Lib.hid (fun W => disk_named nm (by unfold maxLen; omega) W)
  have HD := Lib.hid h
  have hp := pos_le S.fs nm
  have hput : putF S.fs nm s = S.fs.take (pos S.fs nm) ++ ⟨nm, ⟨#[]⟩ ++ s, 0⟩ :: S.fs.drop (pos S.fs nm) := by unfold putF; split <;> simp [hh]
  rw [hput]
  have hU := hS.size
  have hroom := hS.room
  have hfull := hS.full
  have HFO := Lib.hid (And.intro hS.fuse hS.ops)
  have HUS := Lib.hid (fun (W : World) (hd : Dk d A c S W) => disk_Used d _ c S hl (by omega) W hd)
  have HX := Lib.hid (fun (W : World) (hd : Dk d A c S W) (u : Later W.heap.size W) => And.intro ((u.h.cell (p := ⟨d, 0, none⟩) hd.lt).trans (bx_cells hd.box 0)) ((u.h.cell (p := ⟨d, 1, none⟩) hd.lt).trans (bx_cells hd.box 1)))
  have HKD := Lib.hid (fun (W : World) (hd : Dk d A c S W) (u : Later W.heap.size W) => HUS.out u.w (hd.kept u.h))
  rw [hn] at HN
  rw [hh] at HF
  generalize pos S.fs nm = p at HF hp ⊢
  have HINS := Lib.hid (fun (W : World) (hd : Dk d A c S W) (b : Nat) (hb : b = W.heap.size) => (by
    subst hb
    exact disk_insert (d + 1) A c W.heap.size p S.fs ⟨nm, ⟨#[]⟩, 0⟩ (by omega) hp (W.alloc (.cells #[.string nm, .string ⟨#[]⟩, .int .i64 0] 67)) (hd.row.alloc _) (by rw [World.size_alloc]; have := hd.lt; omega) (heap_alloc_new W _) (fun e => by have := (hd.row.lt _ e).2; omega) :
      Calls Try.prog 41 #[.slice A S.fs.length c, .int .i64 p, .slice (some ⟨b, 0, none⟩) 1 1] (W.alloc (.cells #[.string nm, .string ⟨#[]⟩, .int .i64 0] 67)) fun e w' => ∃ A' c', e = .returned (.slice A' (S.fs.length + 1) c') ∧ w'.ownsRow (d + 1) 67 3 (.slice A' (S.fs.length + 1) c') (S.fs.length + 1) ((S.fs.take p ++ ⟨nm, ⟨#[]⟩, 0⟩ :: S.fs.drop p).flatMap fC) ∧ (W.alloc (.cells #[.string nm, .string ⟨#[]⟩, .int .i64 0] 67)).grownBy w' (Value.ownBlock (.slice A S.fs.length c))))
  obtain ⟨I, hI⟩ : ∃ I, S.fs.take p ++ ⟨nm, ⟨#[]⟩, 0⟩ :: S.fs.drop p = I := ⟨_, rfl⟩
  have hIl : I.length = S.fs.length + 1 := by rw [← hI]; exact ins_len _ _ _ hp
  have hIa : I[p]? = some ⟨nm, ⟨#[]⟩, 0⟩ := by rw [← hI]; exact ins_at _ _ _ hp
  have hIs : I.set p ⟨nm, ⟨#[]⟩ ++ s, 0⟩ = S.fs.take p ++ ⟨nm, ⟨#[]⟩ ++ s, 0⟩ :: S.fs.drop p := by rw [← hI]; exact ins_set _ _ _ _ hp
  rw [← hIs]
  rw [hI] at HINS
  have HIL := Lib.hid hIl
  have HFACT := Lib.hid (fun (W : World) (hd : Dk d A c S W) (tmp : Obj) (w4 : World) (A4 : Option Addr) (c4 : Nat) o4 (g4 : (W.alloc tmp).grownBy w4 (Value.ownBlock (.slice A S.fs.length c))) => ins_facts (c4 := c4) (A4 := A4) hd hIl (by omega) o4 g4)
  have HP := Lib.hid (fun (W : World) (g c4 : Nat) (hd : Dk d (some ⟨g, 0, none⟩) c4 { S with fs := I } W) => hd.row.cells (g := g) rfl (p * 3 + 1) (.string ⟨#[]⟩) (by rw [fC_at _ p _ hIa 1 (by omega)]; rfl))
  have HST := Lib.hid (fun (W : World) (g c4 : Nat) (hd : Dk d (some ⟨g, 0, none⟩) c4 { S with fs := I } W) => hd.set_file (k := p) (f' := ⟨nm, ⟨#[]⟩ ++ s, 0⟩) (r := 1) (u := .string (⟨#[]⟩ ++ s)) hIa (by omega) rfl)
  have HOP := Lib.hid (fun (W : World) (g c4 : Nat) (hd : Dk d (some ⟨g, 0, none⟩) c4 { S with fs := I.set p ⟨nm, ⟨#[]⟩ ++ s, 0⟩ } W) => disk_op_none d _ c4 { S with fs := I.set p ⟨nm, ⟨#[]⟩ ++ s, 0⟩ } hon HFO.out.1 HFO.out.2 W hd)
  have hip : p < I.length := by omega
  have hip2 : (p : Int) < (I.length : Int) := by omega
  clear h hS hput hh hn hIs hIa hI hIl
  have hdec : decide (S.room - (used S.fs : Int) < (s.size : Int)) = false := decide_eq_false hfit
  have hdec2 : decide ((64 : Int) ≤ (S.fs.length : Int)) = false := by rw [decide_eq_false_iff_not]; omega
  generalize used S.fs = U at HKD hfit hdec hU hfull
  have hi1 : (p : Int) < (S.fs.length : Int) + 1 := by omega
  clear hfit
  go_enter Try.func23, Try.ntmps23
  go_wp2_with (first
    | (go_at_call 34; (with_reducible refine (HF.out).mono ?_); rintro e w1 ⟨rfl, b1⟩; have hd1 := HD.out.kept b1)
    | (go_at_call 11; refine (disk_On d _ c S _ hd1).mono ?_; rintro e w2 ⟨rfl, rfl⟩; rw [hon])
    | (go_at_call 40; (with_reducible refine (HN.out _).mono ?_); rintro e w3 ⟨rfl, b3⟩; have hd3 := hd1.kept b3))
  have F0 := fun u => (HX.out _ hd3 u).1
  have F1 := fun u => (HX.out _ hd3 u).2
  have HK3 := Lib.hid (HKD.out _ hd3)
  refine wp_region_later w3.heap.size (by kernel_rfl) (by kernel_rfl) ?_
  repeat (go_big_quiet_step ((go_at_call 16; exact later_of _ (Nat.le_refl _) (HK3.out _))))
  refine wpQuiet_nil ?_; intro _ hw'; obtain ⟨u, hw''⟩ := hw'; subst hw''
  have hdu := hd3.kept u.h
  have hBu : Below w.heap.size w u.w := by have b9 := u.h; (repeat (first | assumption | exact Below.refl _ _ | refine below_step (by assumption) ?_ | refine below_alloc' _ ?_ | refine below_drewN ?_ _ | refine Below.drew ?_))
  generalize u.w = W at hdu hBu ⊢
  have y0 := bx_cells hdu.box 0
  have HI2 := Lib.hid (HINS.out _ hdu _ rfl)
  have HFA := Lib.hid (HFACT.out _ hdu)
  clear F0 F1 HX HKD HF HINS HFACT HK3
  go_wp2_with (first
    | (go_at_call 41; refine (HI2.out).mono ?_; rintro e w4 ⟨A4, c4, rfl, o4, g4⟩; obtain ⟨z0, z1, ⟨g, rfl⟩, hd5, hk5⟩ := HFA.out _ _ _ _ o4 g4; have z2 := bx_cells hd5.box 0; have y1 := HP.out _ _ _ hd5; rw [fl_add_0] at y1; have y2 := hd5.row.frozenAt (p * 3 + 1); obtain ⟨hd6, hk6⟩ := HST.out _ _ _ hd5; have HOP6 := Lib.hid (HOP.out _ _ _ hd6))
    | (go_at_call 42; refine (HOP6.out).mono ?_; rintro e w7 ⟨rfl, A7, c7, hd7, hk7⟩))
  go_ret
  exact ⟨(by rw [hon]; rfl), A7, c7, hd7, (DKeep.of_below hBu (Nat.le_of_lt HD.out.lt)).trans (hk5.trans (hk6.trans hk7))⟩
end Go.Proofs.Ytmkaijjakcjflaa
