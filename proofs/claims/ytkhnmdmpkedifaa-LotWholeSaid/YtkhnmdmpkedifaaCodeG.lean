/- Walks of layer 9 (code): a record is read by the document; a record is taken out of bytes. -/
import Derived.Test.YtkhnmdmpkedifaaCodeE
import Derived.Test.YtkhnmdmpkedifaaCodeF
namespace Go.Proofs.Ytkhnmdmpkedifaa
open Go.ChangeShapes Go.WideShapes Go.ChangeAt Go.RowKit Go.Deep


set_option maxRecDepth 100000 in
set_option maxHeartbeats 4000000 in
theorem ref9_Read (b : Nat) (r : PackP.St) (hl : r.1.length ≤ 100000) (w : World) (h : Rdr 55 b r w) :
    Calls Try.prog 47 #[.pointer (some ⟨b, 0, none⟩)] w (RdPost 55 b (CodeP.rSp r).2 (spV (CodeP.rSp r).1) w) := by
  have hlt := h.lt
  have hneA : ¬ (b = w.heap.size) := by omega
  have l1 := rNum_len r
  rcases ea : PackP.rNum r with ⟨va, ra⟩
  rw [ea] at l1; simp only at l1
  have l2 := rNum_len ra
  rcases eb : PackP.rNum ra with ⟨vb, rb⟩
  rw [eb] at l2; simp only at l2
  have l3 := rNum_len rb
  rcases ec : PackP.rNum rb with ⟨vc, rc⟩
  rw [ec] at l3; simp only at l3
  have l4 := rNum_len rc
  rcases ed : PackP.rNum rc with ⟨vd, rd⟩
  rw [ed] at l4; simp only at l4
  have l5 := rText_len 24 rd
  rcases ee : PackP.rText 24 rd with ⟨ve, re⟩
  rw [ee] at l5; simp only at l5
  have l6 := rText_len 24 re
  rcases ef : PackP.rText 24 re with ⟨vf, rf⟩
  rw [ef] at l6; simp only at l6
  have l7 := rSigned_len rf
  rcases eg : PackP.rSigned rf with ⟨vg, rg⟩
  rw [eg] at l7; simp only at l7
  have l8 := rSigned_len rg
  rcases eh : PackP.rSigned rg with ⟨vh, rh⟩
  rw [eh] at l8; simp only at l8
  rcases ei : PackP.rFlag rh with ⟨vi, ri⟩
  rw [rSp_steps r ra rb rc rd re rf rg rh ri va vb vc vd ve vf vg vh vi ea eb ec ed ee ef eg eh ei]
  have H0 := Lib.hid (fun o => h.kept (World.grownBy_alloc w o none) (by simp))
  have H1 := Lib.hid (fun W (k : Rdr 55 b r W) => ea ▸ ref5_Num b r (by omega) W k)
  have H2 := Lib.hid (fun W (k : Rdr 55 b ra W) => eb ▸ ref5_Num b ra (by omega) W k)
  have H3 := Lib.hid (fun W (k : Rdr 55 b rb W) => ec ▸ ref5_Num b rb (by omega) W k)
  have H4 := Lib.hid (fun W (k : Rdr 55 b rc W) => ed ▸ ref5_Num b rc (by omega) W k)
  have H5 := Lib.hid (fun W (k : Rdr 55 b rd W) => ee ▸ ref5_Text b 24 rd (by omega) W k)
  have H6 := Lib.hid (fun W (k : Rdr 55 b re W) => ef ▸ ref5_Text b 24 re (by omega) W k)
  have H7 := Lib.hid (fun W (k : Rdr 55 b rf W) => eg ▸ ref5_Signed b rf (by omega) W k)
  have H8 := Lib.hid (fun W (k : Rdr 55 b rg W) => eh ▸ ref5_Signed b rg (by omega) W k)
  have H9 := Lib.hid (fun W (k : Rdr 55 b rh W) => ei ▸ ref5_Flag b rh (by omega) W k)
  clear ea eb ec ed ee ef eg eh ei l1 l2 l3 l4 l5 l6 l7 l8 h hl
  obtain ⟨li, er⟩ := ri
  simp only
  obtain ⟨xx, hxx⟩ : ∃ xx, (if er ≠ 0 then CodeP.Sp.zero else ⟨va, vb, vc, vd, ve, vf, vg, vh, vi⟩) = xx := ⟨_, rfl⟩
  rw [hxx]
  have HX := Lib.hid hxx
  clear hxx
  have G9 := Lib.hid (fun (W9 : World) {W1 W2 W3 W4 W5 W6 W7 W8 : World} (p1 : (w.alloc (.cells #[.int .i64 0, .int .i64 0, .int .i64 0, .int .i64 0, .string ⟨#[]⟩, .string ⟨#[]⟩, .int .i64 0, .int .i64 0, .bool false] 23)).grownBy W1 (some b)) (p2 : W1.grownBy W2 (some b)) (p3 : W2.grownBy W3 (some b)) (p4 : W3.grownBy W4 (some b)) (p5 : W4.grownBy W5 (some b)) (p6 : W5.grownBy W6 (some b)) (p7 : W6.grownBy W7 (some b)) (p8 : W7.grownBy W8 (some b)) (p9 : W8.grownBy W9 (some b)) => (by
    have k := ((grown_trans (grown_trans (grown_trans (grown_trans (grown_trans (grown_trans (grown_trans (grown_trans p1 p2) p3) p4) p5) p6) p7) p8) p9).block w.heap.size (by rw [World.size_alloc]; omega) (fun e => hneA (Option.some.inj e).symm)).trans (heap_alloc_new w _)
    exact ⟨box_cells k, box_free k⟩ : (∀ j, W9.cell? ⟨w.heap.size, j, none⟩ = (#[.int .i64 0, .int .i64 0, .int .i64 0, .int .i64 0, .string ⟨#[]⟩, .string ⟨#[]⟩, .int .i64 0, .int .i64 0, .bool false] : Array Value)[j]?) ∧ (∀ j, W9.frozen? ⟨w.heap.size, j, none⟩ = false)))
  go_enter Try.func47, Try.ntmps47
  go_wp2_with (first
    | (go_at_call 45; (with_reducible refine (H1.out _ (H0.out _)).mono ?_); rintro e w1 ⟨rfl, r1, g1⟩)
    | (go_at_call 45; (with_reducible refine (H2.out _ r1).mono ?_); rintro e w2 ⟨rfl, r2, g2⟩)
    | (go_at_call 45; (with_reducible refine (H3.out _ r2).mono ?_); rintro e w3 ⟨rfl, r3, g3⟩)
    | (go_at_call 45; (with_reducible refine (H4.out _ r3).mono ?_); rintro e w4 ⟨rfl, r4, g4⟩)
    | (go_at_call 73; (with_reducible refine (H5.out _ r4).mono ?_); rintro e w5 ⟨rfl, r5, g5⟩)
    | (go_at_call 73; (with_reducible refine (H6.out _ r5).mono ?_); rintro e w6 ⟨rfl, r6, g6⟩)
    | (go_at_call 72; (with_reducible refine (H7.out _ r6).mono ?_); rintro e w7 ⟨rfl, r7, g7⟩)
    | (go_at_call 72; (with_reducible refine (H8.out _ r7).mono ?_); rintro e w8 ⟨rfl, r8, g8⟩)
    | (go_at_call 74; (with_reducible refine (H9.out _ r8).mono ?_); rintro e w9 ⟨rfl, r9, g9⟩; have q9 := r9.c1; have d9 := G9.out _ g1 g2 g3 g4 g5 g6 g7 g8 g9; obtain ⟨d9, e9⟩ := d9))
  all_goals
    have T9 := grown_trans (grown_trans (grown_trans (grown_trans (grown_trans (grown_trans (grown_trans (grown_trans (grown_trans (World.grownBy_alloc _ _ _) g1) g2) g3) g4) g5) g6) g7) g8) g9
  · have hz : er ≠ 0 := by have h := ‹(er != 0) = true›; simpa using h
    obtain rfl : CodeP.Sp.zero = xx := by rw [← HX.out, if_pos hz]
    refine bodyPost_ret (v := spV CodeP.Sp.zero) (by simp [results, Try.results47, go_sem, spV, CodeP.Sp.zero, d9]) rfl ⟨rfl, ?_, ?_⟩
    · repeat (refine Rdr.other ?_ _ _ _ hneA)
      exact r9
    · repeat (refine grown_own ?_ _ _)
      exact T9
  · have hz : er = 0 := by first | assumption | (have h := ‹(er != 0) = false›; simpa using h)
    obtain rfl : (⟨va, vb, vc, vd, ve, vf, vg, vh, vi⟩ : CodeP.Sp) = xx := by rw [← HX.out, if_neg (by simpa using hz)]
    refine bodyPost_ret (v := spV ⟨va, vb, vc, vd, ve, vf, vg, vh, vi⟩) (by simp [results, Try.results47, go_sem, spV, d9]) rfl ⟨rfl, ?_, ?_⟩
    · repeat (refine Rdr.other ?_ _ _ _ hneA)
      exact r9
    · repeat (refine grown_own ?_ _ _)
      exact T9
