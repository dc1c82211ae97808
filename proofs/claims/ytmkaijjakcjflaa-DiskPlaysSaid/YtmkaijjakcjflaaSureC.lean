/- Layer 7: what must be there behind an act that told no error. -/
import Derived.Test.YtmkaijjakcjflaaSureB
import Derived.Deep.RegionWith
namespace Go.Proofs.Ytmkaijjakcjflaa
open Go.ChangeShapes Go.WideShapes Go.ChangeAt Go.RowKit Go.Deep DiskP

def cutN (G : ByteArray) (n : Int) : Nat := (max 0 (min (G.size : Int) n)).toNat
def noteL (S : DS) (L : List (ByteArray × ByteArray)) (x : Ac) : List (ByteArray × ByteArray) :=
  if x.kind = 2 then dropL L x.nm ++ [(x.nm, (readD S x.nm).1)]
  else if x.kind = 3 then dropL (dropL L x.nm) x.to_ ++ [(x.to_, getL L x.nm)]
  else if x.kind = 4 then dropL L x.nm
  else dropL L x.nm ++ [(x.nm, (getL L x.nm).extract 0 (cutN (getL L x.nm) x.n))]
theorem noteL_len (S : DS) (L : List (ByteArray × ByteArray)) (x : Ac) : (noteL S L x).length ≤ L.length + 1 := by
  have h1 := drop_len L x.nm
  have h2 := drop_len (dropL L x.nm) x.to_
  unfold noteL
  split
  · simp; omega
  · split
    · simp; omega
    · split
      · omega
      · simp; omega
theorem tkeep_box {T : TypeId} {s : Nat} {w w' : World} (h : TKeep T s w w') {b : Nat} {cs : Array Value} {U : TypeId} (hb : w.heap[b]? = some (.cells cs U (0, 0))) (hd : b ≠ s) (hT : U ≠ T) : w'.heap[b]? = some (.cells cs U (0, 0)) := by
  rcases Nat.lt_or_ge b s with h1 | h1
  · exact (h.below.block b h1).trans hb
  · exact (h.others b (by omega) (bx_lt hb) (fun cs' z e => by rw [hb] at e; simp at e; exact hT e.2.1)).trans hb

set_option maxRecDepth 100000 in
set_option maxHeartbeats 4000000 in
theorem law07_note (d s c c1 c2 : Nat) (A A1 A2 : Option Addr) (S : DS) (hS : OkD S) (L : List (ByteArray × ByteArray)) (hl : L.length ≤ 900) (x : Ac) (h25 : 2 ≤ x.kind ∧ x.kind ≤ 5) (w : World) (hD : Dk d A c S w) (h : Sr s A1 A2 c1 c2 L w) :
    Calls Try.prog 10 #[.pointer (some ⟨s, 0, none⟩), .pointer (some ⟨d, 0, none⟩), .agg #[.int .i64 x.kind, .string x.nm, .string x.to_, .string x.s, .int .i64 x.n, .slice x.Ak x.ks.length x.ck]] w
      fun e w' => e = .returned (.tuple #[]) ∧ ∃ A1 A2 c1 c2, Sr s A1 A2 c1 c2 (noteL S L x) w' ∧ TKeep 9 s w w' := by
  obtain ⟨kind, nm, to_, st, n, Ak, ck, ks⟩ := x
  simp only at h25 ⊢
  obtain ⟨w2, hw2⟩ : ∃ w2, w2 = w.alloc (.cells #[.int .i64 kind, .string nm, .string to_, .string st, .int .i64 n, .slice Ak ks.length ck] 35) := ⟨_, rfl⟩
  have b2 : Below w.heap.size w w2 := by rw [hw2]; exact alloc_kept w _
  have hsl := h.lt
  have k2 : TKeep 9 s w w2 := TKeep.of_below b2 (Nat.le_of_lt hsl)
  have h2 := h.kept b2
  have d2 := hD.kept b2
  have HA0 : w2.heap[w.heap.size]? = some (.cells #[.int .i64 kind, .string nm, .string to_, .string st, .int .i64 n, .slice Ak ks.length ck] 35 (0, 0)) := by rw [hw2]; exact heap_alloc_new w _
  have HBX := Lib.hid HA0
  have HK2 := Lib.hid k2
  have HS2 := Lib.hid h2
  have HW2 := Lib.hid hw2
  have HR := Lib.hid (disk_Read d A c S nm hS.sorted (by have := hS.many; omega) w2 d2)
  have HSET := Lib.hid (fun A1 A2 c1 c2 L hl nm v W h => sure_set s c1 c2 A1 A2 L hl nm v W h)
  have HDROP := Lib.hid (fun A1 A2 c1 c2 L hl nm W h => sure_drop s c1 c2 A1 A2 L hl nm W h)
  have HGET := Lib.hid (sure_get s c1 c2 A1 A2 L (by omega) nm w2 h2)
  have hdl := drop_len L nm
  have HNE := Lib.hid (show w.heap.size ≠ s by omega)
  clear HA0 h2 d2 k2 b2 h hD hsl hw2
  by_cases e2 : kind = 2
  · subst e2
    have hn : noteL S L ⟨2, nm, to_, st, n, Ak, ck, ks⟩ = dropL L nm ++ [(nm, (readD S nm).1)] := by unfold noteL; rw [if_pos rfl]
    rw [hn]
    clear hn
    go_enter Try.func10, Try.ntmps10
    go_wp2_with (first
      | (go_at_call 12; rw [← HW2.out]; (with_reducible refine (HR.out).mono ?_); rintro e w3 ⟨rfl, b3⟩; have y1 := bx_cells (bx_kept HBX.out b3) 1; have s3 := HS2.out.kept b3; have k3 := HK2.out.trans (TKeep.of_below b3 (Nat.le_of_lt HS2.out.lt)))
      | (go_at_call 31; (with_reducible refine (HSET.out _ _ _ _ _ (by omega) _ _ _ s3).mono ?_); rintro e w4 ⟨rfl, B1, B2, e1, e2, s4, k4⟩))
    go_end0
    exact ⟨rfl, B1, B2, e1, e2, s4, k3.trans k4⟩
  by_cases e3 : kind = 3
  · subst e3
    have hn : noteL S L ⟨3, nm, to_, st, n, Ak, ck, ks⟩ = dropL (dropL L nm) to_ ++ [(to_, getL L nm)] := by unfold noteL; rw [if_neg (by simp), if_pos rfl]
    rw [hn]
    clear hn e2
    go_enter Try.func10, Try.ntmps10
    go_wp2_with (first
      | (go_at_call 32; rw [← HW2.out]; (with_reducible refine (HGET.out).mono ?_); rintro e w3 ⟨rfl, rfl⟩; have y1 := bx_cells HBX.out 1)
      | (go_at_call 33; (with_reducible refine (HDROP.out _ _ _ _ _ (by omega) _ _ HS2.out).mono ?_); rintro e w4 ⟨rfl, B1, B2, e1, e2, s4, k4⟩; have y2 := bx_cells (tkeep_box k4 HBX.out HNE.out (by decide)) 2)
      | (go_at_call 31; (with_reducible refine (HSET.out _ _ _ _ _ (by omega) _ _ _ s4).mono ?_); rintro e w5 ⟨rfl, C1, C2, f1, f2, s5, k5⟩))
    go_end0
    exact ⟨rfl, C1, C2, f1, f2, s5, (HK2.out.trans k4).trans k5⟩
  by_cases e4 : kind = 4
  · subst e4
    have hn : noteL S L ⟨4, nm, to_, st, n, Ak, ck, ks⟩ = dropL L nm := by unfold noteL; rw [if_neg (by simp), if_neg (by simp), if_pos rfl]
    rw [hn]
    clear hn e2 e3
    go_enter Try.func10, Try.ntmps10
    go_wp2_with (go_at_call 33; rw [← HW2.out]; (with_reducible refine (HDROP.out _ _ _ _ _ (by omega) _ _ HS2.out).mono ?_); rintro e w4 ⟨rfl, B1, B2, e1, e2, s4, k4⟩)
    go_end0
    exact ⟨rfl, B1, B2, e1, e2, s4, HK2.out.trans k4⟩
  obtain rfl : kind = 5 := by omega
  have hn : noteL S L ⟨5, nm, to_, st, n, Ak, ck, ks⟩ = dropL L nm ++ [(nm, (getL L nm).extract 0 (cutN (getL L nm) n))] := by unfold noteL; rw [if_neg (by simp), if_neg (by simp), if_neg (by simp)]
  rw [hn]
  clear hn e2 e3 e4
  obtain ⟨G, hG⟩ : ∃ G, getL L nm = G := ⟨_, rfl⟩
  rw [hG] at HGET ⊢
  have hm : max 0 (min (G.size : Int) n) = (cutN G n : Int) := by unfold cutN; omega
  have hmle : (cutN G n : Int) ≤ (G.size : Int) := by omega
  generalize cutN G n = m at hm hmle ⊢
  have HSD := Lib.hid (HS2.out.kept (Below.refl _ w2).drew)
  have HKD := Lib.hid (HK2.out.trans (TKeep.of_below (Below.refl _ w2).drew (Nat.le_of_lt HS2.out.lt)))
  clear hG
  go_enter Try.func10, Try.ntmps10
  go_wp2_with (go_at_call 32; rw [← HW2.out]; (with_reducible refine (HGET.out).mono ?_); rintro e w3 ⟨rfl, rfl⟩; have y1 := bx_cells HBX.out 1; have y4 := bx_cells HBX.out 4)
  go_region_with (go_at_call 31; (with_reducible refine (HSET.out _ _ _ _ _ (by omega) _ _ _ HSD.out).mono ?_); rintro e w5 ⟨rfl, C1, C2, f1, f2, s5, k5⟩)
  all_goals
    go_end0
    exact ⟨rfl, C1, C2, f1, f2, s5, HKD.out.trans k5⟩
end Go.Proofs.Ytmkaijjakcjflaa
