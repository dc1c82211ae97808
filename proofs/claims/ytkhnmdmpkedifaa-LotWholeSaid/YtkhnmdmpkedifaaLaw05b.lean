/- The statements of layer 5 (pack): the walk of PackBack. -/
import Derived.Test.YtkhnmdmpkedifaaLaw05
namespace Go.Proofs.Ytkhnmdmpkedifaa
open Go.ChangeShapes Go.WideShapes Go.ChangeAt Go.RowKit Go.Deep

theorem preads_snoc (m : Int) (l : List PackP.Part) (p : PackP.Part) : ∀ r, PackP.preads m (l ++ [p]) r = (PackP.pread p.kind m (PackP.preads m l r)).2 := by
  induction l with
  | nil => intro r; rfl
  | cons q l ih => intro r; exact ih _
theorem rNum_len (r : PackP.St) : (PackP.rNum r).2.1.length ≤ r.1.length := by
  unfold PackP.rNum
  split
  · exact Nat.le_refl _
  · generalize VariP.take 9 r.1 = t
    obtain ⟨n, k, e⟩ := t
    simp only
    split <;> simp
theorem rSigned_len (r : PackP.St) : (PackP.rSigned r).2.1.length ≤ r.1.length := by
  unfold PackP.rSigned
  split
  · exact Nat.le_refl _
  · generalize VariP.take 10 r.1 = t
    obtain ⟨n, k, e⟩ := t
    simp only
    split <;> simp
theorem rText_len (m : Int) (r : PackP.St) : (PackP.rText m r).2.1.length ≤ r.1.length := by
  unfold PackP.rText
  split
  · exact Nat.le_refl _
  · generalize VariP.take 9 r.1 = t
    obtain ⟨n, k, e⟩ := t
    simp only
    split
    · simp
    split
    · simp
    split
    · simp
    · simp
theorem rFlag_len (r : PackP.St) : (PackP.rFlag r).2.1.length ≤ r.1.length := by
  unfold PackP.rFlag
  split
  · exact Nat.le_refl _
  · obtain ⟨l, e⟩ := r
    cases l with
    | nil => simp
    | cons c l => simp only; split <;> simp
theorem pread_len (k m : Int) (r : PackP.St) : (PackP.pread k m r).2.1.length ≤ r.1.length := by
  unfold PackP.pread
  split
  · exact rNum_len r
  split
  · exact rSigned_len r
  split
  · exact rText_len m r
  split
  · exact rFlag_len r
  · exact Nat.le_refl _
theorem preads_len (m : Int) (l : List PackP.Part) : ∀ r, (PackP.preads m l r).1.length ≤ r.1.length := by
  induction l with
  | nil => intro r; exact Nat.le_refl _
  | cons q l ih => intro r; exact Nat.le_trans (ih _) (pread_len _ _ _)
theorem pdrop_cons {α : Type} (l : List α) (k : Nat) (p : α) (h : l[k]? = some p) : l.drop k = p :: l.drop (k + 1) := by
  obtain ⟨hk, rfl⟩ := List.getElem?_eq_some_iff.1 h
  exact List.drop_eq_getElem_cons hk
/-- may a part be? -/
def pgood (p : PackP.Part) : Prop := 1 ≤ p.kind ∧ p.kind ≤ 4 ∧ (p.kind = 1 → 0 ≤ p.n)
theorem Rdr.below {T : TypeId} {b : Nat} {r : PackP.St} {w w' : World} (h : Rdr T b r w) (hb : Below w.heap.size w w') : Rdr T b r w' := (hb.block b h.lt).trans h

set_option maxRecDepth 100000 in
theorem law05_PackBack_many (A : Option Addr) (c : Nat) (l : List PackP.Part) (cut : Int) (hm : l.length ≤ maxLen) (h : ¬ fewP l) (w : World) (hr : RdP w w.heap.size A l) :
    Calls Try.prog 8 #[.slice A l.length c, .int .u16 cut] w fun e w' => e = .returned (.bool true) ∧ Below w.heap.size w w' := by
  have HF := Lib.hid (ref5_Few_no A c l hm h w hr)
  clear h hr
  go_enter Try.func8, Try.ntmps8
  go_wp2_with (first
    | (go_at_call 24; with_reducible refine (HF.out).mono ?_; rintro e w1 ⟨rfl, hb1⟩)
    | (go_at_call 25; refine (law05_awake _).mono ?_; rintro e w1 ⟨rfl, hb1⟩))
  go_ret
  exact ⟨rfl, by (repeat (first | assumption | exact Below.refl _ _ | refine below_step (by assumption) ?_ | refine below_alloc' _ ?_ | refine below_drewN ?_ _ | refine Below.drew ?_))⟩
set_option maxRecDepth 100000 in
set_option maxHeartbeats 4000000 in
theorem law05_PackBack_few (A : Option Addr) (c : Nat) (l : List PackP.Part) (cut : Nat) (hcut : cut < 65536) (hf : fewP l) (h64 : ∀ p ∈ l, I64 p.kind ∧ I64 p.n) (w : World) (hr : RdP w w.heap.size A l) :
    Calls Try.prog 8 #[.slice A l.length c, .int .u16 (cut : Int)] w fun e w' => e = .returned (.bool true) ∧ Below w.heap.size w w' := by
  have HFEW := Lib.hid (ref5_Few_yes A c l hf w hr)
  have HR := Lib.hid hr
  have HF := Lib.hid hf
  have H64 := Lib.hid h64
  have h20 := hf.1
  have HBY := Lib.hid (fun k : Nat => (show (PackP.bytes (l.take k)).length ≤ 12800 by
    have h1 := pbytes_all (l.take k) (fun p hp => hf.2 p (List.mem_of_mem_take hp))
    rw [List.length_take] at h1
    omega))
  clear hr hf h64
  go_enter Try.func8, Try.ntmps8
  go_wp2_with (go_at_call 24; with_reducible refine (HFEW.out).mono ?_; rintro e w1 ⟨rfl, hb1⟩)
  have HW0 := Wr.new w1
  have hsz1 := hb1.size
  go_loopw [6] (fun i wr => ∃ k : Nat, k ≤ l.length ∧ i = .int .i64 k ∧ Wr w1.heap.size (PackP.bytes (l.take k)) wr ∧ Below w.heap.size w wr ∧ ∀ p ∈ l.take k, pgood p) (fun i _ => l.length - (intOf i).toNat)
  case atStart => exact ⟨0, by omega, rfl, by simpa [PackP.bytes] using HW0, below_alloc' _ hb1, by simp⟩
  case round =>
    obtain ⟨k, hk, rfl, hW, hb, hpg⟩ := hrel
    have HPG := Lib.hid hpg
    clear hpg
    by_cases hlt : k < l.length
    · obtain ⟨p, hk'⟩ : ∃ p, l[k]? = some p := ⟨l[k], List.getElem?_eq_getElem hlt⟩
      obtain ⟨ad, rfl, hadl, _⟩ := HR.out k p hk'
      have HX := Lib.hid (fun (W : World) (h : Below w.heap.size w W) => HR.out.at h hk')
      obtain ⟨x0, x1, x2⟩ := HX.out _ hb
      have hmem := List.mem_of_getElem? hk'
      have hpt : PtOk p := ⟨(H64.out p hmem).1, (H64.out p hmem).2, HF.out.2 p hmem⟩
      have hbyt := HBY.out k
      have hi0 : (0 : Int) ≤ (k : Int) := by omega
      have hi1 : (k : Int) < (l.length : Int) := by omega
      have hle : w.heap.size ≤ w1.heap.size := hsz1
      by_cases hg : pgood p
      · have hsn : PackP.bytes (l.take (k + 1)) = PackP.bytes (l.take k) ++ PackP.pbytes p := by rw [ptake_snoc l k p hk', pbytes_snoc]
        have HSN := Lib.hid hsn
        have HTK := Lib.hid (ptake_snoc l k p hk')
        have hWr := law5_write w1.heap.size _ p hpt wr hW (by omega)
        unfold ptV at hWr
        have HG := Lib.hid hg
        obtain ⟨g1, g2, g3⟩ := hg
        by_cases k1 : p.kind = 1
        · have g3' := g3 k1
          rw [k1] at hWr
          have HWr := Lib.hid hWr
          clear hWr hsn hk' hmem hW g3
          go_wp2_with (go_at_call 26; with_reducible refine (HWr.out).mono ?_; rintro e w2 ⟨rfl, r2, b2, _⟩)
          refine ⟨⟨k + 1, by omega, by go_num, by rw [HSN.out]; exact r2, hb.trans (b2.mono hle), fun q hq => ?_⟩, by simp [intOf]; omega⟩
          rw [HTK.out] at hq
          rcases List.mem_append.1 hq with hq | hq
          · exact HPG.out q hq
          · obtain rfl : q = p := by simpa using hq
            exact HG.out
        · have k1' : (p.kind == 1) = false := by rw [beq_eq_false_iff_ne]; exact k1
          have HWr := Lib.hid hWr
          clear hWr hsn hk' hmem hW g3 k1
          go_wp2_with (go_at_call 26; with_reducible refine (HWr.out).mono ?_; rintro e w2 ⟨rfl, r2, b2, _⟩)
          refine ⟨⟨k + 1, by omega, by go_num, by rw [HSN.out]; exact r2, hb.trans (b2.mono hle), fun q hq => ?_⟩, by simp [intOf]; omega⟩
          rw [HTK.out] at hq
          rcases List.mem_append.1 hq with hq | hq
          · exact HPG.out q hq
          · obtain rfl : q = p := by simpa using hq
            exact HG.out
      · unfold pgood at hg
        clear hk' hmem hW
        by_cases q1 : p.kind < 1
        · go_wp2_with (go_at_call 25; refine (law05_awake _).mono ?_; rintro e w3 ⟨rfl, b3⟩)
          go_ret
          exact ⟨rfl, by (repeat (first | assumption | exact Below.refl _ _ | refine below_step (by assumption) ?_ | refine below_alloc' _ ?_ | refine below_drewN ?_ _ | refine Below.drew ?_))⟩
        · by_cases q2 : 4 < p.kind
          · go_wp2_with (go_at_call 25; refine (law05_awake _).mono ?_; rintro e w3 ⟨rfl, b3⟩)
            go_ret
            exact ⟨rfl, by (repeat (first | assumption | exact Below.refl _ _ | refine below_step (by assumption) ?_ | refine below_alloc' _ ?_ | refine below_drewN ?_ _ | refine Below.drew ?_))⟩
          · have q3 : p.kind = 1 := by omega
            have q4 : p.n < 0 := by omega
            go_wp2_with (go_at_call 25; refine (law05_awake _).mono ?_; rintro e w3 ⟨rfl, b3⟩)
            go_ret
            exact ⟨rfl, by (repeat (first | assumption | exact Below.refl _ _ | refine below_step (by assumption) ?_ | refine below_alloc' _ ?_ | refine below_drewN ?_ _ | refine Below.drew ?_))⟩
    · obtain rfl : k = l.length := by omega
      rw [List.take_length] at HPG hW
      have hgood : ∀ p ∈ l, PackP.Good p := fun p hp => ⟨(HPG.out p hp).1, (HPG.out p hp).2.1, (HPG.out p hp).2.2, by have := (H64.out p hp).2; unfold I64 at this; omega, by have := (H64.out p hp).2; unfold I64 at this; omega, HF.out.2 p hp⟩
      have HGD := Lib.hid hgood
      have hbyl := HBY.out l.length
      rw [List.take_length] at hbyl
      have hBl := PackP.bytes_len l hgood
      have hLs := bl_size (PackP.bytes l)
      have HB := Lib.hid (pack_Bytes w1.heap.size (PackP.bytes l) wr hW)
      have hNew := pack_New ⟨(PackP.bytes l).toArray⟩
      rw [show (⟨(PackP.bytes l).toArray⟩ : ByteArray).data.toList = PackP.bytes l from rfl] at hNew
      have hTk := fun n => bl_take (PackP.bytes l) n
      generalize hBB : (⟨(PackP.bytes l).toArray⟩ : ByteArray) = BB at hLs HB hNew hTk
      have HN := Lib.hid hNew
      have HTK := Lib.hid hTk
      clear hNew hTk hBB hgood hW
      go_wp2_with (first
        | (go_at_call 28; with_reducible refine (HB.out).mono ?_; rintro e w2 ⟨rfl, r2, b2, _⟩)
        | (go_at_call 29; with_reducible refine (HN.out _).mono ?_; rintro e w3 ⟨rfl, q3, g3⟩))
      have B2 := hb.trans (b2.mono hsz1)
      have B3 := B2.trans ((below_grown g3).mono B2.size)
      have hrb : w.heap.size ≤ w2.heap.size := B2.size
      have hkk : ∀ k, some w2.heap.size = some k → w.heap.size ≤ k := fun k e => by injection e with e; omega
      go_loopw [9] (fun i wq => ∃ j : Nat, j ≤ l.length ∧ i = .int .i64 j ∧ Rdr 59 w2.heap.size (PackP.bytes (l.drop j), 0) wq ∧ Below w.heap.size w wq) (fun i _ => l.length - (intOf i).toNat)
      case atStart => exact ⟨0, by omega, rfl, by simpa using q3, B3⟩
      case round =>
        obtain ⟨j, hj, rfl, hq, hbq⟩ := hrel
        by_cases hjl : j < l.length
        · obtain ⟨p, hk'⟩ : ∃ p, l[j]? = some p := ⟨l[j], List.getElem?_eq_getElem hjl⟩
          obtain ⟨ad, rfl, hadl, _⟩ := HR.out j p hk'
          have HX := Lib.hid (fun (W : World) (h : Below w.heap.size w W) => HR.out.at h hk')
          obtain ⟨z0, z1, z2⟩ := HX.out _ hbq
          have hmem := List.mem_of_getElem? hk'
          have hG := HGD.out p hmem
          have hi0 : (0 : Int) ≤ (j : Int) := by omega
          have hi1 : (j : Int) < (l.length : Int) := by omega
          have hdr : PackP.bytes (l.drop j) = PackP.pbytes p ++ PackP.bytes (l.drop (j + 1)) := by rw [pdrop_cons l j p hk']; simp [PackP.bytes]
          have hdl : (PackP.bytes (l.drop j)).length ≤ 100000 := by
            have h1 := pbytes_all (l.drop j) (fun p hp => HF.out.2 p (List.mem_of_mem_drop hp))
            rw [List.length_drop] at h1
            omega
          obtain ⟨q, hqr, hal⟩ := PackP.pread_put p hG (PackP.bytes (l.drop (j + 1)))
          obtain ⟨kd, n, s⟩ := p
          obtain ⟨q1, q2, q3⟩ := q
          unfold PackP.Alike at hal
          simp only at hal hqr z0 z1 z2
          obtain ⟨g1, g2, _⟩ := HPG.out _ hmem
          simp only at g1 g2
          have hkd : kd = 1 ∨ kd = 2 ∨ kd = 3 ∨ kd = 4 := by omega
          clear hmem hG g1 g2
          rcases hkd with rfl | rfl | rfl | rfl
          · have hrd := law5_read 1 300 w2.heap.size (PackP.bytes (l.drop j), 0) (by omega) wr hq
            rw [hdr, hqr] at hrd
            unfold ptV at hrd
            have HRd := Lib.hid hrd
            clear hrd hq hdr hqr hk'
            obtain rfl : q2 = n := hal.1 (by decide)
            clear hal
            go_wp2_with (go_at_call 30; with_reducible refine (HRd.out).mono ?_; rintro e w4 ⟨rfl, q4, g4⟩)
            have B4 := hbq.grown g4 hbq.size hkk
            have X := fun u : Later (w4.heap.size + 1) (w4.alloc (.cells #[.int .i64 q1, .int .i64 q2, .string ⟨q3.toArray⟩] 48)) => HX.out u.w ((B4.alloc B4.size _).trans (u.h.mono (by have := B4.size; omega)))
            have x0 := fun u => (X u).1
            have x1 := fun u => (X u).2.1
            have x2 := fun u => (X u).2.2
            have y0 := fun u : Later (w4.heap.size + 1) (w4.alloc (.cells #[.int .i64 q1, .int .i64 q2, .string ⟨q3.toArray⟩] 48)) => (later_row u 1).trans (show (#[Value.int .i64 q1, .int .i64 q2, .string ⟨q3.toArray⟩] : Array Value)[1]? = some (.int .i64 q2) from rfl)
            have y1 := fun u : Later (w4.heap.size + 1) (w4.alloc (.cells #[.int .i64 q1, .int .i64 q2, .string ⟨q3.toArray⟩] 48)) => (later_row u 2).trans (show (#[Value.int .i64 q1, .int .i64 q2, .string ⟨q3.toArray⟩] : Array Value)[2]? = some (.string ⟨q3.toArray⟩) from rfl)
            clear X
            refine wp_region_later (w4.heap.size + 1) (by kernel_rfl) (by kernel_rfl) ?_
            repeat (go_big_quiet_step (fail))
            refine wpQuiet_nil ?_; intro _ hw'; obtain ⟨u, hw''⟩ := hw'; subst hw''
            go_wp2_with fail
            exact ⟨⟨j + 1, by omega, by go_num, (u.h.block w2.heap.size (by have := q4.lt; omega)).trans (q4.kept (World.grownBy_alloc w4 _ none) (by simp)), (B4.alloc B4.size _).trans (u.h.mono (by have := B4.size; omega))⟩, by simp [intOf]; omega⟩
          · have hrd := law5_read 2 300 w2.heap.size (PackP.bytes (l.drop j), 0) (by omega) wr hq
            rw [hdr, hqr] at hrd
            unfold ptV at hrd
            have HRd := Lib.hid hrd
            clear hrd hq hdr hqr hk'
            obtain rfl : q2 = n := hal.1 (by decide)
            clear hal
            go_wp2_with (go_at_call 30; with_reducible refine (HRd.out).mono ?_; rintro e w4 ⟨rfl, q4, g4⟩)
            have B4 := hbq.grown g4 hbq.size hkk
            have X := fun u : Later (w4.heap.size + 1) (w4.alloc (.cells #[.int .i64 q1, .int .i64 q2, .string ⟨q3.toArray⟩] 48)) => HX.out u.w ((B4.alloc B4.size _).trans (u.h.mono (by have := B4.size; omega)))
            have x0 := fun u => (X u).1
            have x1 := fun u => (X u).2.1
            have x2 := fun u => (X u).2.2
            have y0 := fun u : Later (w4.heap.size + 1) (w4.alloc (.cells #[.int .i64 q1, .int .i64 q2, .string ⟨q3.toArray⟩] 48)) => (later_row u 1).trans (show (#[Value.int .i64 q1, .int .i64 q2, .string ⟨q3.toArray⟩] : Array Value)[1]? = some (.int .i64 q2) from rfl)
            have y1 := fun u : Later (w4.heap.size + 1) (w4.alloc (.cells #[.int .i64 q1, .int .i64 q2, .string ⟨q3.toArray⟩] 48)) => (later_row u 2).trans (show (#[Value.int .i64 q1, .int .i64 q2, .string ⟨q3.toArray⟩] : Array Value)[2]? = some (.string ⟨q3.toArray⟩) from rfl)
            clear X
            refine wp_region_later (w4.heap.size + 1) (by kernel_rfl) (by kernel_rfl) ?_
            repeat (go_big_quiet_step (fail))
            refine wpQuiet_nil ?_; intro _ hw'; obtain ⟨u, hw''⟩ := hw'; subst hw''
            go_wp2_with fail
            exact ⟨⟨j + 1, by omega, by go_num, (u.h.block w2.heap.size (by have := q4.lt; omega)).trans (q4.kept (World.grownBy_alloc w4 _ none) (by simp)), (B4.alloc B4.size _).trans (u.h.mono (by have := B4.size; omega))⟩, by simp [intOf]; omega⟩
          · have hrd := law5_read 3 300 w2.heap.size (PackP.bytes (l.drop j), 0) (by omega) wr hq
            rw [hdr, hqr] at hrd
            unfold ptV at hrd
            have HRd := Lib.hid hrd
            clear hrd hq hdr hqr hk'
            obtain rfl : q3 = s := hal.2.1 rfl
            clear hal
            go_wp2_with (go_at_call 30; with_reducible refine (HRd.out).mono ?_; rintro e w4 ⟨rfl, q4, g4⟩)
            have B4 := hbq.grown g4 hbq.size hkk
            have X := fun u : Later (w4.heap.size + 1) (w4.alloc (.cells #[.int .i64 q1, .int .i64 q2, .string ⟨q3.toArray⟩] 48)) => HX.out u.w ((B4.alloc B4.size _).trans (u.h.mono (by have := B4.size; omega)))
            have x0 := fun u => (X u).1
            have x1 := fun u => (X u).2.1
            have x2 := fun u => (X u).2.2
            have y0 := fun u : Later (w4.heap.size + 1) (w4.alloc (.cells #[.int .i64 q1, .int .i64 q2, .string ⟨q3.toArray⟩] 48)) => (later_row u 1).trans (show (#[Value.int .i64 q1, .int .i64 q2, .string ⟨q3.toArray⟩] : Array Value)[1]? = some (.int .i64 q2) from rfl)
            have y1 := fun u : Later (w4.heap.size + 1) (w4.alloc (.cells #[.int .i64 q1, .int .i64 q2, .string ⟨q3.toArray⟩] 48)) => (later_row u 2).trans (show (#[Value.int .i64 q1, .int .i64 q2, .string ⟨q3.toArray⟩] : Array Value)[2]? = some (.string ⟨q3.toArray⟩) from rfl)
            clear X
            refine wp_region_later (w4.heap.size + 1) (by kernel_rfl) (by kernel_rfl) ?_
            repeat (go_big_quiet_step (fail))
            refine wpQuiet_nil ?_; intro _ hw'; obtain ⟨u, hw''⟩ := hw'; subst hw''
            go_wp2_with fail
            exact ⟨⟨j + 1, by omega, by go_num, (u.h.block w2.heap.size (by have := q4.lt; omega)).trans (q4.kept (World.grownBy_alloc w4 _ none) (by simp)), (B4.alloc B4.size _).trans (u.h.mono (by have := B4.size; omega))⟩, by simp [intOf]; omega⟩
          · have hrd := law5_read 4 300 w2.heap.size (PackP.bytes (l.drop j), 0) (by omega) wr hq
            rw [hdr, hqr] at hrd
            unfold ptV at hrd
            have HRd := Lib.hid hrd
            clear hrd hq hdr hqr hk'
            have h4 := hal.2.2 rfl
            clear hal
            by_cases hn1 : n = 1
            · obtain rfl : q2 = 1 := h4.2 hn1
              subst hn1
              clear h4
              go_wp2_with (go_at_call 30; with_reducible refine (HRd.out).mono ?_; rintro e w4 ⟨rfl, q4, g4⟩)
              have B4 := hbq.grown g4 hbq.size hkk
              have X := fun u : Later (w4.heap.size + 1) (w4.alloc (.cells #[.int .i64 q1, .int .i64 1, .string ⟨q3.toArray⟩] 48)) => HX.out u.w ((B4.alloc B4.size _).trans (u.h.mono (by have := B4.size; omega)))
              have x0 := fun u => (X u).1
              have x1 := fun u => (X u).2.1
              have x2 := fun u => (X u).2.2
              have y0 := fun u : Later (w4.heap.size + 1) (w4.alloc (.cells #[.int .i64 q1, .int .i64 1, .string ⟨q3.toArray⟩] 48)) => (later_row u 1).trans (show (#[Value.int .i64 q1, .int .i64 1, .string ⟨q3.toArray⟩] : Array Value)[1]? = some (.int .i64 1) from rfl)
              have y1 := fun u : Later (w4.heap.size + 1) (w4.alloc (.cells #[.int .i64 q1, .int .i64 1, .string ⟨q3.toArray⟩] 48)) => (later_row u 2).trans (show (#[Value.int .i64 q1, .int .i64 1, .string ⟨q3.toArray⟩] : Array Value)[2]? = some (.string ⟨q3.toArray⟩) from rfl)
              clear X
              refine wp_region_later (w4.heap.size + 1) (by kernel_rfl) (by kernel_rfl) ?_
              repeat (go_big_quiet_step (fail))
              refine wpQuiet_nil ?_; intro _ hw'; obtain ⟨u, hw''⟩ := hw'; subst hw''
              go_wp2_with fail
              exact ⟨⟨j + 1, by omega, by go_num, (u.h.block w2.heap.size (by have := q4.lt; omega)).trans (q4.kept (World.grownBy_alloc w4 _ none) (by simp)), (B4.alloc B4.size _).trans (u.h.mono (by have := B4.size; omega))⟩, by simp [intOf]; omega⟩
            · have e1 : (n == 1) = false := by rw [beq_eq_false_iff_ne]; exact hn1
              have e2 : (q2 == 1) = false := by rw [beq_eq_false_iff_ne]; exact fun h => hn1 (h4.1 h)
              clear h4 hn1
              go_wp2_with (go_at_call 30; with_reducible refine (HRd.out).mono ?_; rintro e w4 ⟨rfl, q4, g4⟩)
              have B4 := hbq.grown g4 hbq.size hkk
              have X := fun u : Later (w4.heap.size + 1) (w4.alloc (.cells #[.int .i64 q1, .int .i64 q2, .string ⟨q3.toArray⟩] 48)) => HX.out u.w ((B4.alloc B4.size _).trans (u.h.mono (by have := B4.size; omega)))
              have x0 := fun u => (X u).1
              have x1 := fun u => (X u).2.1
              have x2 := fun u => (X u).2.2
              have y0 := fun u : Later (w4.heap.size + 1) (w4.alloc (.cells #[.int .i64 q1, .int .i64 q2, .string ⟨q3.toArray⟩] 48)) => (later_row u 1).trans (show (#[Value.int .i64 q1, .int .i64 q2, .string ⟨q3.toArray⟩] : Array Value)[1]? = some (.int .i64 q2) from rfl)
              have y1 := fun u : Later (w4.heap.size + 1) (w4.alloc (.cells #[.int .i64 q1, .int .i64 q2, .string ⟨q3.toArray⟩] 48)) => (later_row u 2).trans (show (#[Value.int .i64 q1, .int .i64 q2, .string ⟨q3.toArray⟩] : Array Value)[2]? = some (.string ⟨q3.toArray⟩) from rfl)
              clear X
              refine wp_region_later (w4.heap.size + 1) (by kernel_rfl) (by kernel_rfl) ?_
              repeat (go_big_quiet_step (fail))
              refine wpQuiet_nil ?_; intro _ hw'; obtain ⟨u, hw''⟩ := hw'; subst hw''
              go_wp2_with fail
              exact ⟨⟨j + 1, by omega, by go_num, (u.h.block w2.heap.size (by have := q4.lt; omega)).trans (q4.kept (World.grownBy_alloc w4 _ none) (by simp)), (B4.alloc B4.size _).trans (u.h.mono (by have := B4.size; omega))⟩, by simp [intOf]; omega⟩
        · obtain rfl : j = l.length := by omega
          rw [List.drop_length, show PackP.bytes [] = [] from rfl] at hq
          have HE := Lib.hid (pack_End w2.heap.size _ _ hq)
          rw [show PackP.rEnd ([], 0) = 0 from rfl] at HE
          have HL := Lib.hid (pack_Left w2.heap.size _ _ hq)
          simp only [List.length_nil] at HL
          obtain ⟨N, hN⟩ : ∃ N, (PackP.bytes l).length = N := ⟨_, rfl⟩
          rw [hN] at hLs hbyl hBl
          have HNN := Lib.hid hN
          clear hN hq
          by_cases hN0 : N = 0
          · subst hN0
            go_wp2_with (first
              | (go_at_call 34; with_reducible refine (HE.out).mono ?_; rintro e w4 ⟨rfl, rfl⟩)
              | (go_at_call 33; with_reducible refine (HL.out).mono ?_; rintro e w4 ⟨rfl, rfl⟩)
              | (go_at_call 25; with_reducible refine (law05_awake _).mono ?_; rintro e w6 ⟨rfl, b6⟩))
            go_ret
            exact ⟨rfl, by (repeat (first | assumption | exact Below.refl _ _ | refine below_step (by assumption) ?_ | refine below_alloc' _ ?_ | refine below_drewN ?_ _ | refine Below.drew ?_))⟩
          · obtain ⟨cc, hcc⟩ : ∃ cc, cut % N = cc := ⟨_, rfl⟩
            have hccl : cc < N := by rw [← hcc]; exact Nat.mod_lt _ (by omega)
            have hmod : (cut : Int) % (N : Int) = (cc : Int) := by rw [← hcc]; rfl
            have hc0 : (0 : Int) ≤ (cc : Int) := by omega
            have hc1 : (cc : Int) ≤ (N : Int) := by omega
            have hNe : ((N : Int) == 0) = false := by rw [beq_eq_false_iff_ne]; omega
            have hN2 := pack_New (BB.extract 0 cc)
            rw [show (BB.extract 0 cc).data.toList = (PackP.bytes l).take cc by rw [HTK.out]] at hN2
            have HN2 := Lib.hid hN2
            clear hN2 hcc
            go_wp2_with (first
              | (go_at_call 34; with_reducible refine (HE.out).mono ?_; rintro e w4 ⟨rfl, rfl⟩)
              | (go_at_call 33; with_reducible refine (HL.out).mono ?_; rintro e w4 ⟨rfl, rfl⟩)
              | (go_at_call 29; with_reducible refine (HN2.out _).mono ?_; rintro e w7 ⟨rfl, q7, g7⟩))
            have B7 := hbq.trans ((below_grown g7).mono hbq.size)
            have hkk7 : ∀ k, some wr.heap.size = some k → w.heap.size ≤ k := fun k e => by injection e with e; have := hbq.size; omega
            obtain ⟨rb, hrbe⟩ : ∃ rb, wr.heap.size = rb := ⟨_, rfl⟩
            rw [hrbe] at q7 hkk7 ⊢
            clear hrbe hmod g7
            go_loopw [12] (fun i wq => ∃ j : Nat, j ≤ l.length ∧ i = .int .i64 j ∧ Rdr 59 rb (PackP.preads 300 (l.take j) ((PackP.bytes l).take cc, 0)) wq ∧ Below w.heap.size w wq) (fun i _ => l.length - (intOf i).toNat)
            case atStart => exact ⟨0, by omega, rfl, by simpa [PackP.preads] using q7, B7⟩
            case round =>
              obtain ⟨m, hm, rfl, hqm, hbm⟩ := hrel
              by_cases hml : m < l.length
              · obtain ⟨p, hk'⟩ : ∃ p, l[m]? = some p := ⟨l[m], List.getElem?_eq_getElem hml⟩
                obtain ⟨ad, rfl, hadl, _⟩ := HR.out m p hk'
                obtain ⟨z0, z1, z2⟩ := HR.out.at hbm hk'
                have hi0 : (0 : Int) ≤ (m : Int) := by omega
                have hi1 : (m : Int) < (l.length : Int) := by omega
                have hln := preads_len 300 (l.take m) ((PackP.bytes l).take cc, 0)
                simp only [List.length_take] at hln
                have hrd := law5_read p.kind 300 rb _ (by have := HNN.out; omega) _ hqm
                rw [← preads_snoc, ← ptake_snoc l m p hk'] at hrd
                have HRd := Lib.hid hrd
                clear hrd hqm hk' hln
                go_wp2_with (go_at_call 30; with_reducible refine (HRd.out).mono ?_; rintro e w8 ⟨rfl, q8, g8⟩)
                exact ⟨⟨m + 1, by omega, by go_num, q8, hbm.grown g8 hbm.size hkk7⟩, by simp [intOf]; omega⟩
              · obtain rfl : m = l.length := by omega
                rw [List.take_length] at hqm
                obtain ⟨r', hr'⟩ := PackP.preads_short l HGD.out cc (by rw [HNN.out]; exact hccl)
                rw [hr'] at hqm
                have HE2 := Lib.hid (pack_End rb _ _ hqm)
                rw [show PackP.rEnd (r', 3) = 3 by unfold PackP.rEnd; rw [if_neg (by simp)]] at HE2
                have HR2 := Lib.hid (pack_Err rb _ _ hqm)
                simp only at HR2
                clear hqm hr'
                go_wp2_with (first
                  | (go_at_call 34; with_reducible refine (HE2.out).mono ?_; rintro e w4 ⟨rfl, rfl⟩)
                  | (go_at_call 32; with_reducible refine (HR2.out).mono ?_; rintro e w4 ⟨rfl, rfl⟩)
                  | (go_at_call 25; with_reducible refine (law05_awake _).mono ?_; rintro e w6 ⟨rfl, b6⟩))
                go_ret
                exact ⟨rfl, by (repeat (first | assumption | exact Below.refl _ _ | refine below_step (by assumption) ?_ | refine below_alloc' _ ?_ | refine below_drewN ?_ _ | refine Below.drew ?_))⟩
theorem law05_PackBack (a : SlP) (cut : Int) (hcut : (Lit.int .u16 cut).wf = true) (w : World) (ha : a.Ok w) :
    Calls Try.prog 8 #[.slice a.A a.l.length a.c, .int .u16 cut] w fun e w' => e = .returned (.bool true) ∧ Below w.heap.size w w' := by
  have hc' : 0 ≤ cut ∧ cut ≤ 65535 := by simpa [Lit.wf, IntKind.min, IntKind.max, IntKind.signed, IntKind.bits] using hcut
  by_cases h : fewP a.l
  · obtain ⟨n, rfl⟩ := Int.eq_ofNat_of_zero_le hc'.1
    exact law05_PackBack_few a.A a.c a.l n (by omega) h (fun f hf => ⟨(ha.2.2.1 f hf).1, (ha.2.2.1 f hf).2.1⟩) w ha.2.2.2
  · exact law05_PackBack_many a.A a.c a.l cut ha.1 h w ha.2.2.2
end Go.Proofs.Ytkhnmdmpkedifaa
