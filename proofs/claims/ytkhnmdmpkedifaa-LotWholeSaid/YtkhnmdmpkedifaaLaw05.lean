/- The statements of layer 5 (pack): what must come; the walk of PackWrites. -/
import Derived.Test.YtkhnmdmpkedifaaPackL
namespace Go.Proofs.Ytkhnmdmpkedifaa
open Go.ChangeShapes Go.WideShapes Go.ChangeAt Go.RowKit Go.Deep

theorem Wr.grown {T : TypeId} {b rb : Nat} {r : PackP.St} {l : List UInt8} {w w' : World} (h : Wr b l w) (hr : Rdr T rb r w) (hg : w.grownBy w' (some rb)) (hT : T ≠ 5) (hne : b ≠ rb) : Wr b l w' := by
  have hk : ∀ p, Lib.BuilderAtF 44 5 b b p (Lib.byteCells l) w → Lib.BuilderAtF 44 5 b b p (Lib.byteCells l) w' := fun p hp => by
    have hlt := hp.lt
    obtain ⟨hB, v, hbk, hown, hn⟩ := hp
    refine ⟨hB, v, (hg.block b hlt (by simpa using hne)).trans hbk, hown.kept hg (.inr fun e => ?_), hn⟩
    obtain ⟨c, fz, hc⟩ := Lib.ownsRowF_kind hown rb e
    have hr' : w.heap[rb]? = some (.cells #[.string ⟨r.1.toArray⟩, .int .i64 r.2] T (0, 0)) := hr
    rw [hr'] at hc
    simp at hc
    exact hT hc.2.1
  rcases h with h | h
  · exact .inl (hk _ h)
  · exact .inr (hk _ h)
theorem Rdr.others {T : TypeId} {b rb : Nat} {r : PackP.St} {w w' : World} (h : Rdr T rb r w) (ho : Lib.OthersKept 5 (some b) w w') (hT : T ≠ 5) (hne : b ≠ rb) : Rdr T rb r w' :=
  ho rb _ h (by simpa using fun e => hne e.symm) (fun c fz e => by simp at e; exact hT e.2.1)
theorem below_grown {w w' : World} (hg : w.grownBy w' none) : Below w.heap.size w w' := ⟨hg.os, hg.tape, hg.output, hg.size, fun k hk => hg.block k hk (by simp)⟩

def aw5 : List UInt8 := [172, 2, 2, 97, 98, 1]
set_option maxRecDepth 100000 in
theorem law05_awake (w : World) : Calls Try.prog 25 #[] w fun e w' => e = .returned (.bool true) ∧ Below w.heap.size w w' := by
  have e1 : ([] : List UInt8) ++ VariP.putI 300 = [172, 2] := by decide +kernel
  have e2 : ([172, 2] : List UInt8) ++ PackP.text (⟨#[97, 98]⟩ : ByteArray).data.toList = [172, 2, 2, 97, 98] := by decide +kernel
  have e3 : ([172, 2, 2, 97, 98] : List UInt8) ++ PackP.flag true = aw5 := by decide +kernel
  have e4 : PackP.rNum (aw5 ++ [120], 0) = (300, ([2, 97, 98, 1, 120], 0)) := by decide +kernel
  have e5 : PackP.rText 9 ([2, 97, 98, 1, 120], 0) = ([97, 98], ([1, 120], 0)) := by decide +kernel
  have e6 : PackP.rFlag ([1, 120], 0) = (true, ([120], 0)) := by decide +kernel
  have H1 := Lib.hid (fun (W : World) (h : Wr w.heap.size [] W) => e1 ▸ pack_Num w.heap.size [] 300 (by unfold I64; omega) W h (by simp))
  have H2 := Lib.hid (fun (W : World) (h : Wr w.heap.size [172, 2] W) => e2 ▸ pack_Text w.heap.size [172, 2] ⟨#[97, 98]⟩ (by decide) W h (by simp))
  have H3 := Lib.hid (fun (W : World) (h : Wr w.heap.size [172, 2, 2, 97, 98] W) => e3 ▸ pack_Flag w.heap.size [172, 2, 2, 97, 98] true W h (by simp))
  have H4 := Lib.hid (fun (W : World) (h : Wr w.heap.size aw5 W) => (show Calls Try.prog 28 #[.pointer (some ⟨w.heap.size, 0, none⟩)] W (WrPost w.heap.size aw5 (.string ⟨#[172, 2, 2, 97, 98, 1]⟩) W) from pack_Bytes w.heap.size aw5 W h))
  have H5 := Lib.hid (fun (rb : Nat) (W : World) (h : Rdr 59 rb (aw5 ++ [120], 0) W) => e4 ▸ pack_Num_at rb (aw5 ++ [120], 0) (by decide) W h)
  have H6 := Lib.hid (fun (rb : Nat) (W : World) (h : Rdr 59 rb ([2, 97, 98, 1, 120], 0) W) => e5 ▸ pack_Text_at rb 9 ([2, 97, 98, 1, 120], 0) (by decide) W h)
  have H7 := Lib.hid (fun (rb : Nat) (W : World) (h : Rdr 59 rb ([1, 120], 0) W) => e6 ▸ pack_Flag_at rb ([1, 120], 0) (by decide) W h)
  have H0 := Lib.hid (Wr.new w)
  have HN := Lib.hid (fun (s : ByteArray) (hs : s = ⟨#[172, 2, 2, 97, 98, 1]⟩ ++ ⟨#[120]⟩) (W : World) => (pack_New s W).mono fun e W' (h : _ ∧ _ ∧ _) => (⟨h.1, by
    have h2 := h.2.1
    rw [hs, ByteArray.data_append, Array.toList_append] at h2
    exact h2, h.2.2⟩ : e = .returned (.pointer (some ⟨W.heap.size, 0, none⟩)) ∧ Rdr 59 W.heap.size (aw5 ++ [120], 0) W' ∧ W.grownBy W' none))
  clear e1 e2 e3 e4 e5 e6
  go_enter Try.func25, Try.ntmps25
  go_wp2_with (first
    | (go_at_call 42; with_reducible refine (H1.out _ H0.out).mono ?_; rintro e w1 ⟨rfl, r1, b1, o1⟩)
    | (go_at_call 63; with_reducible refine (H2.out _ r1).mono ?_; rintro e w2 ⟨rfl, r2, b2, o2⟩)
    | (go_at_call 64; with_reducible refine (H3.out _ r2).mono ?_; rintro e w3 ⟨rfl, r3, b3, o3⟩)
    | (go_at_call 28; with_reducible refine (H4.out _ r3).mono ?_; rintro e w4 ⟨rfl, r4, b4, o4⟩)
    | (go_at_call 29; with_reducible refine (HN.out _ rfl _).mono ?_; rintro e w5 ⟨rfl, q5, g5⟩; have r5 := r4.below (below_grown g5); have hne : w.heap.size ≠ w4.heap.size := Nat.ne_of_lt r4.lt)
    | (go_at_call 44; with_reducible refine (H5.out _ _ q5).mono ?_; rintro e w6 ⟨rfl, q6, g6⟩; have r6 := r5.grown q5 g6 (by decide) hne)
    | (go_at_call 65; with_reducible refine (H6.out _ _ q6).mono ?_; rintro e w7 ⟨rfl, q7, g7⟩; have r7 := r6.grown q6 g7 (by decide) hne)
    | (go_at_call 66; with_reducible refine (H7.out _ _ q7).mono ?_; rintro e w8 ⟨rfl, q8, g8⟩; have r8 := r7.grown q7 g8 (by decide) hne)
    | (go_at_call 28; with_reducible refine (H4.out _ r8).mono ?_; rintro e w9 ⟨rfl, r9, b9, o9⟩; have q9 := q8.others o9 (by decide) hne)
    | (go_at_call 33; with_reducible refine (pack_Left _ _ _ q9).mono ?_; rintro e x1 ⟨rfl, rfl⟩)
    | (go_at_call 32; with_reducible refine (pack_Err _ _ _ q9).mono ?_; rintro e x2 ⟨rfl, rfl⟩)
    | (go_at_call 34; with_reducible refine (pack_End _ _ _ q9).mono ?_; rintro e x3 ⟨rfl, rfl⟩))
  go_ret
  refine ⟨rfl, ?_⟩
  have B4 : Below w.heap.size w w4 := ((((below_alloc' _ (Below.refl _ _)).trans b1).trans b2).trans b3).trans b4
  have B5 := B4.trans ((below_grown g5).mono B4.size)
  have hk : ∀ k, some w4.heap.size = some k → w.heap.size ≤ k := fun k e => by injection e with e; have := B4.size; omega
  have B6 := B5.grown g6 B5.size hk
  have B7 := B6.grown g7 B6.size hk
  have B8 := B7.grown g8 B7.size hk
  exact B8.trans b9
theorem law05_PackWrites_many (A : Option Addr) (c : Nat) (l : List PackP.Part) (hm : l.length ≤ maxLen) (h : ¬ fewP l) (w : World) (hr : RdP w w.heap.size A l) :
    Calls Try.prog 6 #[.slice A l.length c] w fun e w' => e = .returned (.bool true) ∧ Below w.heap.size w w' := by
  have HF := Lib.hid (ref5_Few_no A c l hm h w hr)
  clear h hr
  go_enter Try.func6, Try.ntmps6
  go_wp2_with (first
    | (go_at_call 24; with_reducible refine (HF.out).mono ?_; rintro e w1 ⟨rfl, hb1⟩)
    | (go_at_call 25; refine (law05_awake _).mono ?_; rintro e w1 ⟨rfl, hb1⟩))
  go_ret
  exact ⟨rfl, by (repeat (first | assumption | exact Below.refl _ _ | refine below_step (by assumption) ?_ | refine below_alloc' _ ?_ | refine below_drewN ?_ _ | refine Below.drew ?_))⟩
theorem pbytes_len (p : PackP.Part) (hs : p.s.length ≤ 300) : (PackP.pbytes p).length ≤ 320 := by
  unfold PackP.pbytes
  split
  · have : (VariP.putI p.n).length ≤ 10 := putI_len p.n
    omega
  split
  · have := VariP.put_len (VariP.zig p.n); omega
  split
  · unfold PackP.text; have := VariP.put_len p.s.length; rw [List.length_append]; omega
  split
  · unfold PackP.flag; split <;> simp
  · simp
theorem pbytes_snoc (l : List PackP.Part) (p : PackP.Part) : PackP.bytes (l ++ [p]) = PackP.bytes l ++ PackP.pbytes p := by simp [PackP.bytes]
theorem pbytes_all (l : List PackP.Part) : (∀ p ∈ l, p.s.length ≤ 300) → (PackP.bytes l).length ≤ 320 * l.length := by
  induction l with
  | nil => intro _; simp [PackP.bytes]
  | cons p l ih =>
    intro h
    have := ih (fun q hq => h q (List.mem_cons_of_mem _ hq))
    have := pbytes_len p (h p List.mem_cons_self)
    have e : PackP.bytes (p :: l) = PackP.pbytes p ++ PackP.bytes l := by simp [PackP.bytes]
    rw [e, List.length_append, List.length_cons]; omega
theorem bl_app (a b : List UInt8) : (⟨(a ++ b).toArray⟩ : ByteArray) = ⟨a.toArray⟩ ++ ⟨b.toArray⟩ := bl_ext (by rw [ByteArray.data_append, Array.toList_append])
set_option maxRecDepth 100000 in
theorem law05_PackWrites_few (A : Option Addr) (c : Nat) (l : List PackP.Part) (hf : fewP l) (h64 : ∀ p ∈ l, I64 p.kind ∧ I64 p.n) (w : World) (hr : RdP w w.heap.size A l) :
    Calls Try.prog 6 #[.slice A l.length c] w fun e w' => e = .returned (.bool true) ∧ Below w.heap.size w w' := by
  have HFEW := Lib.hid (ref5_Few_yes A c l hf w hr)
  have HR := Lib.hid hr
  have HF := Lib.hid hf
  have H64 := Lib.hid h64
  have h20 := hf.1
  have HBY := Lib.hid (fun k : Nat => (show (PackP.bytes (l.take k)).length ≤ 12800 by
    have h1 := pbytes_all (l.take k) (fun p hp => hf.2 p (List.mem_of_mem_take hp))
    rw [List.length_take] at h1
    omega))
  clear hr hf h64
  go_enter Try.func6, Try.ntmps6
  go_wp2_with (go_at_call 24; with_reducible refine (HFEW.out).mono ?_; rintro e w1 ⟨rfl, hb1⟩)
  have HW0 := Wr.new w1
  have hsz1 := hb1.size
  go_loopw [5, 6] (fun s i wr => ∃ k : Nat, k ≤ l.length ∧ i = .int .i64 k ∧ s = .string ⟨(PackP.bytes (l.take k)).toArray⟩ ∧ Wr w1.heap.size (PackP.bytes (l.take k)) wr ∧ Below w.heap.size w wr) (fun _ i _ => l.length - (intOf i).toNat)
  case atStart => exact ⟨0, by omega, rfl, by simp [PackP.bytes], by simpa [PackP.bytes] using HW0, below_alloc' _ hb1⟩
  case round =>
    obtain ⟨k, hk, rfl, rfl, hW, hb⟩ := hrel
    by_cases hlt : k < l.length
    · obtain ⟨p, hk'⟩ : ∃ p, l[k]? = some p := ⟨l[k], List.getElem?_eq_getElem hlt⟩
      obtain ⟨ad, rfl, hadl, _⟩ := HR.out k p hk'
      have HX := Lib.hid (fun (W : World) (h : Below w.heap.size w W) => HR.out.at h hk')
      obtain ⟨x0, x1, x2⟩ := HX.out _ hb
      have hmem := List.mem_of_getElem? hk'
      have hpt : PtOk p := ⟨(H64.out p hmem).1, (H64.out p hmem).2, HF.out.2 p hmem⟩
      have hbyt := HBY.out k
      have hbyt2 := HBY.out (k + 1)
      have hsn : PackP.bytes (l.take (k + 1)) = PackP.bytes (l.take k) ++ PackP.pbytes p := by rw [ptake_snoc l k p hk', pbytes_snoc]
      have HSN := Lib.hid hsn
      have hWr := law5_write w1.heap.size _ p hpt wr hW (by omega)
      have hWn := law5_write_nil p hpt
      have hPu := ref5_Put p hpt
      have hBy := fun (W : World) (h : Wr w1.heap.size (PackP.bytes (l.take k) ++ PackP.pbytes p) W) => pack_Bytes w1.heap.size _ W h
      have hap := bl_app (PackP.bytes (l.take k)) (PackP.pbytes p)
      have hs1 := bl_size (PackP.bytes (l.take k))
      have hs2 := bl_size (PackP.pbytes p)
      have hpl := pbytes_len p hpt.2.2
      rw [hap] at hBy
      unfold ptV at hWr hWn hPu
      generalize (⟨(PackP.bytes (l.take k)).toArray⟩ : ByteArray) = SB at hap hs1 hBy ⊢
      generalize (⟨(PackP.pbytes p).toArray⟩ : ByteArray) = PB at hap hs2 hBy hPu
      have HAP := Lib.hid hap
      have HWr := Lib.hid hWr
      have HWn := Lib.hid hWn
      have HPu := Lib.hid hPu
      have HBy := Lib.hid hBy
      have hi0 : (0 : Int) ≤ (k : Int) := by omega
      have hi1 : (k : Int) < (l.length : Int) := by omega
      have hle : w.heap.size ≤ w1.heap.size := hsz1
      clear hap hWr hWn hPu hBy hsn hk' hmem hW
      go_wp2_with (first
        | (go_at_call 26; with_reducible refine (HWr.out).mono ?_; rintro e w2 ⟨rfl, r2, b2, _⟩; have B2 := hb.trans (b2.mono hle); obtain ⟨y0, y1, y2⟩ := HX.out _ B2)
        | (go_at_call 26; with_reducible refine (HWn.out _).mono ?_; rintro e w3 ⟨rfl, b3⟩; have B3 := B2.trans (b3.mono B2.size); obtain ⟨z0, z1, z2⟩ := HX.out _ B3; have r3 := r2.below b3)
        | (go_at_call 27; with_reducible refine (HPu.out _).mono ?_; rintro e w4 ⟨rfl, b4⟩; have B4 := B3.trans (b4.mono B3.size); have r4 := r3.below b4)
        | (go_at_call 28; with_reducible refine (HBy.out _ r4).mono ?_; rintro e w5 ⟨rfl, r5, b5, _⟩))
      refine ⟨⟨k + 1, by omega, by go_num, by rw [HSN.out, HAP.out], by rw [HSN.out]; exact r5, B4.trans (b5.mono hle)⟩, by simp [intOf]; omega⟩
    · go_wp2_with (first
        | (go_at_call 28; with_reducible refine (pack_Bytes_nil _).mono ?_; rintro e w5 ⟨rfl, rfl⟩)
        | (go_at_call 25; with_reducible refine (law05_awake _).mono ?_; rintro e w6 ⟨rfl, b6⟩))
      go_ret
      exact ⟨rfl, by (repeat (first | assumption | exact Below.refl _ _ | refine below_step (by assumption) ?_ | refine below_alloc' _ ?_ | refine below_drewN ?_ _ | refine Below.drew ?_))⟩
theorem law05_PackWrites (a : SlP) (w : World) (ha : a.Ok w) :
    Calls Try.prog 6 #[.slice a.A a.l.length a.c] w fun e w' => e = .returned (.bool true) ∧ Below w.heap.size w w' := by
  by_cases h : fewP a.l
  · exact law05_PackWrites_few a.A a.c a.l h (fun f hf => ⟨(ha.2.2.1 f hf).1, (ha.2.2.1 f hf).2.1⟩) w ha.2.2.2
  · exact law05_PackWrites_many a.A a.c a.l ha.1 h w ha.2.2.2
