/- Walks of layers 5 and 9: the reference's bytes of parts. -/
import Derived.Test.YtkhnmdmpkedifaaCodeC
import Derived.Deep.RegionHeld3
namespace Go.Proofs.Ytkhnmdmpkedifaa
open Go.ChangeShapes Go.WideShapes Go.ChangeAt Go.RowKit Go.Deep

set_option maxRecDepth 100000 in
theorem ref5_Bytes (A : Option Addr) (c : Nat) (l : List PackP.Part) (h40 : l.length ≤ 40) (hp : ∀ p ∈ l, PtOk p) (w : World) (hr : RdP w w.heap.size A l) :
    Calls Try.prog 83 #[.slice A l.length c] w fun e w' => e = .returned (.string ⟨(PackP.bytes l).toArray⟩) ∧ Below w.heap.size w w' := by
  have HR := Lib.hid hr
  have HP := Lib.hid hp
  have HBY := Lib.hid (fun k : Nat => (show (PackP.bytes (l.take k)).length ≤ 12800 by
    have h1 := pbytes_all (l.take k) (fun p h => (hp p (List.mem_of_mem_take h)).2.2)
    rw [List.length_take] at h1
    omega))
  clear hr hp
  go_enter Try.func83, Try.ntmps83
  go_wp2_with fail
  go_loopw [3, 4] (fun s i wr => ∃ k : Nat, k ≤ l.length ∧ i = .int .i64 k ∧ s = .string ⟨(PackP.bytes (l.take k)).toArray⟩ ∧ Below w.heap.size w wr) (fun _ i _ => l.length - (intOf i).toNat)
  case atStart => exact ⟨0, by omega, rfl, by simp [PackP.bytes], Below.refl _ _⟩
  case round =>
    obtain ⟨k, hk, rfl, rfl, hb⟩ := hrel
    by_cases hlt : k < l.length
    · obtain ⟨p, hk'⟩ : ∃ p, l[k]? = some p := ⟨l[k], List.getElem?_eq_getElem hlt⟩
      obtain ⟨ad, rfl, hadl, _⟩ := HR.out k p hk'
      obtain ⟨x0, x1, x2⟩ := HR.out.at hb hk'
      have hpt := HP.out p (List.mem_of_getElem? hk')
      have hbyt := HBY.out k
      have HSN := Lib.hid (show PackP.bytes (l.take (k + 1)) = PackP.bytes (l.take k) ++ PackP.pbytes p by rw [ptake_snoc l k p hk', pbytes_snoc])
      have hPu := ref5_Put p hpt
      have hap := bl_app (PackP.bytes (l.take k)) (PackP.pbytes p)
      have hs1 := bl_size (PackP.bytes (l.take k))
      have hs2 := bl_size (PackP.pbytes p)
      have hpl := pbytes_len p hpt.2.2
      unfold ptV at hPu
      generalize (⟨(PackP.bytes (l.take k)).toArray⟩ : ByteArray) = SB at hap hs1 ⊢
      generalize (⟨(PackP.pbytes p).toArray⟩ : ByteArray) = PB at hap hs2 hPu
      have HAP := Lib.hid hap
      have HPu := Lib.hid hPu
      have hi0 : (0 : Int) ≤ (k : Int) := by omega
      have hi1 : (k : Int) < (l.length : Int) := by omega
      clear hap hPu hk'
      go_wp2_with (go_at_call 27; with_reducible refine (HPu.out _).mono ?_; rintro e w4 ⟨rfl, b4⟩)
      exact ⟨⟨k + 1, by omega, by go_num, by rw [HSN.out, HAP.out], hb.trans (b4.mono hb.size)⟩, by simp [intOf]; omega⟩
    · obtain rfl : k = l.length := by omega
      rw [List.take_length]
      go_wp2_with fail
      go_ret
      exact ⟨rfl, hb⟩
theorem ref9_one (b : Bool) (w : World) : Calls Try.prog 84 #[.bool b] w fun e w' => e = .returned (.int .i64 (if b then 1 else 0)) ∧ w = w' := by
  cases b with
  | true =>
    go_enter Try.func84, Try.ntmps84
    go_wp2_with fail
    go_ret
    exact ⟨rfl, rfl⟩
  | false =>
    go_enter Try.func84, Try.ntmps84
    go_wp2_with fail
    go_ret
    exact ⟨rfl, rfl⟩

/-- a record's parts -/
def spParts (x : Sp) : List PackP.Part := [⟨1, x.tr, []⟩, ⟨1, x.id, []⟩, ⟨1, x.pa, []⟩, ⟨1, x.rv, []⟩, ⟨3, 0, x.sv.data.toList⟩, ⟨3, 0, x.op.data.toList⟩, ⟨2, x.st, []⟩, ⟨2, x.du, []⟩, ⟨4, if x.gn then 1 else 0, []⟩]
theorem spParts_bytes (x : Sp) : PackP.bytes (spParts x) = CodeP.enc (spP x) := by
  have hg : (PackP.flag ((if x.gn then (1 : Int) else 0) == 1)) = PackP.flag x.gn := by cases x.gn <;> rfl
  show PackP.bytes _ = VariP.putI x.tr ++ (VariP.putI x.id ++ (VariP.putI x.pa ++ (VariP.putI x.rv ++ (PackP.text x.sv.data.toList ++ (PackP.text x.op.data.toList ++ (VariP.put (VariP.zig x.st) ++ (VariP.put (VariP.zig x.du) ++ PackP.flag x.gn)))))))
  rw [← hg]
  simp [PackP.bytes, spParts, PackP.pbytes]
