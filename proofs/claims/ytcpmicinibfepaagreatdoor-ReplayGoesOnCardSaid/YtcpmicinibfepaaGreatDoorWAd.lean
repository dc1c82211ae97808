/- Bytes as strings and back: what string(b) and []byte(s) do, over any program. -/
import Derived.Test.YtcpmicinibfepaaGreatDoorWAb
import Derived.Lib.ConvBytes
namespace Go.Proofs.YtcpmicinibfepaaGreatDoor
open Go.RowKit


/-- the cells of bytes -/
def bcells (l : List UInt8) : Array Value := (l.map fun b => Value.int .u8 (b.toNat : Int)).toArray
theorem foldl_push (l : List UInt8) : ∀ s : ByteArray, (l.map fun b => (b.toNat : Int)).foldl (fun r n => r.push (UInt8.ofNat n.toNat)) s = ⟨s.data ++ l.toArray⟩ := by
  induction l with
  | nil => intro s; simp
  | cons b l ih =>
    intro s
    simp only [List.map_cons, List.foldl_cons, ih, Int.toNat_natCast]
    have e : UInt8.ofNat b.toNat = b := UInt8.ofNat_toNat
    rw [e]
    simp [ByteArray.push]
theorem run_string_of {P : Program} (w : World) {src dst e : TypeId} (hs : P.underlying src = some (.slice e)) (he : P.underlying e = some (.int .u8)) (hd : P.underlying dst = some .string)
    (a : Addr) (c : Nat) (l : List UInt8) (h : ∀ j b, l[j]? = some b → w.cell? (a.add j) = some (.int .u8 (b.toNat : Int))) :
    (convert src dst (.slice (some a) l.length c)).run P w = .ok (.string ⟨l.toArray⟩) w := by
  rw [run_convert_bytes_string w src dst e (some a) l.length c hs he hd]
  have hl : (loadCells a l.length).run P w = .ok ((l.map fun b => (b.toNat : Int)).map (Value.int .u8)).toArray w := by
    have := run_loadCells_list (P := P) w a (l.map fun b => Value.int .u8 (b.toNat : Int)) (fun j v hv => by
      rw [List.getElem?_map] at hv
      cases hb : l[j]? with
      | none => rw [hb] at hv; simp at hv
      | some b => rw [hb] at hv; simp at hv; subst hv; exact h j b hb)
    rw [List.length_map] at this
    rw [this, List.map_map]
    rfl
  rw [run_bytesToString w a l.length c _ hl, foldl_push]
  have e2 : (ByteArray.empty.data ++ l.toArray) = l.toArray := by rw [show ByteArray.empty.data = #[] from rfl, Array.empty_append]
  rw [e2]
/-- a new block of bytes, whole -/
theorem run_string_new {P : Program} (w : World) {src dst e t : TypeId} (hs : P.underlying src = some (.slice e)) (he : P.underlying e = some (.int .u8)) (hd : P.underlying dst = some .string) (n c : Nat) (l : List UInt8) (hn : n = l.length) :
    (convert src dst (.slice (some ⟨w.heap.size, 0, none⟩) n c)).run P (w.alloc (.cells (bcells l) t)) = .ok (.string ⟨l.toArray⟩) (w.alloc (.cells (bcells l) t)) := by
  subst hn
  refine run_string_of _ hs he hd _ _ l (fun j b hb => ?_)
  have e1 : (⟨w.heap.size, 0, none⟩ : Addr).add j = ⟨w.heap.size, j, none⟩ := by unfold Addr.add; split <;> simp_all
  rw [e1, cell_of_row _ _ _ _ t _ (heap_alloc_new w _)]
  simp [bcells, hb]
theorem ba_append (a b : List UInt8) : (⟨a.toArray⟩ : ByteArray) ++ ⟨b.toArray⟩ = ⟨(a ++ b).toArray⟩ := by
  apply ByteArray.ext
  rw [ByteArray.data_append]
  simp
theorem ba_append' (a : List UInt8) (s : ByteArray) : (⟨a.toArray⟩ : ByteArray) ++ s = ⟨(a ++ s.data.toList).toArray⟩ := ba_append a s.data.toList
theorem ret_str {a b : ByteArray} (h : a = b) : Ending.returned (.string a) = .returned (.string b) := by rw [h]
theorem ba_cons (x : UInt8) (b : List UInt8) : (⟨#[x]⟩ : ByteArray) ++ ⟨b.toArray⟩ = ⟨(x :: b).toArray⟩ := ba_append [x] b
/-- whatever numbers lie in a new block -/
theorem run_string_ints {P : Program} (w : World) {src dst e t : TypeId} (hs : P.underlying src = some (.slice e)) (he : P.underlying e = some (.int .u8)) (hd : P.underlying dst = some .string) (ns : List Int) (c : Nat) :
    (convert src dst (.slice (some ⟨w.heap.size, 0, none⟩) ns.length c)).run P (w.alloc (.cells (ns.map (Value.int .u8)).toArray t)) = .ok (.string ⟨(ns.map fun n => UInt8.ofNat n.toNat).toArray⟩) (w.alloc (.cells (ns.map (Value.int .u8)).toArray t)) := by
  rw [run_convert_bytes_string _ src dst e _ _ c hs he hd]
  have hl : (loadCells ⟨w.heap.size, 0, none⟩ ns.length).run P (w.alloc (.cells (ns.map (Value.int .u8)).toArray t)) = .ok (ns.map (Value.int .u8)).toArray (w.alloc (.cells (ns.map (Value.int .u8)).toArray t)) := by
    have := run_loadCells_list (P := P) (w.alloc (.cells (ns.map (Value.int .u8)).toArray t)) ⟨w.heap.size, 0, none⟩ (ns.map (Value.int .u8)) (fun j v hv => by
      have e1 : (⟨w.heap.size, 0, none⟩ : Addr).add j = ⟨w.heap.size, j, none⟩ := by unfold Addr.add; split <;> simp_all
      rw [e1, cell_of_row _ _ _ _ t _ (heap_alloc_new w _)]
      simpa using hv)
    rwa [List.length_map] at this
  rw [run_bytesToString _ _ ns.length c ns hl]
  have hf : ∀ (l : List Int) (s : ByteArray), l.foldl (fun r n => r.push (UInt8.ofNat n.toNat)) s = ⟨s.data ++ (l.map fun n => UInt8.ofNat n.toNat).toArray⟩ := by
    intro l
    induction l with
    | nil => intro s; simp
    | cons b l ih => intro s; simp only [List.foldl_cons, ih, List.map_cons]; simp [ByteArray.push]
  rw [hf, show ByteArray.empty.data = #[] from rfl, Array.empty_append]
theorem bytesWorld_below (w : World) (e : TypeId) (s : ByteArray) : Below w.heap.size w (Lib.bytesWorld w e s) :=
  ⟨by simp [Lib.bytesWorld, World.freeze]; rfl, by simp [Lib.bytesWorld, World.freeze], by simp [Lib.bytesWorld, World.freeze]; rfl, by rw [Lib.bytesWorld_size]; omega, fun k hk => Lib.bytesWorld_at_old w e s k hk⟩
/-- behind []byte(s): the new block reads as the bytes, what was there as it did -/
theorem bytesWorld_facts (w : World) (e : TypeId) (s : ByteArray) : (∀ j, j < s.size → (Lib.bytesWorld w e s).cell? ⟨w.heap.size, j, none⟩ = some (.int .u8 ((s.data.toList.getD j 0).toNat : Int))) ∧ Below w.heap.size w (Lib.bytesWorld w e s) ∧ (Lib.bytesWorld w e s).heap.size = w.heap.size + 1 :=
  ⟨fun j hj => Lib.bytesWorld_cell w e s j hj, bytesWorld_below w e s, Lib.bytesWorld_size w e s⟩

@[go_sem] theorem run_sb (w : World) (s : ByteArray) : (convert 9 110 (.string s)).run Tryz.prog w = .ok (.slice (some ⟨w.heap.size, 0, none⟩) s.size (grownCap w s.size 0 5)) (Lib.bytesWorld w 5 s) :=
  Lib.run_convert_string_bytes w 9 110 5 s Tryz.underlying9 Tryz.underlying110 Tryz.underlying5

@[go_sem] theorem run_string1 (w : World) (a : Int) : (convert 110 9 (.slice (some ⟨w.heap.size, 0, none⟩) 1 1)).run Tryz.prog (w.alloc (.cells #[.int .u8 a] 5)) = .ok (.string ⟨#[UInt8.ofNat a.toNat]⟩) (w.alloc (.cells #[.int .u8 a] 5)) :=
  run_string_ints (t := 5) w Tryz.underlying110 Tryz.underlying5 Tryz.underlying9 [a] 1
@[go_sem] theorem run_string4 (w : World) (a b c d : Int) : (convert 110 9 (.slice (some ⟨w.heap.size, 0, none⟩) 4 4)).run Tryz.prog (w.alloc (.cells #[.int .u8 a, .int .u8 b, .int .u8 c, .int .u8 d] 5)) = .ok (.string ⟨#[UInt8.ofNat a.toNat, UInt8.ofNat b.toNat, UInt8.ofNat c.toNat, UInt8.ofNat d.toNat]⟩) (w.alloc (.cells #[.int .u8 a, .int .u8 b, .int .u8 c, .int .u8 d] 5)) :=
  run_string_ints (t := 5) w Tryz.underlying110 Tryz.underlying5 Tryz.underlying9 [a, b, c, d] 4
end Go.Proofs.YtcpmicinibfepaaGreatDoor
