/- The document's disk (layer 7): Do · The document's disk (layer 7): Do, where it is done · The document's disk (layer 7): Up · The document's disk (layer 7): Act. -/
import Derived.Test.YtcpmicinibfepaaGreatDoorWAv
import Derived.Test.YtcpmicinibfepaaGreatDoorWAw
namespace Go.Proofs.YtcpmicinibfepaaGreatDoor
open Go.ChangeShapes Go.WideShapes Go.ChangeAt Go.RowKit Go.Deep DiskP


/-- what an operation makes of the files, where it is done: k is where the file is -/
def doT (L : List Fl) (kind : Int) (s to_ : ByteArray) (n : Int) : List Fl := match L[fnd L s]? with
  | some f => if kind = 2 then L.set (fnd L s) { f with su := f.all.size }
    else if kind = 3 then outX (outX L s) to_ ++ [⟨to_, f.all, f.su⟩]
    else if kind = 4 then outX L s
    else L.set (fnd L s) ⟨s, f.all.extract 0 n.toNat, min f.su n.toNat⟩
  | none => L
def doX (S : DS) (kind : Int) (s to_ : ByteArray) (n : Int) : DS × Int :=
  if S.on = false then (S, 9) else match S.fs[fnd S.fs s]? with
  | none => (S, 7)
  | some f => if kind = 3 ∧ namedD to_ = false then (S, 1)
    else if kind = 5 ∧ (n < 0 ∨ (f.all.size : Int) < n) then (S, 11)
    else opD S fun L => doT L kind s to_ n
theorem fs_of_blow (S : DS) : (blow S).1 = ⟨S.fs, S.room, S.made, (blow S).1.on, (blow S).1.fuse, (blow S).1.ops⟩ := by
  unfold blow
  split
  · rfl
  · split <;> rfl

end Go.Proofs.YtcpmicinibfepaaGreatDoor

namespace Go.Proofs.YtcpmicinibfepaaGreatDoor
open Go.ChangeShapes Go.WideShapes Go.ChangeAt Go.RowKit Go.Deep DiskP


/-- two operations may come up -/
theorem wpAnyH_two {P : Program} {md : Region.Mode} {Q : Exit → Act → World → Prop} {S : World → Prop} {l : List Oper} {o o' : Oper} (i j : Nat) {f : Nat} {listed : Array Bool} {a : Act} {w : World} (hr : Region.ready md l.toArray listed = [i, j]) (ho : (l.drop i).head? = some o) (ho' : (l.drop j).head? = some o')
    (h : ∀ K' : Act → World → Prop, Shut (∀ a w, S w → (S w → wpAnyH P md l.toArray Q S f (listed.setIfInBounds i true) a w) → K' a w) → if Region.wanted o (yielded l.toArray a.tmps) = true then Oper.wp P o a w K' Q else K' (a.put o.dst undef) w)
    (h' : ∀ K' : Act → World → Prop, Shut (∀ a w, S w → (S w → wpAnyH P md l.toArray Q S f (listed.setIfInBounds j true) a w) → K' a w) → if Region.wanted o' (yielded l.toArray a.tmps) = true then Oper.wp P o' a w K' Q else K' (a.put o'.dst undef) w) : wpAnyH P md l.toArray Q S (f + 1) listed a w :=
  wpAnyH_ready (rs := [i, j]) hr (by simp) (AllReadyH.cons (by rw [List.head?_drop] at ho; simpa using ho) h (AllReadyH.cons (by rw [List.head?_drop] at ho'; simpa using ho') h' AllReadyH.nil))
theorem grown_alloc {u w4 : World} {o : Obj} {b : Option Nat} (h : (u.alloc o).grownBy w4 b) : u.grownBy w4 b :=
  ⟨h.os, h.tape, h.output, by have := h.size; rw [World.size_alloc] at this; omega, fun k hk hne => (h.block k (by rw [World.size_alloc]; omega) hne).trans (heap_alloc_old u _ hk)⟩
end Go.Proofs.YtcpmicinibfepaaGreatDoor

namespace Go.Proofs.YtcpmicinibfepaaGreatDoor
open Go.ChangeShapes Go.WideShapes Go.ChangeAt Go.RowKit Go.Deep DiskP


/-- how many unsure bytes are kept -/
def keepX (ks : List Int) (at_ rest : Nat) : Nat := match ks[at_]? with
  | some x => (max 0 (min x (rest : Int))).toNat
  | none => 0
def upF (f : Fl) (n : Nat) : Fl := ⟨f.nm, f.all.extract 0 (f.su + n), f.su + n⟩
def upX1 (ks : List Int) (st : List Fl × Nat) (nm : ByteArray) : List Fl × Nat := match st.1[fnd st.1 nm]? with
  | none => st
  | some f => if f.all.size = f.su then st else (st.1.set (fnd st.1 nm) (upF f (keepX ks st.2 (f.all.size - f.su))), st.2 + 1)
def upXL (L : List Fl) (ks : List Int) (nms : List ByteArray) : List Fl × Nat := nms.foldl (upX1 ks) (L, 0)
theorem upXL_snoc (L : List Fl) (ks : List Int) (nms : List ByteArray) (nm : ByteArray) : upXL L ks (nms ++ [nm]) = upX1 ks (upXL L ks nms) nm := by unfold upXL; rw [List.foldl_append]; rfl
/-- what stays as it is -/
structure UpInv (L : List Fl) (i : Nat) (st : List Fl × Nat) : Prop where
  nms : names st.1 = names L
  sure : ∀ f ∈ st.1, f.su ≤ f.all.size
  big : ∀ f ∈ st.1, f.all.size ≤ 100000000
  at_ : st.2 ≤ i
theorem keepX_le (ks : List Int) (a r : Nat) : keepX ks a r ≤ r := by
  unfold keepX
  split
  · omega
  · omega
theorem upX1_inv {L : List Fl} {i : Nat} {st : List Fl × Nat} (h : UpInv L i st) (ks : List Int) (nm : ByteArray) : UpInv L (i + 1) (upX1 ks st nm) := by
  have h4 := h.at_
  unfold upX1
  split
  · exact ⟨h.nms, h.sure, h.big, by omega⟩
  · rename_i f hf
    split
    · exact ⟨h.nms, h.sure, h.big, by omega⟩
    · have hs := h.sure f (List.mem_of_getElem? hf)
      have hb := h.big f (List.mem_of_getElem? hf)
      have hk := keepX_le ks st.2 (f.all.size - f.su)
      refine ⟨by rw [← h.nms]; exact names_set hf rfl, fun g hg => ?_, fun g hg => ?_, by simp only; omega⟩
      · rcases mem_set hg with rfl | hg
        · unfold upF; simp only [ByteArray.size_extract]; omega
        · exact h.sure g hg
      · rcases mem_set hg with rfl | hg
        · unfold upF; simp only [ByteArray.size_extract]; omega
        · exact h.big g hg
theorem upXL_inv {L : List Fl} (hs : ∀ f ∈ L, f.su ≤ f.all.size) (hb : ∀ f ∈ L, f.all.size ≤ 100000000) (ks : List Int) (nms : List ByteArray) : UpInv L nms.length (upXL L ks nms) := by
  induction nms using RankP.snoc_ind with
  | h0 => exact ⟨rfl, hs, hb, Nat.le_refl _⟩
  | h1 l x ih => rw [upXL_snoc, List.length_append]; exact upX1_inv ih ks x
theorem fnd_lt {L : List Fl} {nm : ByteArray} (h : nm ∈ names L) : fnd L nm < L.length := by
  obtain ⟨f, hf, e⟩ := List.mem_map.1 h
  exact List.findIdx_lt_length_of_exists ⟨f, hf, by simpa using e⟩
theorem insN_mem {out : List ByteArray} {nm a : ByteArray} : a ∈ insN out nm ↔ a = nm ∨ a ∈ out := by
  unfold insN
  constructor
  · intro h
    rcases List.mem_append.1 h with h | h
    · exact .inr (List.mem_of_mem_take h)
    · rcases List.mem_cons.1 h with h | h
      · exact .inl h
      · exact .inr (List.mem_of_mem_drop h)
  · rintro (h | h)
    · exact List.mem_append_right _ (by rw [h]; exact List.mem_cons_self)
    · rw [← List.take_append_drop (posN out nm) out] at h
      rcases List.mem_append.1 h with h | h
      · exact List.mem_append_left _ h
      · exact List.mem_append_right _ (List.mem_cons_of_mem _ h)
theorem namesX_mem {L : List Fl} {a : ByteArray} : a ∈ namesX L ↔ a ∈ names L := by
  induction L using RankP.snoc_ind with
  | h0 => rfl
  | h1 l x ih =>
    rw [namesX_snoc, insN_mem, ih]
    unfold names
    rw [List.map_append, List.mem_append, List.map_cons, List.map_nil, List.mem_singleton]
    exact Or.comm
def upX (S : DS) (ks : List Int) : DS := { S with fs := (upXL S.fs ks (namesX S.fs)).1, on := true, fuse := -1 }
theorem tkeep_row {T e : TypeId} {x n sz base : Nat} {v : Value} {xs : List Value} {w w' : World} (h : TKeep T x w w') (ho : w.ownsRow base e sz v n xs) (hb : x < base) (he : e ≠ T) : w'.ownsRow base e sz v n xs := own_at ho fun g hg => by
  obtain ⟨cur, hc⟩ := own_type ho hg
  have h1 := ho.lt g hg
  exact h.others g (by omega) h1.2 (fun cs z e' => by rw [hc] at e'; exact he (by simpa using congrArg (fun o => match o with | some (Obj.cells _ T _) => T | _ => 0) e'))

end Go.Proofs.YtcpmicinibfepaaGreatDoor

namespace Go.Proofs.YtcpmicinibfepaaGreatDoor
open Go.ChangeShapes Go.WideShapes Go.ChangeAt Go.RowKit Go.Deep DiskP

def actX (S : DS) (a : Ac) : DS × Int :=
  if a.kind = 1 then appendX S a.nm a.s
  else if 2 ≤ a.kind ∧ a.kind ≤ 5 then doX S a.kind a.nm a.to_ a.n
  else if a.kind = 6 then ({ S with fuse := max a.n (-1) }, 0)
  else if a.kind = 7 then ({ S with on := false, fuse := -1 }, 0)
  else if a.kind = 8 then (upX S a.ks, 0)
  else (S, 0)

end Go.Proofs.YtcpmicinibfepaaGreatDoor
