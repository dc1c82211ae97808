/- Plain mathematics of records as bytes (no program in sight): what is put is taken as it was, what is taken was put so, no two records have the same bytes; lots. -/
import Derived.Test.YtcpmicinibfepaaGreatDoorUAa
namespace Go.Proofs.YtcpmicinibfepaaGreatDoor.CodeP
open VariP PackP


/-- a record -/
structure Sp where
  tr : Int
  id : Int
  pa : Int
  rv : Int
  sv : Bs
  op : Bs
  st : Int
  du : Int
  gn : Bool
deriving DecidableEq
def Sp.zero : Sp := ⟨0, 0, 0, 0, [], [], 0, 0, false⟩
def I64 (n : Int) : Prop := -9223372036854775808 ≤ n ∧ n ≤ 9223372036854775807
def Sp.Ok (x : Sp) : Prop := I64 x.tr ∧ I64 x.id ∧ I64 x.pa ∧ I64 x.rv ∧ I64 x.st ∧ I64 x.du
def named (s : Bs) : Bool := s.all (fun c => 33 ≤ c.toNat && c.toNat ≤ 126) && 1 ≤ s.length && s.length ≤ 24
/-- may a record be? (0: yes; 1: no) -/
def mayB (x : Sp) : Bool := 1 ≤ x.tr && 1 ≤ x.id && 0 ≤ x.pa && 0 ≤ x.rv && named x.sv && named x.op && -4611686018427387904 ≤ x.st && x.st ≤ 4611686018427387903
def may (x : Sp) : Int := if mayB x then 0 else 1
def enc (x : Sp) : Bs := putI x.tr ++ (putI x.id ++ (putI x.pa ++ (putI x.rv ++ (text x.sv ++ (text x.op ++ (put (zig x.st) ++ (put (zig x.du) ++ flag x.gn)))))))
def putS (x : Sp) : Bs × Int := if mayB x then (enc x, 0) else ([], 1)
/-- a record is read: what, and what is left -/
def rSp (r : St) : Sp × St :=
  let a := rNum r
  let b := rNum a.2
  let c := rNum b.2
  let d := rNum c.2
  let e := rText 24 d.2
  let f := rText 24 e.2
  let g := rSigned f.2
  let h := rSigned g.2
  let i := rFlag h.2
  (if i.2.2 ≠ 0 then Sp.zero else ⟨a.1, b.1, c.1, d.1, e.1, f.1, g.1, h.1, i.1⟩, i.2)
def takeS (s : Bs) : Sp × Int :=
  if rEnd (rSp (s, 0)).2 ≠ 0 then (Sp.zero, rEnd (rSp (s, 0)).2) else if mayB (rSp (s, 0)).1 then ((rSp (s, 0)).1, 0) else (Sp.zero, 1)

theorem rSp_err (r : St) (h : r.2 ≠ 0) : rSp r = (Sp.zero, r) := by
  unfold rSp
  simp only [rNum_err r h, rText_err 24 r h, rSigned_err r h, rFlag_err r h]
  rw [if_pos h]

/-- fit for being written so that it is read -/
def Fit (x : Sp) : Prop := 0 ≤ x.tr ∧ 0 ≤ x.id ∧ 0 ≤ x.pa ∧ 0 ≤ x.rv ∧ x.sv.length ≤ 24 ∧ x.op.length ≤ 24 ∧ x.Ok
theorem may_fit (x : Sp) (hx : x.Ok) (h : mayB x = true) : Fit x := by
  simp only [mayB, named, Bool.and_eq_true, decide_eq_true_eq] at h
  obtain ⟨⟨⟨⟨⟨⟨⟨h1, h2⟩, h3⟩, h4⟩, h5⟩, h6⟩, _⟩, _⟩ := h
  exact ⟨by omega, by omega, h3, h4, h5.2, h6.2, hx⟩
theorem rSp_enc (x : Sp) (h : Fit x) (s : Bs) : rSp (enc x ++ s, 0) = (x, (s, 0)) := by
  obtain ⟨h1, h2, h3, h4, h5, h6, ⟨k1, k2, k3, k4, k5, k6⟩⟩ := h
  unfold rSp enc
  simp only [List.append_assoc]
  simp only [rNum_put x.tr _ h1 k1.2, rNum_put x.id _ h2 k2.2, rNum_put x.pa _ h3 k3.2, rNum_put x.rv _ h4 k4.2, rText_put 24 x.sv _ (by omega) (by omega), rText_put 24 x.op _ (by omega) (by omega),
    rSigned_put x.st _ k5, rSigned_put x.du _ k6, rFlag_put]
  rw [if_neg (by simp)]
theorem rNum_0 (r s : St) (n : Int) (h : rNum r = (n, s)) (hs : s.2 = 0) : r.2 = 0 := by
  rcases Decidable.em (r.2 = 0) with h0 | h0
  · exact h0
  · rw [rNum_err r h0] at h; cases h; exact hs
theorem rSigned_0 (r s : St) (n : Int) (h : rSigned r = (n, s)) (hs : s.2 = 0) : r.2 = 0 := by
  rcases Decidable.em (r.2 = 0) with h0 | h0
  · exact h0
  · rw [rSigned_err r h0] at h; cases h; exact hs
theorem rText_0 (m : Int) (r s : St) (n : Bs) (h : rText m r = (n, s)) (hs : s.2 = 0) : r.2 = 0 := by
  rcases Decidable.em (r.2 = 0) with h0 | h0
  · exact h0
  · rw [rText_err m r h0] at h; cases h; exact hs
theorem rFlag_0 (r s : St) (n : Bool) (h : rFlag r = (n, s)) (hs : s.2 = 0) : r.2 = 0 := by
  rcases Decidable.em (r.2 = 0) with h0 | h0
  · exact h0
  · rw [rFlag_err r h0] at h; cases h; exact hs
theorem st_eq (r : St) (h : r.2 = 0) : r = (r.1, 0) := by cases r; simp at h; rw [h]
theorem rSp_back (l l' : Bs) (x : Sp) (h : rSp (l, 0) = (x, (l', 0))) : l = enc x ++ l' ∧ Fit x := by
  unfold rSp at h
  rcases ea : rNum (l, 0) with ⟨a, ra⟩
  rw [ea] at h; simp only at h
  rcases eb : rNum ra with ⟨b, rb⟩
  rw [eb] at h; simp only at h
  rcases ec : rNum rb with ⟨c, rc⟩
  rw [ec] at h; simp only at h
  rcases ed : rNum rc with ⟨d, rd⟩
  rw [ed] at h; simp only at h
  rcases ee : rText 24 rd with ⟨e, re⟩
  rw [ee] at h; simp only at h
  rcases ef : rText 24 re with ⟨f, rf⟩
  rw [ef] at h; simp only at h
  rcases eg : rSigned rf with ⟨g, rg⟩
  rw [eg] at h; simp only at h
  rcases eh : rSigned rg with ⟨hh, rh⟩
  rw [eh] at h; simp only at h
  rcases ei : rFlag rh with ⟨i, ri⟩
  rw [ei] at h; simp only at h
  simp only [Prod.mk.injEq] at h
  obtain ⟨hx, hr⟩ := h
  subst hr
  rw [if_neg (by simp)] at hx
  have zh := rFlag_0 _ _ _ ei rfl
  have zg := rSigned_0 _ _ _ eh zh
  have zf := rSigned_0 _ _ _ eg zg
  have ze := rText_0 _ _ _ _ ef zf
  have zd := rText_0 _ _ _ _ ee ze
  have zc := rNum_0 _ _ _ ed zd
  have zb := rNum_0 _ _ _ ec zc
  have za := rNum_0 _ _ _ eb zb
  rw [st_eq ra za] at ea eb
  rw [st_eq rb zb] at eb ec
  rw [st_eq rc zc] at ec ed
  rw [st_eq rd zd] at ed ee
  rw [st_eq re ze] at ee ef
  rw [st_eq rf zf] at ef eg
  rw [st_eq rg zg] at eg eh
  rw [st_eq rh zh] at eh ei
  obtain ⟨b1, c1, c2⟩ := rNum_back _ _ _ ea
  obtain ⟨b2, c3, c4⟩ := rNum_back _ _ _ eb
  obtain ⟨b3, c5, c6⟩ := rNum_back _ _ _ ec
  obtain ⟨b4, c7, c8⟩ := rNum_back _ _ _ ed
  obtain ⟨b5, c9⟩ := rText_back _ _ _ _ ee
  obtain ⟨b6, c10⟩ := rText_back _ _ _ _ ef
  obtain ⟨b7, c11⟩ := rSigned_back _ _ _ eg
  obtain ⟨b8, c12⟩ := rSigned_back _ _ _ eh
  have b9 := rFlag_back _ _ _ ei
  subst hx
  have q1 : e.length ≤ 24 := by omega
  have q2 : f.length ≤ 24 := by omega
  have lo : ∀ n : Int, 0 ≤ n → -9223372036854775808 ≤ n := fun n hn => by omega
  refine ⟨?_, c1, c3, c5, c7, q1, q2, ⟨lo _ c1, c2⟩, ⟨lo _ c3, c4⟩, ⟨lo _ c5, c6⟩, ⟨lo _ c7, c8⟩, c11, c12⟩
  rw [b1, b2, b3, b4, b5, b6, b7, b8, b9]
  simp [enc]
theorem takeS_putS (x : Sp) (hx : x.Ok) (h : mayB x = true) : takeS (enc x) = (x, 0) := by
  have e := rSp_enc x (may_fit x hx h) []
  rw [List.append_nil] at e
  unfold takeS
  rw [e, if_neg (by simp [rEnd]), if_pos h]
theorem takeS_back (s : Bs) (x : Sp) (h : takeS s = (x, 0)) : s = enc x ∧ mayB x = true ∧ x.Ok := by
  unfold takeS at h
  split at h
  · rename_i he; simp only [Prod.mk.injEq] at h; exact absurd h.2 he
  · rename_i he
    split at h
    · rename_i hm
      rcases hr : rSp (s, 0) with ⟨y, l, e⟩
      rw [hr] at h he hm
      simp only [Prod.mk.injEq] at h
      obtain ⟨rfl, _⟩ := h
      have he' : rEnd (l, e) = 0 := Decidable.of_not_not he
      unfold rEnd at he'
      split at he'
      · simp at he'
      · rename_i hn
        simp only at he' hn
        subst he'
        have hl : l = [] := by
          rcases Decidable.em (l = []) with h0 | h0
          · exact h0
          · exact absurd ⟨rfl, h0⟩ hn
        subst hl
        obtain ⟨h1, h2⟩ := rSp_back _ _ _ hr
        exact ⟨by simpa using h1, hm, h2.2.2.2.2.2.2⟩
    · simp at h
theorem takeS_err (s : Bs) (h : (takeS s).2 ≠ 0) : (takeS s).1 = Sp.zero := by
  unfold takeS at h ⊢
  split
  · rfl
  · rename_i he
    rw [if_neg he] at h
    split
    · rename_i hm; rw [if_pos hm] at h; simp at h
    · rfl
theorem enc_inj (x y : Sp) (hx : Fit x) (hy : Fit y) (h : enc x = enc y) : x = y := by
  have e1 := rSp_enc x hx []
  have e2 := rSp_enc y hy []
  rw [h, e2] at e1
  exact (congrArg Prod.fst e1).symm
theorem enc_pos (x : Sp) : 1 ≤ (enc x).length := by
  unfold enc
  simp only [List.length_append]
  have := put_pos (zig x.st)
  omega
end Go.Proofs.YtcpmicinibfepaaGreatDoor.CodeP
