/- Two records compared: one rule of the walk. -/
import Derived.Test.YtkhnmdmpkedifaaSat
namespace Go.Proofs.Ytkhnmdmpkedifaa
open Go.ChangeShapes Go.WideShapes Go.ChangeAt Go.RowKit Go.Deep

def spEq (x y : Sp) : Bool := x.tr == y.tr && (x.id == y.id && (x.pa == y.pa && (x.rv == y.rv && (x.sv.toList == y.sv.toList && (x.op.toList == y.op.toList && (x.st == y.st && (x.du == y.du && (x.gn == y.gn))))))))
theorem run_equalIn_span (w : World) (n : Nat) (a b c d : Int) (e f : ByteArray) (g h : Int) (i : Bool) (a' b' c' d' : Int) (e' f' : ByteArray) (g' h' : Int) (i' : Bool) :
    (Op.equalIn (n + 2) 23 (.agg #[.int .i64 a, .int .i64 b, .int .i64 c, .int .i64 d, .string e, .string f, .int .i64 g, .int .i64 h, .bool i]) (.agg #[.int .i64 a', .int .i64 b', .int .i64 c', .int .i64 d', .string e', .string f', .int .i64 g', .int .i64 h', .bool i'])).run Try.prog w
      = .ok (spEq ⟨a, b, c, d, e, f, g, h, i⟩ ⟨a', b', c', d', e', f', g', h', i'⟩) w := by
  unfold spEq
  by_cases q1 : a = a'
  case neg => simp [go_sem, q1]
  by_cases q2 : b = b'
  case neg => simp [go_sem, q1, q2]
  by_cases q3 : c = c'
  case neg => simp [go_sem, q1, q2, q3]
  by_cases q4 : d = d'
  case neg => simp [go_sem, q1, q2, q3, q4]
  by_cases q5 : e.toList = e'.toList
  case neg => simp [go_sem, q1, q2, q3, q4, q5]
  by_cases q6 : f.toList = f'.toList
  case neg => simp [go_sem, q1, q2, q3, q4, q5, q6]
  by_cases q7 : g = g'
  case neg => simp [go_sem, q1, q2, q3, q4, q5, q6, q7]
  by_cases q8 : h = h'
  case neg => simp [go_sem, q1, q2, q3, q4, q5, q6, q7, q8]
  by_cases q9 : i = i'
  · simp [go_sem, q1, q2, q3, q4, q5, q6, q7, q8, q9]
  · have q9' : (i == i') = false := by rw [beq_eq_false_iff_ne]; exact q9
    simp [go_sem, q1, q2, q3, q4, q5, q6, q7, q8, q9']
@[go_sem high] theorem run_eq_span (w : World) (a b c d : Int) (e f : ByteArray) (g h : Int) (i : Bool) (a' b' c' d' : Int) (e' f' : ByteArray) (g' h' : Int) (i' : Bool) :
    (binOp .eql 23 (.agg #[.int .i64 a, .int .i64 b, .int .i64 c, .int .i64 d, .string e, .string f, .int .i64 g, .int .i64 h, .bool i]) (.agg #[.int .i64 a', .int .i64 b', .int .i64 c', .int .i64 d', .string e', .string f', .int .i64 g', .int .i64 h', .bool i'])).run Try.prog w
      = .ok (.bool (spEq ⟨a, b, c, d, e, f, g, h, i⟩ ⟨a', b', c', d', e', f', g', h', i'⟩)) w := by
  rw [run_eql_struct, run_equalIn_span w 9998]; rfl
@[go_sem high] theorem run_ne_span (w : World) (a b c d : Int) (e f : ByteArray) (g h : Int) (i : Bool) (a' b' c' d' : Int) (e' f' : ByteArray) (g' h' : Int) (i' : Bool) :
    (binOp .neq 23 (.agg #[.int .i64 a, .int .i64 b, .int .i64 c, .int .i64 d, .string e, .string f, .int .i64 g, .int .i64 h, .bool i]) (.agg #[.int .i64 a', .int .i64 b', .int .i64 c', .int .i64 d', .string e', .string f', .int .i64 g', .int .i64 h', .bool i'])).run Try.prog w
      = .ok (.bool (!spEq ⟨a, b, c, d, e, f, g, h, i⟩ ⟨a', b', c', d', e', f', g', h', i'⟩)) w := by
  rw [run_neq_struct, run_equalIn_span w 9998]; rfl
@[simp, go_sem] theorem spEq_self (x : Sp) : spEq x x = true := by simp [spEq]
theorem spEq_ne {x y : Sp} (h : x ≠ y) : spEq x y = false := by
  rcases hb : spEq x y with _ | _
  · rfl
  · refine absurd ?_ h
    obtain ⟨a, b, c, d, e, f, g, k, i⟩ := x
    obtain ⟨a', b', c', d', e', f', g', k', i'⟩ := y
    simp only [spEq, Bool.and_eq_true, beq_iff_eq] at hb
    obtain ⟨rfl, rfl, rfl, rfl, h5, h6, rfl, rfl, rfl⟩ := hb
    rw [ByteArray.toList_eq, ByteArray.toList_eq] at h5 h6
    obtain ⟨⟨e⟩⟩ := e
    obtain ⟨⟨e'⟩⟩ := e'
    obtain ⟨⟨f⟩⟩ := f
    obtain ⟨⟨f'⟩⟩ := f'
    simp only at h5 h6
    rw [h5, h6]
