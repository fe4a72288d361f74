/- IsFrame: one contract for each package. No conditions. -/
import Derived.Test.YtadoiehgobcjcaaF2
namespace Go.Proofs.Ytadoiehgobcjcaa
open Go.ChangeShapes Go.WideShapes Go.ChangeAt Go.RowKit Go.Sort QM
set_option linter.unusedVariables false
set_option linter.unusedSimpArgs false
/-- Are two frames the same, field by field? -/
def eqFb (a b c : Int) (d : ByteArray) (e : Bool) (g l m : Int) (u : Bool) (a' b' c' : Int) (d' : ByteArray) (e' : Bool) (g' l' m' : Int) (u' : Bool) : Bool :=
  a == a' && (b == b' && (c == c' && (d.toList == d'.toList && (e == e' && (g == g' && (l == l' && (m == m' && u == u')))))))
theorem run_neq_fr (a b c : Int) (d : ByteArray) (e : Bool) (g l m : Int) (u : Bool) (a' b' c' : Int) (d' : ByteArray) (e' : Bool) (g' l' m' : Int) (u' : Bool) (w : World) :
    (binOp .neq 40 (.agg #[.int .i64 a, .int .i64 b, .int .i64 c, .string d, .bool e, .int .i64 g, .int .i64 l, .int .i64 m, .bool u]) (.agg #[.int .i64 a', .int .i64 b', .int .i64 c', .string d', .bool e', .int .i64 g', .int .i64 l', .int .i64 m', .bool u'])).run Try.prog w = .ok (.bool (!(eqFb a b c d e g l m u a' b' c' d' e' g' l' m' u'))) w := by
  by_cases h0 : a = a'
  rotate_left
  · have h0' : (a == a') = false := by rw [beq_eq_false_iff_ne]; exact h0
    simp [go_sem, eqFb, h0, h0']
  subst h0
  by_cases h1 : b = b'
  rotate_left
  · have h1' : (b == b') = false := by rw [beq_eq_false_iff_ne]; exact h1
    simp [go_sem, eqFb, h1, h1']
  subst h1
  by_cases h2 : c = c'
  rotate_left
  · have h2' : (c == c') = false := by rw [beq_eq_false_iff_ne]; exact h2
    simp [go_sem, eqFb, h2, h2']
  subst h2
  by_cases h3 : d.toList = d'.toList
  rotate_left
  · have h3' : (d.toList == d'.toList) = false := by rw [beq_eq_false_iff_ne]; exact h3
    simp [go_sem, eqFb, h3, h3']
  by_cases h4 : e = e'
  rotate_left
  · have h4' : (e == e') = false := by rw [beq_eq_false_iff_ne]; exact h4
    simp [go_sem, eqFb, h4, h4', h3]
  subst h4
  by_cases h5 : g = g'
  rotate_left
  · have h5' : (g == g') = false := by rw [beq_eq_false_iff_ne]; exact h5
    simp [go_sem, eqFb, h5, h5', h3]
  subst h5
  by_cases h6 : l = l'
  rotate_left
  · have h6' : (l == l') = false := by rw [beq_eq_false_iff_ne]; exact h6
    simp [go_sem, eqFb, h6, h6', h3]
  subst h6
  by_cases h7 : m = m'
  rotate_left
  · have h7' : (m == m') = false := by rw [beq_eq_false_iff_ne]; exact h7
    simp [go_sem, eqFb, h7, h7', h3]
  subst h7
  by_cases h8 : u = u'
  rotate_left
  · have h8' : (u == u') = false := by rw [beq_eq_false_iff_ne]; exact h8
    simp [go_sem, eqFb, h8, h8', h3]
  subst h8
  simp [go_sem, eqFb, h3]
theorem eqFb_comm (a b c : Int) (d : ByteArray) (e : Bool) (g l m : Int) (u : Bool) (a' b' c' : Int) (d' : ByteArray) (e' : Bool) (g' l' m' : Int) (u' : Bool) : eqFb a b c d e g l m u a' b' c' d' e' g' l' m' u' = eqFb a' b' c' d' e' g' l' m' u' a b c d e g l m u := by
  unfold eqFb
  rw [BEq.comm (a := a), BEq.comm (a := b), BEq.comm (a := c), BEq.comm (a := d.toList), BEq.comm (a := e), BEq.comm (a := g), BEq.comm (a := l), BEq.comm (a := m), BEq.comm (a := u)]
theorem none_of {d : ByteArray} (h : d.toList = (⟨#[]⟩ : ByteArray).toList) : d = ⟨#[]⟩ := by
  rw [ByteArray.toList_eq, ByteArray.toList_eq] at h
  exact bytes_inj h
theorem sKindB (k : Int) (w : World) : Calls Try.prog 35 #[.int .i64 k] w fun e w' => e = .returned (.string (kindB k)) ∧ Below w.heap.size w w' := (sKind k w).mono fun _ _ ⟨h1, h2⟩ => ⟨h1, h2 ▸ Below.refl _ _⟩
theorem iKindB (k : Int) (w : World) : Calls Try.prog 34 #[.int .i64 k] w fun e w' => e = .returned (.string (kindB k)) ∧ Below w.heap.size w w' := (iKind k w).mono fun _ _ ⟨h1, h2⟩ => ⟨h1, h2 ▸ Below.refl _ _⟩
theorem l4Quic_anyB (n : Int) (w : World) : Calls Try.prog 61 #[.int .i64 n] w fun e w' => e = .returned (.bool (qB n)) ∧ Below w.heap.size w w' := (l4Quic_any n w).mono fun _ _ ⟨h1, h2⟩ => ⟨h1, h2 ▸ Below.refl _ _⟩
theorem isQuic_anyB (n : Int) (w : World) : Calls Try.prog 50 #[.int .i64 n] w fun e w' => e = .returned (.bool (qB n)) ∧ Below w.heap.size w w' := (isQuic_any n w).mono fun _ _ ⟨h1, h2⟩ => ⟨h1, h2 ▸ Below.refl _ _⟩
end Go.Proofs.Ytadoiehgobcjcaa
