/- Contracts of the small functions on one range. No conditions. -/
import Derived.Test.YtaackmiodkpnoaaMem
import Derived.Test.YtaackmiodkpnoaaRMath
namespace Go.Proofs.Ytaackmiodkpnoaa
open Go.ChangeShapes Go.WideShapes Go.ChangeAt Go.RowKit Go.Sort RM
set_option linter.unusedVariables false
theorem isR_if (r : R) : isR r = (decide (0 ≤ r.1) && decide (r.1 < r.2) && decide (r.2 ≤ 4611686018427387903)) := rfl
theorem l3Fine_any (a b : Int) (w : World) : Calls Try.prog 50 #[.agg #[.int .i64 a, .int .i64 b]] w fun e w' => e = .returned (.bool (isR (a, b))) ∧ Below w.heap.size w w' := by
  go_enter Try.func50, Try.ntmps50
  go_wp2
  all_goals go_ret
  all_goals exact ⟨ret_bool (by simp [isR_if]; try omega), (Below.refl _ _).alloc (Nat.le_refl _) _⟩
theorem isRange_any (a b : Int) (w : World) : Calls Try.prog 71 #[.agg #[.int .i64 a, .int .i64 b]] w fun e w' => e = .returned (.bool (isR (a, b))) ∧ Below w.heap.size w w' := by
  go_enter Try.func71, Try.ntmps71
  go_wp2
  all_goals go_ret
  all_goals exact ⟨ret_bool (by simp [isR_if]; try omega), (Below.refl _ _).alloc (Nat.le_refl _) _⟩
def eqRb (a b c d : Int) : Bool := a == c && b == d
theorem eqRb_true {a b c d : Int} (h : eqRb a b c d = true) : (a, b) = (c, d) := by simpa [eqRb] using h
theorem eqRb_false {a b c d : Int} (h : eqRb a b c d = false) : (a, b) ≠ (c, d) := by
  rintro e; injection e with e1 e2; subst e1 e2; simp [eqRb] at h
theorem eqRange_any (a b c d : Int) (w : World) : Calls Try.prog 18 #[.agg #[.int .i64 a, .int .i64 b], .agg #[.int .i64 c, .int .i64 d]] w fun e w' => e = .returned (.bool (eqRb a b c d)) ∧ Below w.heap.size w w' := by
  go_enter Try.func18, Try.ntmps18
  go_wp2
  all_goals go_ret
  all_goals exact ⟨ret_bool (by simp_all [eqRb]), ((Below.refl _ _).alloc (Nat.le_refl _) _).alloc (by simp) _⟩
theorem toRange_any (a b : Int) (w : World) : Calls Try.prog 42 #[.agg #[.int .i64 a, .int .i64 b]] w fun e w' => e = .returned (.agg #[.int .i64 a, .int .i64 b]) ∧ Below w.heap.size w w' := by
  go_enter Try.func42, Try.ntmps42
  go_wp2
  refine bodyPost_ret (v := .agg #[.int .i64 a, .int .i64 b]) (by simp [results, Try.results42, go_sem]) rfl ⟨rfl, ?_⟩

  go_grown
end Go.Proofs.Ytaackmiodkpnoaa
