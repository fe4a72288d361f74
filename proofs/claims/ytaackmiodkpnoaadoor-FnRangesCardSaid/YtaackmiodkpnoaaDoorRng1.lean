/- Contracts of the small functions on one range. No conditions. -/
import Derived.Test.YtaackmiodkpnoaaDoorMem
import Derived.Test.YtaackmiodkpnoaaDoorRMath
namespace Go.Proofs.YtaackmiodkpnoaaDoor
open Go.ChangeShapes Go.WideShapes Go.ChangeAt Go.RowKit Go.Sort RM
set_option linter.unusedVariables false
theorem isR_if (r : R) : isR r = (decide (0 ≤ r.1) && decide (r.1 < r.2) && decide (r.2 ≤ 4611686018427387903)) := rfl
theorem l3Fine_any (a b : Int) (w : World) : Calls Tryd.prog 37 #[.agg #[.int .i64 a, .int .i64 b]] w fun e w' => e = .returned (.bool (isR (a, b))) ∧ Below w.heap.size w w' := by
  go_enter Tryd.func37, Tryd.ntmps37
  go_wp2
  all_goals go_ret
  all_goals exact ⟨ret_bool (by simp [isR_if]; try omega), (Below.refl _ _).alloc (Nat.le_refl _) _⟩
theorem isRange_any (a b : Int) (w : World) : Calls Tryd.prog 35 #[.agg #[.int .i64 a, .int .i64 b]] w fun e w' => e = .returned (.bool (isR (a, b))) ∧ Below w.heap.size w w' := by
  go_enter Tryd.func35, Tryd.ntmps35
  go_wp2
  all_goals go_ret
  all_goals exact ⟨ret_bool (by simp [isR_if]; try omega), (Below.refl _ _).alloc (Nat.le_refl _) _⟩
def eqRb (a b c d : Int) : Bool := a == c && b == d
theorem eqRb_true {a b c d : Int} (h : eqRb a b c d = true) : (a, b) = (c, d) := by simpa [eqRb] using h
theorem eqRb_false {a b c d : Int} (h : eqRb a b c d = false) : (a, b) ≠ (c, d) := by
  rintro e; injection e with e1 e2; subst e1 e2; simp [eqRb] at h
theorem eqRange_any (a b c d : Int) (w : World) : Calls Tryd.prog 31 #[.agg #[.int .i64 a, .int .i64 b], .agg #[.int .i64 c, .int .i64 d]] w fun e w' => e = .returned (.bool (eqRb a b c d)) ∧ Below w.heap.size w w' := by
  go_enter Tryd.func31, Tryd.ntmps31
  go_wp2
  all_goals go_ret
  all_goals exact ⟨ret_bool (by simp_all [eqRb]), ((Below.refl _ _).alloc (Nat.le_refl _) _).alloc (by simp) _⟩
theorem toRange_any (a b : Int) (w : World) : Calls Tryd.prog 29 #[.agg #[.int .i64 a, .int .i64 b]] w fun e w' => e = .returned (.agg #[.int .i64 a, .int .i64 b]) ∧ Below w.heap.size w w' := by
  go_enter Tryd.func29, Tryd.ntmps29
  go_wp2
  refine bodyPost_ret (v := .agg #[.int .i64 a, .int .i64 b]) (by simp [results, Tryd.results29, go_sem]) rfl ⟨rfl, ?_⟩

  go_grown
end Go.Proofs.YtaackmiodkpnoaaDoor
