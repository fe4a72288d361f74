/- The walk of the law on EqualRanges. No conditions. -/
import Derived.Test.YtaackmiodkpnoaaRngL1
namespace Go.Proofs.Ytaackmiodkpnoaa
open Go.ChangeShapes Go.WideShapes Go.ChangeAt Go.RowKit Go.Sort RM
set_option linter.unusedVariables false
theorem szRangeS_more {A : Option Addr} {c n : Nat} {w : World} (m : Int) (hm0 : 0 ≤ m) (hm1 : m ≤ 1048576) (hm : n ≤ 9223372036854775807) : Calls Try.prog 9 #[.slice A n c, .int .i64 m] w fun e w' => e = .returned (.int .i64 (if (n : Int) ≤ m then m - (n : Int) else -1)) ∧ w = w' := by
  by_cases h : (n : Int) ≤ m
  · go_enter Try.func9, Try.ntmps9
    go_wp2
    go_ret
    exact ⟨rfl, rfl⟩
  · go_enter Try.func9, Try.ntmps9
    go_wp2
    go_ret
    exact ⟨rfl, rfl⟩
end Go.Proofs.Ytaackmiodkpnoaa
