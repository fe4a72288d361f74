/- The walk of the law on EqualRanges. No conditions. -/
import Derived.Test.YtaackmiodkpnoaaDoorRngL1
namespace Go.Proofs.YtaackmiodkpnoaaDoor
open Go.ChangeShapes Go.WideShapes Go.ChangeAt Go.RowKit Go.Sort RM
set_option linter.unusedVariables false
theorem szRangeS_more {A : Option Addr} {c n : Nat} {w : World} (m : Int) (hm0 : 0 ≤ m) (hm1 : m ≤ 1048576) (hm : n ≤ 9223372036854775807) : Calls Tryd.prog 5 #[.slice A n c, .int .i64 m] w fun e w' => e = .returned (.int .i64 (if (n : Int) ≤ m then m - (n : Int) else -1)) ∧ w = w' := by
  by_cases h : (n : Int) ≤ m
  · go_enter Tryd.func5, Tryd.ntmps5
    go_wp2
    go_ret
    exact ⟨rfl, rfl⟩
  · go_enter Tryd.func5, Tryd.ntmps5
    go_wp2
    go_ret
    exact ⟨rfl, rfl⟩
theorem iEq {A A' : Option Addr} {c c' n n' : Nat} {w : World} {B : Nat} {l m : List R} (hB : B ≤ w.heap.size) (hr : Rd w B A (encR l)) (hs : Rd w B A' (encR m)) (hm : n ≤ 9223372036854775807) (hm' : n' ≤ 9223372036854775807) (HL : Hid (l.length = n)) (HM : Hid (m.length = n')) :
    Calls Tryd.prog 27 #[.slice A n c, .slice A' n' c'] w fun e w' => e = .returned (.bool (eqRs l m)) ∧ Below w.heap.size w w' := by
  go_enter Tryd.func27, Tryd.ntmps27
  go_wp2_with fail
  refine (iEq0 hB hr hs hm hm' HL HM).mono ?_
  rintro e w' ⟨rfl, hb⟩
  go_wp2
  go_ret
  exact ⟨rfl, hb⟩
end Go.Proofs.YtaackmiodkpnoaaDoor
