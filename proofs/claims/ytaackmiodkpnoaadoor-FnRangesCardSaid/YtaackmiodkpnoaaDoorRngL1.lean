/- The walks of the laws on functions that read slices of ranges. No conditions. -/
import Derived.Test.YtaackmiodkpnoaaDoorRng5
import Derived.Test.YtaackmiodkpnoaaDoorRng6
import Derived.Test.YtaackmiodkpnoaaDoorRng7
namespace Go.Proofs.YtaackmiodkpnoaaDoor
open Go.ChangeShapes Go.WideShapes Go.ChangeAt Go.RowKit Go.Sort RM
set_option linter.unusedVariables false
theorem own_rd {w : World} {base : Nat} {e : TypeId} {size n c : Nat} {A : Option Addr} {xs : List Value} (h : w.ownsRow base e size (.slice A n c) n xs) : Rd w w.heap.size A xs := by
  obtain ⟨A', c', hv, _, hr⟩ := Rd.of_own h
  injection hv with e1 e2 e3
  rw [e1]; exact hr
theorem gb_of_below {w w' : World} (h : Below w.heap.size w w') (row : Option Nat) : w.grownBy w' row := ⟨h.os, h.tape, h.output, h.size, fun k hk _ => h.block k hk⟩
theorem own_step {w w' : World} {base : Nat} {e : TypeId} {size n : Nat} {v : Value} {xs : List Value} (h : w.ownsRow base e size v n xs) (hb : Below w.heap.size w w') : w'.ownsRow base e size v n xs :=
  h.kept (gb_of_below hb none) (by cases hv : v.ownBlock <;> simp)
end Go.Proofs.YtaackmiodkpnoaaDoor
