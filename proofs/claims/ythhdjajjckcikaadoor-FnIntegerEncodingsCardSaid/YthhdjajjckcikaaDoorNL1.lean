/- The walk of the law on FormatInt. -/
import Derived.Test.YthhdjajjckcikaaDoorN1
namespace Go.Proofs.YthhdjajjckcikaaDoor
open Go.ChangeShapes Go.WideShapes Go.ChangeAt Go.RowKit Go.Sort
set_option linter.unusedVariables false
set_option linter.unusedSimpArgs false
theorem Tab.below {w w' : World} {B : Nat} (h : Tab w) (hb : Below B w w') (hB : 2 < B) : Tab w' := by
  have hk := hb.block 2 hB
  unfold Tab Lib.TabIs at h ⊢
  rw [← h]
  unfold World.var?
  simp only [show Tryd.prog.globalNamed "internal/strconv.uint64pow10" = some 2 from by kernel_rfl, Option.bind_some, hk]
theorem Tab.lt {w : World} (h : Tab w) : 2 < w.heap.size :=
  World.block_lt_of_cell? _ _ (Lib.TabIs.cell h (show Tryd.prog.globalNamed "internal/strconv.uint64pow10" = some 2 by kernel_rfl) 0 (by decide))
end Go.Proofs.YthhdjajjckcikaaDoor
