/- The walk of the law on FormatInt. -/
import Derived.Test.YtpjlmbpohklmcaaDoorN1
namespace Go.Proofs.YtpjlmbpohklmcaaDoor
open Go.ChangeShapes Go.WideShapes Go.ChangeAt Go.RowKit Go.Sort
set_option linter.unusedVariables false
set_option linter.unusedSimpArgs false
theorem Tab.below {w w' : World} {B : Nat} (h : Tab w) (hb : Below B w w') (hB : 2 < B) : Tab w' := by
  have hk := hb.block 2 hB
  unfold Tab Lib.TabIs at h ⊢
  rw [← h]
  unfold World.var?
  simp only [show Tryd.prog.globalNamed "internal/strconv.uint64pow10" = some 2 from by kernel_rfl, Option.bind_some, hk]
theorem Tab.lt {w : World} (h : Tab w) : 2 < w.heap.size :=
  World.block_lt_of_cell? _ _ (Lib.TabIs.cell h (show Tryd.prog.globalNamed "internal/strconv.uint64pow10" = some 2 by kernel_rfl) 0 (by decide))
theorem walk_FnExactFormatInt (n : Int) (hw : (Lit.int .i64 n).wf = true) (w : World) (ht : Tab w) : Calls Tryd.prog 3 #[.int .i64 n] w fun e w' => e = .returned (.bool true) ∧ Below w.heap.size w w' := by
  have hb : -9223372036854775808 ≤ n ∧ n ≤ 9223372036854775807 := by simp [Lit.wf, IntKind.min, IntKind.max, IntKind.signed, IntKind.bits] at hw; omega
  go_enter Tryd.func3, Tryd.ntmps3
  go_wp2_with fail
  refine (sFmt n hb.1 hb.2 w).mono ?_
  rintro e w1 ⟨rfl, hb1⟩
  go_wp2_with fail
  refine (iFmt n hb.1 hb.2 w1 (ht.below hb1 ht.lt)).mono ?_
  rintro e w2 ⟨rfl, hb2⟩
  have h02 := below_next hb1 hb1.size hb2
  go_wp2
  go_ret
  exact ⟨rfl, h02⟩
end Go.Proofs.YtpjlmbpohklmcaaDoor
