/- Slices of frames: toFrameS. No conditions. -/
import Derived.Test.YtgeicojnjagboaaP1
import Derived.Laws.MakeOwn
namespace Go.Proofs.Ytgeicojnjagboaa
open Go.ChangeShapes Go.WideShapes Go.ChangeAt Go.RowKit Go.Sort QM
set_option linter.unusedVariables false
set_option linter.unusedSimpArgs false
theorem info_frm : (Try.prog.info? 23).map (fun i => (i.zero, i.size, i.bytes)) = some (some (.agg #[.int .i64 0, .int .i64 0, .int .i64 0, .string ⟨#[]⟩, .bool false, .int .i64 0, .int .i64 0, .int .i64 0, .bool false]), 9, 80) := by kernel_rfl
end Go.Proofs.Ytgeicojnjagboaa
