/- Slices of Sounding: the statements' helpers. -/
import Derived.Test.YtcbehnlpefjhdaaFour
import Derived.StillTailTactics
namespace Go.Proofs.Ytcbehnlpefjhdaa
open Go.RowKit
set_option maxRecDepth 100000
set_option linter.unusedVariables false

theorem info_Sounding : (Try.prog.info? 46).map (fun i => (i.zero, i.size, i.bytes)) = some (some (.agg #[.int .i64 0, .int .i64 0, .int .i64 0, .int .i64 0]), 4, 32) := by kernel_rfl