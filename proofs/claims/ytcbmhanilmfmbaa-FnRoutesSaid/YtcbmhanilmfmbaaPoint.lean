/- Slices of Point: the statements' helpers. -/
import Derived.Test.YtcbmhanilmfmbaaPair
import Derived.StillTailTactics
namespace Go.Proofs.Ytcbmhanilmfmbaa
open Go.RowKit
set_option maxRecDepth 100000
set_option linter.unusedVariables false

theorem info_Point : (Try.prog.info? 72).map (fun i => (i.zero, i.size, i.bytes)) = some (some (.agg #[.int .i64 0, .int .i64 0]), 2, 16) := by kernel_rfl

end Go.Proofs.Ytcbmhanilmfmbaa
