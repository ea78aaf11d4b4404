/- IsSpikeRule, by both programs. -/
import Derived.Test.YtaimckepaldocaaGreatDoorInt
namespace Go.Proofs.YtaimckepaldocaaGreatDoor
open Go.RowKit
set_option maxRecDepth 100000
set_option linter.unusedVariables false

def spikeRuleOk (r l m : Int) : Bool := inR 0 10000 r && inR 1 200 l && inR 0 1000000 m

theorem ints1 (x : Int) : ints [x] = [.int .i64 x] := rfl

end Go.Proofs.YtaimckepaldocaaGreatDoor
