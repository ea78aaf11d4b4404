/- The walk of FnExactFreeDistance: it returns true and writes nothing that was there. -/
import Derived.Test.YtnfopbdpnnhicaaRows
import Derived.Test.YtnfopbdpnnhicaaInt
import Derived.WalkKit
import Derived.Handy
namespace Go.Proofs.Ytnfopbdpnnhicaa.fnExactFreeDistance
open Go.RowKit
set_option linter.unusedVariables false

theorem walk (w : World) : Calls Try.prog 3 #[] w fun e w' => e = .returned (.bool true) ∧ Below w.heap.size w w' := by
  go_enter Try.func3, Try.ntmps3
  go_wp2
  go_ret
  exact ⟨rfl, Below.refl _ _⟩

end Go.Proofs.Ytnfopbdpnnhicaa.fnExactFreeDistance
