/- The walk of FnExactIsSpikeRule: it returns true and writes nothing that was there. -/
import Derived.Test.YtnfopbdpnnhicaaRows
import Derived.Test.YtnfopbdpnnhicaaSpikeRule
import Derived.WalkKit
import Derived.Handy
namespace Go.Proofs.Ytnfopbdpnnhicaa.fnExactIsSpikeRule
open Go.RowKit
set_option linter.unusedVariables false

theorem walk (r l m : Int) (w : World) (_ : I64 r) (_ : I64 l) (_ : I64 m) :
    Calls Try.prog 5 #[.agg #[.int .i64 r, .int .i64 l, .int .i64 m]] w fun e w' => e = .returned (.bool true) ∧ Below w.heap.size w w' := by
  have K := Blk.new w 28 #[.int .i64 r, .int .i64 l, .int .i64 m]
  have B : Below w.heap.size w (w.alloc (.cells #[.int .i64 r, .int .i64 l, .int .i64 m] 28)) := (Below.refl _ _).alloc (Nat.le_refl _) _
  have HK := Lib.hid K; clear K
  go_enter Try.func5, Try.ntmps5
  go_wp2_with fail
  go_at_call 20
  go_call toSpikeRule_any as e w1 ⟨rfl, b⟩
  replace B := B.trans (b.mono B.size)
  replace HK := Lib.hid (HK.out.belowSelf b)
  clear b
  go_wp2_with fail
  go_at_call 19
  go_call isSpikeRule_spec as e w2 ⟨rfl, b⟩
  replace B := B.trans (b.mono B.size)
  replace HK := Lib.hid (HK.out.belowSelf b)
  clear b
  have k0 : w2.cell? ⟨w.heap.size, 0, none⟩ = some (.int .i64 r) := HK.out.cell 0
  have k1 : w2.cell? ⟨w.heap.size, 1, none⟩ = some (.int .i64 l) := HK.out.cell 1
  have k2 : w2.cell? ⟨w.heap.size, 2, none⟩ = some (.int .i64 m) := HK.out.cell 2
  go_wp2_with fail
  go_at_call 20
  go_call toSpikeRule_any as e w3 ⟨rfl, b⟩
  replace B := B.trans (b.mono B.size)
  clear b k0 k1 k2 HK
  go_wp2_with fail
  go_at_call 21
  go_call isSpikeRule_impl as e w4 ⟨rfl, b⟩
  replace B := B.trans (b.mono B.size)
  clear b
  go_wp2
  go_ret
  exact ⟨rfl, B⟩

end Go.Proofs.Ytnfopbdpnnhicaa.fnExactIsSpikeRule
