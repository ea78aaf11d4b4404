/- The walk of FnExactRouteLength: it returns true and writes nothing that was there. -/
import Derived.Test.YtbomaebbhaafoaaRows
import Derived.Test.YtbomaebbhaafoaaRouteLen
import Derived.WalkKit
import Derived.Handy
namespace Go.Proofs.Ytbomaebbhaafoaa.fnExactRouteLength
open Go.RowKit
set_option maxRecDepth 100000
set_option linter.unusedVariables false

set_option maxRecDepth 100000 in
set_option maxHeartbeats 1600000 in
theorem walk (a0 : Option Addr) (n0 c0 : Nat) (xs0 : List Int) (x1 : Int) (w : World) (f0 : Arr w a0 n0 xs0) (f1 : I64 x1) :
    Calls Try.prog 4 #[.slice a0 n0 c0, .int .i64 x1] w fun e w' => e = .returned (.bool true) ∧ Below w.heap.size w w' := by
  obtain ⟨f0, g0, -⟩ := f0
  have B : Below w.heap.size w w := Below.refl _ _
  have G0 : (n0 : Int) ≤ 9223372036854775807 := by unfold maxLen at g0; omega
  by_cases L0 : 1048576 < n0
  · have Z : True := trivial
    go_enter Try.func4, Try.ntmps4
    go_wp2
    go_ret
    exact ⟨rfl, Below.refl _ _⟩
  go_enter Try.func4, Try.ntmps4
  go_wp2_with fail
  go_at_call 24
  go_call toInt64S_any as e w1 ⟨a_t1, c_t1, rfl, o_t1, b⟩
  replace B := B.trans (b.mono (by have := B.size; omega))
  have r0 := f0.below B (Nat.le_refl _)
  have r_t1 := o_t1.row
  have s1 := b.size
  clear b
  go_wp2_with fail
  go_at_call 23
  go_call routeLength_spec as e w2 ⟨rfl, b⟩
  replace B := B.trans (b.mono (by have := B.size; omega))
  replace r0 := f0.below B (Nat.le_refl _)
  replace o_t1 := o_t1.below b (.inr (Nat.le_refl _))
  replace r_t1 := o_t1.row
  have s2 := b.size
  clear b
  go_wp2_with fail
  go_at_call 24
  go_call toInt64S_any as e w3 ⟨a_t2, c_t2, rfl, o_t2, b⟩
  replace B := B.trans (b.mono (by have := B.size; omega))
  replace r0 := f0.below B (Nat.le_refl _)
  replace o_t1 := o_t1.below b (.inr (Nat.le_refl _))
  replace r_t1 := o_t1.row
  have r_t2 := o_t2.row
  have s3 := b.size
  clear b
  go_wp2_with fail
  go_at_call 25
  go_call routeLength_impl as e w4 ⟨rfl, b⟩
  replace B := B.trans (b.mono (by have := B.size; omega))
  replace r0 := f0.below B (Nat.le_refl _)
  replace o_t1 := o_t1.below b (.inr (Nat.le_refl _))
  replace r_t1 := o_t1.row
  replace o_t2 := o_t2.below b (.inr (Nat.le_refl _))
  replace r_t2 := o_t2.row
  have s4 := b.size
  clear b
  go_wp2_with fail
  go_at_call 24
  go_call toInt64S_any as e w5 ⟨a_t3, c_t3, rfl, o_t3, b⟩
  replace B := B.trans (b.mono (by have := B.size; omega))
  replace r0 := f0.below B (Nat.le_refl _)
  replace o_t1 := o_t1.below b (.inr (Nat.le_refl _))
  replace r_t1 := o_t1.row
  replace o_t2 := o_t2.below b (.inr (Nat.le_refl _))
  replace r_t2 := o_t2.row
  have r_t3 := o_t3.row
  have s5 := b.size
  clear b
  go_wp2_with fail
  go_at_call 26
  go_call eqInt64S_any as e w6 ⟨rfl, b⟩
  replace B := B.trans (b.mono (by have := B.size; omega))
  replace r0 := f0.below B (Nat.le_refl _)
  replace o_t1 := o_t1.below b (.inr (Nat.le_refl _))
  replace r_t1 := o_t1.row
  replace o_t2 := o_t2.below b (.inr (Nat.le_refl _))
  replace r_t2 := o_t2.row
  replace o_t3 := o_t3.below b (.inr (Nat.le_refl _))
  replace r_t3 := o_t3.row
  have s6 := b.size
  clear b
  go_wp2
  go_ret
  exact ⟨rfl, B⟩

end Go.Proofs.Ytbomaebbhaafoaa.fnExactRouteLength
