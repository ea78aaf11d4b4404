/- The walk of FnExactAreSpans: it returns true and writes nothing that was there. -/
import Derived.Test.YtnfopbdpnnhicaaRows
import Derived.Test.YtnfopbdpnnhicaaSpans
import Derived.WalkKit
import Derived.Handy
namespace Go.Proofs.Ytnfopbdpnnhicaa.fnExactAreSpans
open Go.RowKit
set_option maxRecDepth 100000
set_option linter.unusedVariables false

set_option maxRecDepth 100000 in
set_option maxHeartbeats 1600000 in
theorem walk (a0 : Option Addr) (n0 c0 : Nat) (xs0 : List (Int × Int)) (w : World) (f0 : Arr2 w a0 n0 xs0) :
    Calls Try.prog 10 #[.slice a0 n0 c0] w fun e w' => e = .returned (.bool true) ∧ Below w.heap.size w w' := by
  obtain ⟨f0, g0, -⟩ := f0
  have B : Below w.heap.size w w := Below.refl _ _
  have G0 : (n0 : Int) ≤ 9223372036854775807 := by unfold maxLen at g0; omega
  by_cases L0 : 1048576 < n0
  · have Z0 := szOf_neg (l := 1048576) (n := n0) (by omega)
    go_enter Try.func10, Try.ntmps10
    go_wp2_with (first | (go_at_call 34; go_call szSpanS_any as e w' ⟨rfl, rfl⟩))
    go_ret
    exact ⟨rfl, Below.refl _ _⟩
  have Z0 := szOf_pos (l := 1048576) (n := n0) (by omega)
  go_enter Try.func10, Try.ntmps10
  go_wp2_with fail
  go_at_call 34
  go_call szSpanS_any as e ww ⟨rfl, rfl⟩
  go_wp2_with fail
  go_at_call 36
  go_call toSpanS_any as e w1 ⟨a_t1, c_t1, rfl, o_t1, b⟩
  replace B := B.trans (b.mono (by have := B.size; omega))
  have r0 := f0.below2 B (Nat.le_refl _)
  have r_t1 := o_t1.row
  have s1 := b.size
  clear b
  go_wp2_with fail
  go_at_call 35
  go_call areSpans_spec as e w2 ⟨rfl, b⟩
  replace B := B.trans (b.mono (by have := B.size; omega))
  replace r0 := f0.below2 B (Nat.le_refl _)
  replace o_t1 := o_t1.below b (.inr (Nat.le_refl _))
  replace r_t1 := o_t1.row
  have s2 := b.size
  clear b
  go_wp2_with fail
  go_at_call 36
  go_call toSpanS_any as e w3 ⟨a_t2, c_t2, rfl, o_t2, b⟩
  replace B := B.trans (b.mono (by have := B.size; omega))
  replace r0 := f0.below2 B (Nat.le_refl _)
  replace o_t1 := o_t1.below b (.inr (Nat.le_refl _))
  replace r_t1 := o_t1.row
  have r_t2 := o_t2.row
  have s3 := b.size
  clear b
  go_wp2_with fail
  go_at_call 37
  go_call areSpans_impl as e w4 ⟨rfl, b⟩
  replace B := B.trans (b.mono (by have := B.size; omega))
  replace r0 := f0.below2 B (Nat.le_refl _)
  replace o_t1 := o_t1.below b (.inr (Nat.le_refl _))
  replace r_t1 := o_t1.row
  replace o_t2 := o_t2.below b (.inr (Nat.le_refl _))
  replace r_t2 := o_t2.row
  have s4 := b.size
  clear b
  go_wp2_with fail
  go_at_call 36
  go_call toSpanS_any as e w5 ⟨a_t3, c_t3, rfl, o_t3, b⟩
  replace B := B.trans (b.mono (by have := B.size; omega))
  replace r0 := f0.below2 B (Nat.le_refl _)
  replace o_t1 := o_t1.below b (.inr (Nat.le_refl _))
  replace r_t1 := o_t1.row
  replace o_t2 := o_t2.below b (.inr (Nat.le_refl _))
  replace r_t2 := o_t2.row
  have r_t3 := o_t3.row
  have s5 := b.size
  clear b
  go_wp2_with fail
  go_at_call 38
  go_call eqSpanS_any as e w6 ⟨rfl, b⟩
  replace B := B.trans (b.mono (by have := B.size; omega))
  replace r0 := f0.below2 B (Nat.le_refl _)
  replace o_t1 := o_t1.below b (.inr (Nat.le_refl _))
  replace r_t1 := o_t1.row
  replace o_t2 := o_t2.below b (.inr (Nat.le_refl _))
  replace r_t2 := o_t2.row
  replace o_t3 := o_t3.below b (.inr (Nat.le_refl _))
  replace r_t3 := o_t3.row
  have s6 := b.size
  clear b
  go_wp2
  go_ret
  exact ⟨rfl, B⟩

end Go.Proofs.Ytnfopbdpnnhicaa.fnExactAreSpans
