/- The walk of FnExactErrorsOf: it returns true and writes nothing that was there. -/
import Derived.Test.YthnifaadbppkfaaRows
import Derived.Test.YthnifaadbppkfaaErrors
import Derived.WalkKit
import Derived.Handy
namespace Go.Proofs.Ythnifaadbppkfaa.fnExactErrorsOf
open Go.RowKit
set_option maxRecDepth 100000
set_option linter.unusedVariables false
set_option linter.unusedVariables false

set_option maxRecDepth 100000 in
set_option maxHeartbeats 1600000 in
theorem walk (a0 : Option Addr) (n0 c0 : Nat) (xs0 : List Int) (a1 : Option Addr) (n1 c1 : Nat) (xs1 : List Int) (w : World) (f0 : Arr w a0 n0 xs0) (f1 : Arr w a1 n1 xs1) :
    Calls Try.prog 6 #[.slice a0 n0 c0, .slice a1 n1 c1] w fun e w' => e = .returned (.bool true) ∧ Below w.heap.size w w' := by
  obtain ⟨f0, g0, -⟩ := f0
  obtain ⟨f1, g1, -⟩ := f1
  have B : Below w.heap.size w w := Below.refl _ _
  have G0 : (n0 : Int) ≤ 9223372036854775807 := by unfold maxLen at g0; omega
  have G1 : (n1 : Int) ≤ 9223372036854775807 := by unfold maxLen at g1; omega
  by_cases L0 : 1048576 < n0
  · have Z : True := trivial
    go_enter Try.func6, Try.ntmps6
    go_wp2
    go_ret
    exact ⟨rfl, Below.refl _ _⟩
  by_cases L1 : 1048576 < n1
  · have Z : True := trivial
    go_enter Try.func6, Try.ntmps6
    go_wp2
    go_ret
    exact ⟨rfl, Below.refl _ _⟩
  go_enter Try.func6, Try.ntmps6
  go_wp2_with fail
  go_at_call 11
  go_call toInt64S_any as e w1 ⟨a_t1, c_t1, rfl, o_t1, b⟩
  replace B := B.trans (b.mono (by have := B.size; omega))
  have r0 := f0.below B (Nat.le_refl _)
  have r1 := f1.below B (Nat.le_refl _)
  have r_t1 := o_t1.row
  have s1 := b.size
  clear b
  go_wp2_with fail
  go_at_call 11
  go_call toInt64S_any as e w2 ⟨a_t2, c_t2, rfl, o_t2, b⟩
  replace B := B.trans (b.mono (by have := B.size; omega))
  replace r0 := f0.below B (Nat.le_refl _)
  replace r1 := f1.below B (Nat.le_refl _)
  replace o_t1 := o_t1.below b (.inr (Nat.le_refl _))
  replace r_t1 := o_t1.row
  have r_t2 := o_t2.row
  have s2 := b.size
  clear b
  go_wp2_with fail
  go_at_call 20
  go_call errorsOf_spec as e w3 ⟨rfl, b⟩
  replace B := B.trans (b.mono (by have := B.size; omega))
  replace r0 := f0.below B (Nat.le_refl _)
  replace r1 := f1.below B (Nat.le_refl _)
  replace o_t1 := o_t1.below b (.inr (Nat.le_refl _))
  replace r_t1 := o_t1.row
  replace o_t2 := o_t2.below b (.inr (Nat.le_refl _))
  replace r_t2 := o_t2.row
  have s3 := b.size
  clear b
  go_wp2_with fail
  go_at_call 11
  go_call toInt64S_any as e w4 ⟨a_t3, c_t3, rfl, o_t3, b⟩
  replace B := B.trans (b.mono (by have := B.size; omega))
  replace r0 := f0.below B (Nat.le_refl _)
  replace r1 := f1.below B (Nat.le_refl _)
  replace o_t1 := o_t1.below b (.inr (Nat.le_refl _))
  replace r_t1 := o_t1.row
  replace o_t2 := o_t2.below b (.inr (Nat.le_refl _))
  replace r_t2 := o_t2.row
  have r_t3 := o_t3.row
  have s4 := b.size
  clear b
  go_wp2_with fail
  go_at_call 11
  go_call toInt64S_any as e w5 ⟨a_t4, c_t4, rfl, o_t4, b⟩
  replace B := B.trans (b.mono (by have := B.size; omega))
  replace r0 := f0.below B (Nat.le_refl _)
  replace r1 := f1.below B (Nat.le_refl _)
  replace o_t1 := o_t1.below b (.inr (Nat.le_refl _))
  replace r_t1 := o_t1.row
  replace o_t2 := o_t2.below b (.inr (Nat.le_refl _))
  replace r_t2 := o_t2.row
  replace o_t3 := o_t3.below b (.inr (Nat.le_refl _))
  replace r_t3 := o_t3.row
  have r_t4 := o_t4.row
  have s5 := b.size
  clear b
  go_wp2_with fail
  go_at_call 21
  go_call errorsOf_impl as e w6 ⟨rfl, b⟩
  replace B := B.trans (b.mono (by have := B.size; omega))
  replace r0 := f0.below B (Nat.le_refl _)
  replace r1 := f1.below B (Nat.le_refl _)
  replace o_t1 := o_t1.below b (.inr (Nat.le_refl _))
  replace r_t1 := o_t1.row
  replace o_t2 := o_t2.below b (.inr (Nat.le_refl _))
  replace r_t2 := o_t2.row
  replace o_t3 := o_t3.below b (.inr (Nat.le_refl _))
  replace r_t3 := o_t3.row
  replace o_t4 := o_t4.below b (.inr (Nat.le_refl _))
  replace r_t4 := o_t4.row
  have s6 := b.size
  clear b
  go_wp2_with fail
  go_at_call 11
  go_call toInt64S_any as e w7 ⟨a_t5, c_t5, rfl, o_t5, b⟩
  replace B := B.trans (b.mono (by have := B.size; omega))
  replace r0 := f0.below B (Nat.le_refl _)
  replace r1 := f1.below B (Nat.le_refl _)
  replace o_t1 := o_t1.below b (.inr (Nat.le_refl _))
  replace r_t1 := o_t1.row
  replace o_t2 := o_t2.below b (.inr (Nat.le_refl _))
  replace r_t2 := o_t2.row
  replace o_t3 := o_t3.below b (.inr (Nat.le_refl _))
  replace r_t3 := o_t3.row
  replace o_t4 := o_t4.below b (.inr (Nat.le_refl _))
  replace r_t4 := o_t4.row
  have r_t5 := o_t5.row
  have s7 := b.size
  clear b
  go_wp2_with fail
  go_at_call 13
  go_call eqInt64S_any as e w8 ⟨rfl, b⟩
  replace B := B.trans (b.mono (by have := B.size; omega))
  replace r0 := f0.below B (Nat.le_refl _)
  replace r1 := f1.below B (Nat.le_refl _)
  replace o_t1 := o_t1.below b (.inr (Nat.le_refl _))
  replace r_t1 := o_t1.row
  replace o_t2 := o_t2.below b (.inr (Nat.le_refl _))
  replace r_t2 := o_t2.row
  replace o_t3 := o_t3.below b (.inr (Nat.le_refl _))
  replace r_t3 := o_t3.row
  replace o_t4 := o_t4.below b (.inr (Nat.le_refl _))
  replace r_t4 := o_t4.row
  replace o_t5 := o_t5.below b (.inr (Nat.le_refl _))
  replace r_t5 := o_t5.row
  have s8 := b.size
  clear b
  go_wp2_with fail
  go_at_call 11
  go_call toInt64S_any as e w9 ⟨a_t6, c_t6, rfl, o_t6, b⟩
  replace B := B.trans (b.mono (by have := B.size; omega))
  replace r0 := f0.below B (Nat.le_refl _)
  replace r1 := f1.below B (Nat.le_refl _)
  replace o_t1 := o_t1.below b (.inr (Nat.le_refl _))
  replace r_t1 := o_t1.row
  replace o_t2 := o_t2.below b (.inr (Nat.le_refl _))
  replace r_t2 := o_t2.row
  replace o_t3 := o_t3.below b (.inr (Nat.le_refl _))
  replace r_t3 := o_t3.row
  replace o_t4 := o_t4.below b (.inr (Nat.le_refl _))
  replace r_t4 := o_t4.row
  replace o_t5 := o_t5.below b (.inr (Nat.le_refl _))
  replace r_t5 := o_t5.row
  have r_t6 := o_t6.row
  have s9 := b.size
  clear b
  go_wp2_with fail
  go_at_call 13
  go_call eqInt64S_any as e w10 ⟨rfl, b⟩
  replace B := B.trans (b.mono (by have := B.size; omega))
  replace r0 := f0.below B (Nat.le_refl _)
  replace r1 := f1.below B (Nat.le_refl _)
  replace o_t1 := o_t1.below b (.inr (Nat.le_refl _))
  replace r_t1 := o_t1.row
  replace o_t2 := o_t2.below b (.inr (Nat.le_refl _))
  replace r_t2 := o_t2.row
  replace o_t3 := o_t3.below b (.inr (Nat.le_refl _))
  replace r_t3 := o_t3.row
  replace o_t4 := o_t4.below b (.inr (Nat.le_refl _))
  replace r_t4 := o_t4.row
  replace o_t5 := o_t5.below b (.inr (Nat.le_refl _))
  replace r_t5 := o_t5.row
  replace o_t6 := o_t6.below b (.inr (Nat.le_refl _))
  replace r_t6 := o_t6.row
  have s10 := b.size
  clear b
  go_wp2
  go_ret
  exact ⟨rfl, B⟩

end Go.Proofs.Ythnifaadbppkfaa.fnExactErrorsOf
