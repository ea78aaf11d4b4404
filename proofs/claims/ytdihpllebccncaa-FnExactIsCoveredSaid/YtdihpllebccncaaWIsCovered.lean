/- The walk of FnExactIsCovered: it returns true and writes nothing that was there. -/
import Derived.Test.YtdihpllebccncaaRows
import Derived.Test.YtdihpllebccncaaGapsOf0
import Derived.WalkKit
import Derived.Handy
namespace Go.Proofs.Ytdihpllebccncaa.fnExactIsCovered
open Go.RowKit
set_option maxRecDepth 100000
set_option linter.unusedVariables false
set_option linter.unusedVariables false

set_option maxRecDepth 100000 in
set_option maxHeartbeats 1600000 in
theorem walk (x0 : Int) (a1 : Option Addr) (n1 c1 : Nat) (xs1 : List (Int × Int)) (w : World) (f0 : I64 x0) (f1 : Arr2 w a1 n1 xs1) :
    Calls Try.prog 3 #[.int .i64 x0, .slice a1 n1 c1] w fun e w' => e = .returned (.bool true) ∧ Below w.heap.size w w' := by
  obtain ⟨f1, g1, -⟩ := f1
  have B : Below w.heap.size w w := Below.refl _ _
  have G1 : (n1 : Int) ≤ 9223372036854775807 := by unfold maxLen at g1; omega
  by_cases L1 : 1048576 < n1
  · have Z1 := szOf_neg (l := 1048576) (n := n1) (by omega)
    go_enter Try.func3, Try.ntmps3
    go_wp2_with (first | (go_at_call 7; go_call szSpanS_any as e w' ⟨rfl, rfl⟩))
    go_ret
    exact ⟨rfl, Below.refl _ _⟩
  have Z1 := szOf_pos (l := 1048576) (n := n1) (by omega)
  go_enter Try.func3, Try.ntmps3
  go_wp2_with fail
  go_at_call 7
  go_call szSpanS_any as e ww ⟨rfl, rfl⟩
  go_wp2_with fail
  go_at_call 9
  go_call toSpanS_any as e w1 ⟨a_t1, c_t1, rfl, o_t1, b⟩
  replace B := B.trans (b.mono (by have := B.size; omega))
  have r1 := f1.below2 B (Nat.le_refl _)
  have r_t1 := o_t1.row
  have s1 := b.size
  clear b
  go_wp2_with fail
  go_at_call 8
  go_call isCovered_spec as e w2 ⟨rfl, b⟩
  replace B := B.trans (b.mono (by have := B.size; omega))
  replace r1 := f1.below2 B (Nat.le_refl _)
  replace o_t1 := o_t1.below b (.inr (Nat.le_refl _))
  replace r_t1 := o_t1.row
  have s2 := b.size
  clear b
  go_wp2_with fail
  go_at_call 9
  go_call toSpanS_any as e w3 ⟨a_t2, c_t2, rfl, o_t2, b⟩
  replace B := B.trans (b.mono (by have := B.size; omega))
  replace r1 := f1.below2 B (Nat.le_refl _)
  replace o_t1 := o_t1.below b (.inr (Nat.le_refl _))
  replace r_t1 := o_t1.row
  have r_t2 := o_t2.row
  have s3 := b.size
  clear b
  go_wp2_with fail
  go_at_call 10
  go_call isCovered_impl as e w4 ⟨rfl, b⟩
  replace B := B.trans (b.mono (by have := B.size; omega))
  replace r1 := f1.below2 B (Nat.le_refl _)
  replace o_t1 := o_t1.below b (.inr (Nat.le_refl _))
  replace r_t1 := o_t1.row
  replace o_t2 := o_t2.below b (.inr (Nat.le_refl _))
  replace r_t2 := o_t2.row
  have s4 := b.size
  clear b
  go_wp2_with fail
  go_at_call 9
  go_call toSpanS_any as e w5 ⟨a_t3, c_t3, rfl, o_t3, b⟩
  replace B := B.trans (b.mono (by have := B.size; omega))
  replace r1 := f1.below2 B (Nat.le_refl _)
  replace o_t1 := o_t1.below b (.inr (Nat.le_refl _))
  replace r_t1 := o_t1.row
  replace o_t2 := o_t2.below b (.inr (Nat.le_refl _))
  replace r_t2 := o_t2.row
  have r_t3 := o_t3.row
  have s5 := b.size
  clear b
  go_wp2_with fail
  go_at_call 11
  go_call eqSpanS_any as e w6 ⟨rfl, b⟩
  replace B := B.trans (b.mono (by have := B.size; omega))
  replace r1 := f1.below2 B (Nat.le_refl _)
  replace o_t1 := o_t1.below b (.inr (Nat.le_refl _))
  replace r_t1 := o_t1.row
  replace o_t2 := o_t2.below b (.inr (Nat.le_refl _))
  replace r_t2 := o_t2.row
  replace o_t3 := o_t3.below b (.inr (Nat.le_refl _))
  replace r_t3 := o_t3.row
  have s6 := b.size
  clear b
  go_wp2
  go_ret
  exact ⟨rfl, B⟩

end Go.Proofs.Ytdihpllebccncaa.fnExactIsCovered
