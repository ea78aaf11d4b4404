/- The walk of FnExactGapsOf: it returns true and writes nothing that was there. -/
import Derived.Test.YtdihpllebccncaaRows
import Derived.Test.YtdihpllebccncaaGapsOf0
import Derived.Test.YtdihpllebccncaaInterval
import Derived.WalkKit
import Derived.Handy
namespace Go.Proofs.Ytdihpllebccncaa.fnExactGapsOf
open Go.RowKit
set_option maxRecDepth 100000
set_option linter.unusedVariables false
set_option linter.unusedVariables false

set_option maxRecDepth 100000 in
set_option maxHeartbeats 1600000 in
theorem walk (x0 : Int) (a1 : Option Addr) (n1 c1 : Nat) (xs1 : List (Int × Int)) (w : World) (f0 : I64 x0) (f1 : Arr2 w a1 n1 xs1) :
    Calls Try.prog 4 #[.int .i64 x0, .slice a1 n1 c1] w fun e w' => e = .returned (.bool true) ∧ Below w.heap.size w w' := by
  obtain ⟨f1, g1, -⟩ := f1
  have B : Below w.heap.size w w := Below.refl _ _
  have G1 : (n1 : Int) ≤ 9223372036854775807 := by unfold maxLen at g1; omega
  by_cases L1 : 1048576 < n1
  · have Z1 := szOf_neg (l := 1048576) (n := n1) (by omega)
    go_enter Try.func4, Try.ntmps4
    go_wp2_with (first | (go_at_call 7; go_call szSpanS_any as e w' ⟨rfl, rfl⟩))
    go_ret
    exact ⟨rfl, Below.refl _ _⟩
  have Z1 := szOf_pos (l := 1048576) (n := n1) (by omega)
  go_enter Try.func4, Try.ntmps4
  go_wp2_with fail
  go_at_call 7
  go_call szSpanS_any as e ww ⟨rfl, rfl⟩
  go_wp2_with fail
  go_at_call 9
  go_call toSpanS_any as e w1 ⟨a_t1, c_t1, rfl, o_t1, b⟩
  replace B := B.trans (b.mono (by have := B.size; omega))
  have r1 := f1.below2 B (Nat.le_refl _)
  have r_t1 := o_t1.row
  have s1 := b.size
  clear b
  go_wp2_with fail
  go_at_call 12
  go_call gapsOf_spec as e w2 ⟨a_W, n_W, c_W, rfl, o_W, b⟩
  replace B := B.trans (b.mono (by have := B.size; omega))
  replace r1 := f1.below2 B (Nat.le_refl _)
  replace o_t1 := o_t1.below b (.inr (Nat.le_refl _))
  replace r_t1 := o_t1.row
  have r_W := o_W.row
  have l_W : n_W ≤ 1048576 := by have := r_W.len2; have := gapsOf_len x0 xs1; omega
  have s2 := b.size
  clear b
  go_wp2_with fail
  go_at_call 9
  go_call toSpanS_any as e w3 ⟨a_t2, c_t2, rfl, o_t2, b⟩
  replace B := B.trans (b.mono (by have := B.size; omega))
  replace r1 := f1.below2 B (Nat.le_refl _)
  replace o_t1 := o_t1.below b (.inr (Nat.le_refl _))
  replace r_t1 := o_t1.row
  replace o_W := o_W.below b (.inr (Nat.le_refl _))
  replace r_W := o_W.row
  have r_t2 := o_t2.row
  have s3 := b.size
  clear b
  go_wp2_with fail
  go_at_call 13
  go_call gapsOf_impl as e w4 ⟨a_G, n_G, c_G, rfl, o_G, b⟩
  replace B := B.trans (b.mono (by have := B.size; omega))
  replace r1 := f1.below2 B (Nat.le_refl _)
  replace o_t1 := o_t1.below b (.inr (Nat.le_refl _))
  replace r_t1 := o_t1.row
  replace o_W := o_W.below b (.inr (Nat.le_refl _))
  replace r_W := o_W.row
  replace o_t2 := o_t2.below b (.inr (Nat.le_refl _))
  replace r_t2 := o_t2.row
  have r_G := o_G.row
  have l_G : n_G ≤ 1048576 := by have := r_G.len2; have := gapsOf_len x0 xs1; omega
  have s4 := b.size
  clear b
  go_wp2_with fail
  go_at_call 14
  go_call eqIntervalS_any as e w5 ⟨rfl, b⟩
  replace B := B.trans (b.mono (by have := B.size; omega))
  replace r1 := f1.below2 B (Nat.le_refl _)
  replace o_t1 := o_t1.below b (.inr (Nat.le_refl _))
  replace r_t1 := o_t1.row
  replace o_W := o_W.below b (.inr (Nat.le_refl _))
  replace r_W := o_W.row
  replace o_t2 := o_t2.below b (.inr (Nat.le_refl _))
  replace r_t2 := o_t2.row
  replace o_G := o_G.below b (.inr (Nat.le_refl _))
  replace r_G := o_G.row
  have s5 := b.size
  clear b
  go_wp2_with fail
  go_at_call 9
  go_call toSpanS_any as e w6 ⟨a_t3, c_t3, rfl, o_t3, b⟩
  replace B := B.trans (b.mono (by have := B.size; omega))
  replace r1 := f1.below2 B (Nat.le_refl _)
  replace o_t1 := o_t1.below b (.inr (Nat.le_refl _))
  replace r_t1 := o_t1.row
  replace o_W := o_W.below b (.inr (Nat.le_refl _))
  replace r_W := o_W.row
  replace o_t2 := o_t2.below b (.inr (Nat.le_refl _))
  replace r_t2 := o_t2.row
  replace o_G := o_G.below b (.inr (Nat.le_refl _))
  replace r_G := o_G.row
  have r_t3 := o_t3.row
  have s6 := b.size
  clear b
  go_wp2_with fail
  go_at_call 11
  go_call eqSpanS_any as e w7 ⟨rfl, b⟩
  replace B := B.trans (b.mono (by have := B.size; omega))
  replace r1 := f1.below2 B (Nat.le_refl _)
  replace o_t1 := o_t1.below b (.inr (Nat.le_refl _))
  replace r_t1 := o_t1.row
  replace o_W := o_W.below b (.inr (Nat.le_refl _))
  replace r_W := o_W.row
  replace o_t2 := o_t2.below b (.inr (Nat.le_refl _))
  replace r_t2 := o_t2.row
  replace o_G := o_G.below b (.inr (Nat.le_refl _))
  replace r_G := o_G.row
  replace o_t3 := o_t3.below b (.inr (Nat.le_refl _))
  replace r_t3 := o_t3.row
  have s7 := b.size
  clear b
  go_wp2_with fail
  go_at_call 15
  go_call markSpanS_any as e w8 ⟨rfl, q, hg⟩
  replace B := B.grown hg (by have := B.size; omega) (fun g hg1 => by have := o_t2.lt g hg1; omega)
  replace r1 := f1.below2 B (Nat.le_refl _)
  replace o_t1 := o_t1.apart hg (fun g hg1 => by have := o_t2.lt g hg1; omega)
  replace r_t1 := o_t1.row
  replace o_W := o_W.apart hg (fun g hg1 => by have := o_t2.lt g hg1; omega)
  replace r_W := o_W.row
  replace o_G := o_G.apart hg (fun g hg1 => by have := o_t2.lt g hg1; omega)
  replace r_G := o_G.row
  replace o_t3 := o_t3.apart hg (fun g hg1 => by have := o_t2.lt g hg1; omega)
  replace r_t3 := o_t3.row
  replace o_t2 := q
  replace r_t2 := o_t2.row
  have s8 := hg.size
  clear hg q
  go_wp2_with fail
  go_at_call 14
  go_call eqIntervalS_any as e w9 ⟨rfl, b⟩
  replace B := B.trans (b.mono (by have := B.size; omega))
  replace r1 := f1.below2 B (Nat.le_refl _)
  replace o_t1 := o_t1.below b (.inr (Nat.le_refl _))
  replace r_t1 := o_t1.row
  replace o_W := o_W.below b (.inr (Nat.le_refl _))
  replace r_W := o_W.row
  replace o_t2 := o_t2.below b (.inr (Nat.le_refl _))
  replace r_t2 := o_t2.row
  replace o_G := o_G.below b (.inr (Nat.le_refl _))
  replace r_G := o_G.row
  replace o_t3 := o_t3.below b (.inr (Nat.le_refl _))
  replace r_t3 := o_t3.row
  have s9 := b.size
  clear b
  go_wp2_with fail
  go_at_call 16
  go_call markIntervalS_any as e w10 ⟨rfl, q, hg⟩
  replace B := B.grown hg (by have := B.size; omega) (fun g hg1 => by have := o_G.lt g hg1; omega)
  replace r1 := f1.below2 B (Nat.le_refl _)
  replace o_t1 := o_t1.apart hg (fun g hg1 => by have := o_G.lt g hg1; omega)
  replace r_t1 := o_t1.row
  replace o_W := o_W.apart hg (fun g hg1 => by have := o_G.lt g hg1; omega)
  replace r_W := o_W.row
  replace o_t2 := o_t2.apart hg (fun g hg1 => by have := o_G.lt g hg1; omega)
  replace r_t2 := o_t2.row
  replace o_t3 := o_t3.apart hg (fun g hg1 => by have := o_G.lt g hg1; omega)
  replace r_t3 := o_t3.row
  replace o_G := q
  replace r_G := o_G.row
  have s10 := hg.size
  clear hg q
  go_wp2_with fail
  go_at_call 17
  go_call heldIntervalS_any as e w11 ⟨rfl, b⟩
  replace B := B.trans (b.mono (by have := B.size; omega))
  replace r1 := f1.below2 B (Nat.le_refl _)
  replace o_t1 := o_t1.below b (.inr (Nat.le_refl _))
  replace r_t1 := o_t1.row
  replace o_W := o_W.below b (.inr (Nat.le_refl _))
  replace r_W := o_W.row
  replace o_t2 := o_t2.below b (.inr (Nat.le_refl _))
  replace r_t2 := o_t2.row
  replace o_G := o_G.below b (.inr (Nat.le_refl _))
  replace r_G := o_G.row
  replace o_t3 := o_t3.below b (.inr (Nat.le_refl _))
  replace r_t3 := o_t3.row
  have s11 := b.size
  clear b
  go_wp2_with fail
  go_at_call 9
  go_call toSpanS_any as e w12 ⟨a_t4, c_t4, rfl, o_t4, b⟩
  replace B := B.trans (b.mono (by have := B.size; omega))
  replace r1 := f1.below2 B (Nat.le_refl _)
  replace o_t1 := o_t1.below b (.inr (Nat.le_refl _))
  replace r_t1 := o_t1.row
  replace o_W := o_W.below b (.inr (Nat.le_refl _))
  replace r_W := o_W.row
  replace o_t2 := o_t2.below b (.inr (Nat.le_refl _))
  replace r_t2 := o_t2.row
  replace o_G := o_G.below b (.inr (Nat.le_refl _))
  replace r_G := o_G.row
  replace o_t3 := o_t3.below b (.inr (Nat.le_refl _))
  replace r_t3 := o_t3.row
  have r_t4 := o_t4.row
  have s12 := b.size
  clear b
  go_wp2_with fail
  go_at_call 13
  go_call gapsOf_impl as e w13 ⟨a_Z, n_Z, c_Z, rfl, o_Z, b⟩
  replace B := B.trans (b.mono (by have := B.size; omega))
  replace r1 := f1.below2 B (Nat.le_refl _)
  replace o_t1 := o_t1.below b (.inr (Nat.le_refl _))
  replace r_t1 := o_t1.row
  replace o_W := o_W.below b (.inr (Nat.le_refl _))
  replace r_W := o_W.row
  replace o_t2 := o_t2.below b (.inr (Nat.le_refl _))
  replace r_t2 := o_t2.row
  replace o_G := o_G.below b (.inr (Nat.le_refl _))
  replace r_G := o_G.row
  replace o_t3 := o_t3.below b (.inr (Nat.le_refl _))
  replace r_t3 := o_t3.row
  replace o_t4 := o_t4.below b (.inr (Nat.le_refl _))
  replace r_t4 := o_t4.row
  have r_Z := o_Z.row
  have l_Z : n_Z ≤ 1048576 := by have := r_Z.len2; have := gapsOf_len x0 xs1; omega
  have s13 := b.size
  clear b
  go_wp2_with fail
  go_at_call 14
  go_call eqIntervalS_any as e w14 ⟨rfl, b⟩
  replace B := B.trans (b.mono (by have := B.size; omega))
  replace r1 := f1.below2 B (Nat.le_refl _)
  replace o_t1 := o_t1.below b (.inr (Nat.le_refl _))
  replace r_t1 := o_t1.row
  replace o_W := o_W.below b (.inr (Nat.le_refl _))
  replace r_W := o_W.row
  replace o_t2 := o_t2.below b (.inr (Nat.le_refl _))
  replace r_t2 := o_t2.row
  replace o_G := o_G.below b (.inr (Nat.le_refl _))
  replace r_G := o_G.row
  replace o_t3 := o_t3.below b (.inr (Nat.le_refl _))
  replace r_t3 := o_t3.row
  replace o_t4 := o_t4.below b (.inr (Nat.le_refl _))
  replace r_t4 := o_t4.row
  replace o_Z := o_Z.below b (.inr (Nat.le_refl _))
  replace r_Z := o_Z.row
  have s14 := b.size
  clear b
  go_wp2_with fail
  go_at_call 17
  go_call heldIntervalS_any as e w15 ⟨rfl, b⟩
  replace B := B.trans (b.mono (by have := B.size; omega))
  replace r1 := f1.below2 B (Nat.le_refl _)
  replace o_t1 := o_t1.below b (.inr (Nat.le_refl _))
  replace r_t1 := o_t1.row
  replace o_W := o_W.below b (.inr (Nat.le_refl _))
  replace r_W := o_W.row
  replace o_t2 := o_t2.below b (.inr (Nat.le_refl _))
  replace r_t2 := o_t2.row
  replace o_G := o_G.below b (.inr (Nat.le_refl _))
  replace r_G := o_G.row
  replace o_t3 := o_t3.below b (.inr (Nat.le_refl _))
  replace r_t3 := o_t3.row
  replace o_t4 := o_t4.below b (.inr (Nat.le_refl _))
  replace r_t4 := o_t4.row
  replace o_Z := o_Z.below b (.inr (Nat.le_refl _))
  replace r_Z := o_Z.row
  have s15 := b.size
  clear b
  go_wp2
  go_ret
  exact ⟨rfl, B⟩

end Go.Proofs.Ytdihpllebccncaa.fnExactGapsOf
