/- The walk of FnExactDamageBits: it returns true and writes nothing that was there. -/
import Derived.Test.YtmkcbcdnnbeccaaRows
import Derived.Test.YtmkcbcdnnbeccaaDamage
import Derived.WalkKit
import Derived.Handy
namespace Go.Proofs.Ytmkcbcdnnbeccaa.fnExactDamageBits
open Go.RowKit
set_option maxRecDepth 100000
set_option linter.unusedVariables false
set_option linter.unusedVariables false

set_option maxRecDepth 100000 in
set_option maxHeartbeats 1600000 in
theorem walk (a0 : Option Addr) (n0 c0 : Nat) (xs0 : List Int) (a1 : Option Addr) (n1 c1 : Nat) (xs1 : List Int) (w : World) (f0 : Arr w a0 n0 xs0) (f1 : Arr w a1 n1 xs1) :
    Calls Try.prog 5 #[.slice a0 n0 c0, .slice a1 n1 c1] w fun e w' => e = .returned (.bool true) ∧ Below w.heap.size w w' := by
  obtain ⟨f0, g0, -⟩ := f0
  obtain ⟨f1, g1, -⟩ := f1
  have B : Below w.heap.size w w := Below.refl _ _
  have G0 : (n0 : Int) ≤ 9223372036854775807 := by unfold maxLen at g0; omega
  have G1 : (n1 : Int) ≤ 9223372036854775807 := by unfold maxLen at g1; omega
  by_cases L0 : 1048576 < n0
  · have Z : True := trivial
    go_enter Try.func5, Try.ntmps5
    go_wp2
    go_ret
    exact ⟨rfl, Below.refl _ _⟩
  by_cases L1 : 1048576 < n1
  · have Z : True := trivial
    go_enter Try.func5, Try.ntmps5
    go_wp2
    go_ret
    exact ⟨rfl, Below.refl _ _⟩
  go_enter Try.func5, Try.ntmps5
  go_wp2_with fail
  go_at_call 13
  go_call toInt64S_any as e w1 ⟨a_t1, c_t1, rfl, o_t1, b⟩
  replace B := B.trans (b.mono (by have := B.size; omega))
  have r0 := f0.below B (Nat.le_refl _)
  have r1 := f1.below B (Nat.le_refl _)
  have r_t1 := o_t1.row
  have s1 := b.size
  clear b
  go_wp2_with fail
  go_at_call 13
  go_call toInt64S_any as e w2 ⟨a_t2, c_t2, rfl, o_t2, b⟩
  replace B := B.trans (b.mono (by have := B.size; omega))
  replace r0 := f0.below B (Nat.le_refl _)
  replace r1 := f1.below B (Nat.le_refl _)
  replace o_t1 := o_t1.below b (.inr (Nat.le_refl _))
  replace r_t1 := o_t1.row
  have r_t2 := o_t2.row
  have s2 := b.size
  clear b
  go_wp2_with fail
  go_at_call 20
  go_call damageBits_spec as e w3 ⟨a_W, n_W, c_W, rfl, o_W, b⟩
  replace B := B.trans (b.mono (by have := B.size; omega))
  replace r0 := f0.below B (Nat.le_refl _)
  replace r1 := f1.below B (Nat.le_refl _)
  replace o_t1 := o_t1.below b (.inr (Nat.le_refl _))
  replace r_t1 := o_t1.row
  replace o_t2 := o_t2.below b (.inr (Nat.le_refl _))
  replace r_t2 := o_t2.row
  have r_W := o_W.row
  have l_W : n_W ≤ 1048576 := by have := r_W.len; have := damageBits_len xs0 xs1; omega
  have s3 := b.size
  clear b
  go_wp2_with fail
  go_at_call 13
  go_call toInt64S_any as e w4 ⟨a_t3, c_t3, rfl, o_t3, b⟩
  replace B := B.trans (b.mono (by have := B.size; omega))
  replace r0 := f0.below B (Nat.le_refl _)
  replace r1 := f1.below B (Nat.le_refl _)
  replace o_t1 := o_t1.below b (.inr (Nat.le_refl _))
  replace r_t1 := o_t1.row
  replace o_t2 := o_t2.below b (.inr (Nat.le_refl _))
  replace r_t2 := o_t2.row
  replace o_W := o_W.below b (.inr (Nat.le_refl _))
  replace r_W := o_W.row
  have r_t3 := o_t3.row
  have s4 := b.size
  clear b
  go_wp2_with fail
  go_at_call 13
  go_call toInt64S_any as e w5 ⟨a_t4, c_t4, rfl, o_t4, b⟩
  replace B := B.trans (b.mono (by have := B.size; omega))
  replace r0 := f0.below B (Nat.le_refl _)
  replace r1 := f1.below B (Nat.le_refl _)
  replace o_t1 := o_t1.below b (.inr (Nat.le_refl _))
  replace r_t1 := o_t1.row
  replace o_t2 := o_t2.below b (.inr (Nat.le_refl _))
  replace r_t2 := o_t2.row
  replace o_W := o_W.below b (.inr (Nat.le_refl _))
  replace r_W := o_W.row
  replace o_t3 := o_t3.below b (.inr (Nat.le_refl _))
  replace r_t3 := o_t3.row
  have r_t4 := o_t4.row
  have s5 := b.size
  clear b
  go_wp2_with fail
  go_at_call 21
  go_call damageBits_impl as e w6 ⟨a_G, n_G, c_G, rfl, o_G, b⟩
  replace B := B.trans (b.mono (by have := B.size; omega))
  replace r0 := f0.below B (Nat.le_refl _)
  replace r1 := f1.below B (Nat.le_refl _)
  replace o_t1 := o_t1.below b (.inr (Nat.le_refl _))
  replace r_t1 := o_t1.row
  replace o_t2 := o_t2.below b (.inr (Nat.le_refl _))
  replace r_t2 := o_t2.row
  replace o_W := o_W.below b (.inr (Nat.le_refl _))
  replace r_W := o_W.row
  replace o_t3 := o_t3.below b (.inr (Nat.le_refl _))
  replace r_t3 := o_t3.row
  replace o_t4 := o_t4.below b (.inr (Nat.le_refl _))
  replace r_t4 := o_t4.row
  have r_G := o_G.row
  have l_G : n_G ≤ 1048576 := by have := r_G.len; have := damageBits_len xs0 xs1; omega
  have s6 := b.size
  clear b
  go_wp2_with fail
  go_at_call 15
  go_call eqInt64S_any as e w7 ⟨rfl, b⟩
  replace B := B.trans (b.mono (by have := B.size; omega))
  replace r0 := f0.below B (Nat.le_refl _)
  replace r1 := f1.below B (Nat.le_refl _)
  replace o_t1 := o_t1.below b (.inr (Nat.le_refl _))
  replace r_t1 := o_t1.row
  replace o_t2 := o_t2.below b (.inr (Nat.le_refl _))
  replace r_t2 := o_t2.row
  replace o_W := o_W.below b (.inr (Nat.le_refl _))
  replace r_W := o_W.row
  replace o_t3 := o_t3.below b (.inr (Nat.le_refl _))
  replace r_t3 := o_t3.row
  replace o_t4 := o_t4.below b (.inr (Nat.le_refl _))
  replace r_t4 := o_t4.row
  replace o_G := o_G.below b (.inr (Nat.le_refl _))
  replace r_G := o_G.row
  have s7 := b.size
  clear b
  go_wp2_with fail
  go_at_call 13
  go_call toInt64S_any as e w8 ⟨a_t5, c_t5, rfl, o_t5, b⟩
  replace B := B.trans (b.mono (by have := B.size; omega))
  replace r0 := f0.below B (Nat.le_refl _)
  replace r1 := f1.below B (Nat.le_refl _)
  replace o_t1 := o_t1.below b (.inr (Nat.le_refl _))
  replace r_t1 := o_t1.row
  replace o_t2 := o_t2.below b (.inr (Nat.le_refl _))
  replace r_t2 := o_t2.row
  replace o_W := o_W.below b (.inr (Nat.le_refl _))
  replace r_W := o_W.row
  replace o_t3 := o_t3.below b (.inr (Nat.le_refl _))
  replace r_t3 := o_t3.row
  replace o_t4 := o_t4.below b (.inr (Nat.le_refl _))
  replace r_t4 := o_t4.row
  replace o_G := o_G.below b (.inr (Nat.le_refl _))
  replace r_G := o_G.row
  have r_t5 := o_t5.row
  have s8 := b.size
  clear b
  go_wp2_with fail
  go_at_call 15
  go_call eqInt64S_any as e w9 ⟨rfl, b⟩
  replace B := B.trans (b.mono (by have := B.size; omega))
  replace r0 := f0.below B (Nat.le_refl _)
  replace r1 := f1.below B (Nat.le_refl _)
  replace o_t1 := o_t1.below b (.inr (Nat.le_refl _))
  replace r_t1 := o_t1.row
  replace o_t2 := o_t2.below b (.inr (Nat.le_refl _))
  replace r_t2 := o_t2.row
  replace o_W := o_W.below b (.inr (Nat.le_refl _))
  replace r_W := o_W.row
  replace o_t3 := o_t3.below b (.inr (Nat.le_refl _))
  replace r_t3 := o_t3.row
  replace o_t4 := o_t4.below b (.inr (Nat.le_refl _))
  replace r_t4 := o_t4.row
  replace o_G := o_G.below b (.inr (Nat.le_refl _))
  replace r_G := o_G.row
  replace o_t5 := o_t5.below b (.inr (Nat.le_refl _))
  replace r_t5 := o_t5.row
  have s9 := b.size
  clear b
  go_wp2_with fail
  go_at_call 13
  go_call toInt64S_any as e w10 ⟨a_t6, c_t6, rfl, o_t6, b⟩
  replace B := B.trans (b.mono (by have := B.size; omega))
  replace r0 := f0.below B (Nat.le_refl _)
  replace r1 := f1.below B (Nat.le_refl _)
  replace o_t1 := o_t1.below b (.inr (Nat.le_refl _))
  replace r_t1 := o_t1.row
  replace o_t2 := o_t2.below b (.inr (Nat.le_refl _))
  replace r_t2 := o_t2.row
  replace o_W := o_W.below b (.inr (Nat.le_refl _))
  replace r_W := o_W.row
  replace o_t3 := o_t3.below b (.inr (Nat.le_refl _))
  replace r_t3 := o_t3.row
  replace o_t4 := o_t4.below b (.inr (Nat.le_refl _))
  replace r_t4 := o_t4.row
  replace o_G := o_G.below b (.inr (Nat.le_refl _))
  replace r_G := o_G.row
  replace o_t5 := o_t5.below b (.inr (Nat.le_refl _))
  replace r_t5 := o_t5.row
  have r_t6 := o_t6.row
  have s10 := b.size
  clear b
  go_wp2_with fail
  go_at_call 15
  go_call eqInt64S_any as e w11 ⟨rfl, b⟩
  replace B := B.trans (b.mono (by have := B.size; omega))
  replace r0 := f0.below B (Nat.le_refl _)
  replace r1 := f1.below B (Nat.le_refl _)
  replace o_t1 := o_t1.below b (.inr (Nat.le_refl _))
  replace r_t1 := o_t1.row
  replace o_t2 := o_t2.below b (.inr (Nat.le_refl _))
  replace r_t2 := o_t2.row
  replace o_W := o_W.below b (.inr (Nat.le_refl _))
  replace r_W := o_W.row
  replace o_t3 := o_t3.below b (.inr (Nat.le_refl _))
  replace r_t3 := o_t3.row
  replace o_t4 := o_t4.below b (.inr (Nat.le_refl _))
  replace r_t4 := o_t4.row
  replace o_G := o_G.below b (.inr (Nat.le_refl _))
  replace r_G := o_G.row
  replace o_t5 := o_t5.below b (.inr (Nat.le_refl _))
  replace r_t5 := o_t5.row
  replace o_t6 := o_t6.below b (.inr (Nat.le_refl _))
  replace r_t6 := o_t6.row
  have s11 := b.size
  clear b
  go_wp2_with fail
  go_at_call 16
  go_call markInt64S_any as e w12 ⟨rfl, q, hg⟩
  replace B := B.grown hg (by have := B.size; omega) (fun g hg1 => by have := o_t3.lt g hg1; omega)
  replace r0 := f0.below B (Nat.le_refl _)
  replace r1 := f1.below B (Nat.le_refl _)
  replace o_t1 := o_t1.apart hg (fun g hg1 => by have := o_t3.lt g hg1; omega)
  replace r_t1 := o_t1.row
  replace o_t2 := o_t2.apart hg (fun g hg1 => by have := o_t3.lt g hg1; omega)
  replace r_t2 := o_t2.row
  replace o_W := o_W.apart hg (fun g hg1 => by have := o_t3.lt g hg1; omega)
  replace r_W := o_W.row
  replace o_t4 := o_t4.apart hg (fun g hg1 => by have := o_t3.lt g hg1; omega)
  replace r_t4 := o_t4.row
  replace o_G := o_G.apart hg (fun g hg1 => by have := o_t3.lt g hg1; omega)
  replace r_G := o_G.row
  replace o_t5 := o_t5.apart hg (fun g hg1 => by have := o_t3.lt g hg1; omega)
  replace r_t5 := o_t5.row
  replace o_t6 := o_t6.apart hg (fun g hg1 => by have := o_t3.lt g hg1; omega)
  replace r_t6 := o_t6.row
  replace o_t3 := q
  replace r_t3 := o_t3.row
  have s12 := hg.size
  clear hg q
  go_wp2_with fail
  go_at_call 16
  go_call markInt64S_any as e w13 ⟨rfl, q, hg⟩
  replace B := B.grown hg (by have := B.size; omega) (fun g hg1 => by have := o_t4.lt g hg1; omega)
  replace r0 := f0.below B (Nat.le_refl _)
  replace r1 := f1.below B (Nat.le_refl _)
  replace o_t1 := o_t1.apart hg (fun g hg1 => by have := o_t4.lt g hg1; omega)
  replace r_t1 := o_t1.row
  replace o_t2 := o_t2.apart hg (fun g hg1 => by have := o_t4.lt g hg1; omega)
  replace r_t2 := o_t2.row
  replace o_W := o_W.apart hg (fun g hg1 => by have := o_t4.lt g hg1; omega)
  replace r_W := o_W.row
  replace o_t3 := o_t3.apart hg (fun g hg1 => by have := o_t4.lt g hg1; omega)
  replace r_t3 := o_t3.row
  replace o_G := o_G.apart hg (fun g hg1 => by have := o_t4.lt g hg1; omega)
  replace r_G := o_G.row
  replace o_t5 := o_t5.apart hg (fun g hg1 => by have := o_t4.lt g hg1; omega)
  replace r_t5 := o_t5.row
  replace o_t6 := o_t6.apart hg (fun g hg1 => by have := o_t4.lt g hg1; omega)
  replace r_t6 := o_t6.row
  replace o_t4 := q
  replace r_t4 := o_t4.row
  have s13 := hg.size
  clear hg q
  go_wp2_with fail
  go_at_call 15
  go_call eqInt64S_any as e w14 ⟨rfl, b⟩
  replace B := B.trans (b.mono (by have := B.size; omega))
  replace r0 := f0.below B (Nat.le_refl _)
  replace r1 := f1.below B (Nat.le_refl _)
  replace o_t1 := o_t1.below b (.inr (Nat.le_refl _))
  replace r_t1 := o_t1.row
  replace o_t2 := o_t2.below b (.inr (Nat.le_refl _))
  replace r_t2 := o_t2.row
  replace o_W := o_W.below b (.inr (Nat.le_refl _))
  replace r_W := o_W.row
  replace o_t3 := o_t3.below b (.inr (Nat.le_refl _))
  replace r_t3 := o_t3.row
  replace o_t4 := o_t4.below b (.inr (Nat.le_refl _))
  replace r_t4 := o_t4.row
  replace o_G := o_G.below b (.inr (Nat.le_refl _))
  replace r_G := o_G.row
  replace o_t5 := o_t5.below b (.inr (Nat.le_refl _))
  replace r_t5 := o_t5.row
  replace o_t6 := o_t6.below b (.inr (Nat.le_refl _))
  replace r_t6 := o_t6.row
  have s14 := b.size
  clear b
  go_wp2_with fail
  go_at_call 16
  go_call markInt64S_any as e w15 ⟨rfl, q, hg⟩
  replace B := B.grown hg (by have := B.size; omega) (fun g hg1 => by have := o_G.lt g hg1; omega)
  replace r0 := f0.below B (Nat.le_refl _)
  replace r1 := f1.below B (Nat.le_refl _)
  replace o_t1 := o_t1.apart hg (fun g hg1 => by have := o_G.lt g hg1; omega)
  replace r_t1 := o_t1.row
  replace o_t2 := o_t2.apart hg (fun g hg1 => by have := o_G.lt g hg1; omega)
  replace r_t2 := o_t2.row
  replace o_W := o_W.apart hg (fun g hg1 => by have := o_G.lt g hg1; omega)
  replace r_W := o_W.row
  replace o_t3 := o_t3.apart hg (fun g hg1 => by have := o_G.lt g hg1; omega)
  replace r_t3 := o_t3.row
  replace o_t4 := o_t4.apart hg (fun g hg1 => by have := o_G.lt g hg1; omega)
  replace r_t4 := o_t4.row
  replace o_t5 := o_t5.apart hg (fun g hg1 => by have := o_G.lt g hg1; omega)
  replace r_t5 := o_t5.row
  replace o_t6 := o_t6.apart hg (fun g hg1 => by have := o_G.lt g hg1; omega)
  replace r_t6 := o_t6.row
  replace o_G := q
  replace r_G := o_G.row
  have s15 := hg.size
  clear hg q
  go_wp2_with fail
  go_at_call 17
  go_call heldInt64S_any as e w16 ⟨rfl, b⟩
  replace B := B.trans (b.mono (by have := B.size; omega))
  replace r0 := f0.below B (Nat.le_refl _)
  replace r1 := f1.below B (Nat.le_refl _)
  replace o_t1 := o_t1.below b (.inr (Nat.le_refl _))
  replace r_t1 := o_t1.row
  replace o_t2 := o_t2.below b (.inr (Nat.le_refl _))
  replace r_t2 := o_t2.row
  replace o_W := o_W.below b (.inr (Nat.le_refl _))
  replace r_W := o_W.row
  replace o_t3 := o_t3.below b (.inr (Nat.le_refl _))
  replace r_t3 := o_t3.row
  replace o_t4 := o_t4.below b (.inr (Nat.le_refl _))
  replace r_t4 := o_t4.row
  replace o_G := o_G.below b (.inr (Nat.le_refl _))
  replace r_G := o_G.row
  replace o_t5 := o_t5.below b (.inr (Nat.le_refl _))
  replace r_t5 := o_t5.row
  replace o_t6 := o_t6.below b (.inr (Nat.le_refl _))
  replace r_t6 := o_t6.row
  have s16 := b.size
  clear b
  go_wp2_with fail
  go_at_call 13
  go_call toInt64S_any as e w17 ⟨a_t7, c_t7, rfl, o_t7, b⟩
  replace B := B.trans (b.mono (by have := B.size; omega))
  replace r0 := f0.below B (Nat.le_refl _)
  replace r1 := f1.below B (Nat.le_refl _)
  replace o_t1 := o_t1.below b (.inr (Nat.le_refl _))
  replace r_t1 := o_t1.row
  replace o_t2 := o_t2.below b (.inr (Nat.le_refl _))
  replace r_t2 := o_t2.row
  replace o_W := o_W.below b (.inr (Nat.le_refl _))
  replace r_W := o_W.row
  replace o_t3 := o_t3.below b (.inr (Nat.le_refl _))
  replace r_t3 := o_t3.row
  replace o_t4 := o_t4.below b (.inr (Nat.le_refl _))
  replace r_t4 := o_t4.row
  replace o_G := o_G.below b (.inr (Nat.le_refl _))
  replace r_G := o_G.row
  replace o_t5 := o_t5.below b (.inr (Nat.le_refl _))
  replace r_t5 := o_t5.row
  replace o_t6 := o_t6.below b (.inr (Nat.le_refl _))
  replace r_t6 := o_t6.row
  have r_t7 := o_t7.row
  have s17 := b.size
  clear b
  go_wp2_with fail
  go_at_call 13
  go_call toInt64S_any as e w18 ⟨a_t8, c_t8, rfl, o_t8, b⟩
  replace B := B.trans (b.mono (by have := B.size; omega))
  replace r0 := f0.below B (Nat.le_refl _)
  replace r1 := f1.below B (Nat.le_refl _)
  replace o_t1 := o_t1.below b (.inr (Nat.le_refl _))
  replace r_t1 := o_t1.row
  replace o_t2 := o_t2.below b (.inr (Nat.le_refl _))
  replace r_t2 := o_t2.row
  replace o_W := o_W.below b (.inr (Nat.le_refl _))
  replace r_W := o_W.row
  replace o_t3 := o_t3.below b (.inr (Nat.le_refl _))
  replace r_t3 := o_t3.row
  replace o_t4 := o_t4.below b (.inr (Nat.le_refl _))
  replace r_t4 := o_t4.row
  replace o_G := o_G.below b (.inr (Nat.le_refl _))
  replace r_G := o_G.row
  replace o_t5 := o_t5.below b (.inr (Nat.le_refl _))
  replace r_t5 := o_t5.row
  replace o_t6 := o_t6.below b (.inr (Nat.le_refl _))
  replace r_t6 := o_t6.row
  replace o_t7 := o_t7.below b (.inr (Nat.le_refl _))
  replace r_t7 := o_t7.row
  have r_t8 := o_t8.row
  have s18 := b.size
  clear b
  go_wp2_with fail
  go_at_call 21
  go_call damageBits_impl as e w19 ⟨a_Z, n_Z, c_Z, rfl, o_Z, b⟩
  replace B := B.trans (b.mono (by have := B.size; omega))
  replace r0 := f0.below B (Nat.le_refl _)
  replace r1 := f1.below B (Nat.le_refl _)
  replace o_t1 := o_t1.below b (.inr (Nat.le_refl _))
  replace r_t1 := o_t1.row
  replace o_t2 := o_t2.below b (.inr (Nat.le_refl _))
  replace r_t2 := o_t2.row
  replace o_W := o_W.below b (.inr (Nat.le_refl _))
  replace r_W := o_W.row
  replace o_t3 := o_t3.below b (.inr (Nat.le_refl _))
  replace r_t3 := o_t3.row
  replace o_t4 := o_t4.below b (.inr (Nat.le_refl _))
  replace r_t4 := o_t4.row
  replace o_G := o_G.below b (.inr (Nat.le_refl _))
  replace r_G := o_G.row
  replace o_t5 := o_t5.below b (.inr (Nat.le_refl _))
  replace r_t5 := o_t5.row
  replace o_t6 := o_t6.below b (.inr (Nat.le_refl _))
  replace r_t6 := o_t6.row
  replace o_t7 := o_t7.below b (.inr (Nat.le_refl _))
  replace r_t7 := o_t7.row
  replace o_t8 := o_t8.below b (.inr (Nat.le_refl _))
  replace r_t8 := o_t8.row
  have r_Z := o_Z.row
  have l_Z : n_Z ≤ 1048576 := by have := r_Z.len; have := damageBits_len xs0 xs1; omega
  have s19 := b.size
  clear b
  go_wp2_with fail
  go_at_call 15
  go_call eqInt64S_any as e w20 ⟨rfl, b⟩
  replace B := B.trans (b.mono (by have := B.size; omega))
  replace r0 := f0.below B (Nat.le_refl _)
  replace r1 := f1.below B (Nat.le_refl _)
  replace o_t1 := o_t1.below b (.inr (Nat.le_refl _))
  replace r_t1 := o_t1.row
  replace o_t2 := o_t2.below b (.inr (Nat.le_refl _))
  replace r_t2 := o_t2.row
  replace o_W := o_W.below b (.inr (Nat.le_refl _))
  replace r_W := o_W.row
  replace o_t3 := o_t3.below b (.inr (Nat.le_refl _))
  replace r_t3 := o_t3.row
  replace o_t4 := o_t4.below b (.inr (Nat.le_refl _))
  replace r_t4 := o_t4.row
  replace o_G := o_G.below b (.inr (Nat.le_refl _))
  replace r_G := o_G.row
  replace o_t5 := o_t5.below b (.inr (Nat.le_refl _))
  replace r_t5 := o_t5.row
  replace o_t6 := o_t6.below b (.inr (Nat.le_refl _))
  replace r_t6 := o_t6.row
  replace o_t7 := o_t7.below b (.inr (Nat.le_refl _))
  replace r_t7 := o_t7.row
  replace o_t8 := o_t8.below b (.inr (Nat.le_refl _))
  replace r_t8 := o_t8.row
  replace o_Z := o_Z.below b (.inr (Nat.le_refl _))
  replace r_Z := o_Z.row
  have s20 := b.size
  clear b
  go_wp2_with fail
  go_at_call 17
  go_call heldInt64S_any as e w21 ⟨rfl, b⟩
  replace B := B.trans (b.mono (by have := B.size; omega))
  replace r0 := f0.below B (Nat.le_refl _)
  replace r1 := f1.below B (Nat.le_refl _)
  replace o_t1 := o_t1.below b (.inr (Nat.le_refl _))
  replace r_t1 := o_t1.row
  replace o_t2 := o_t2.below b (.inr (Nat.le_refl _))
  replace r_t2 := o_t2.row
  replace o_W := o_W.below b (.inr (Nat.le_refl _))
  replace r_W := o_W.row
  replace o_t3 := o_t3.below b (.inr (Nat.le_refl _))
  replace r_t3 := o_t3.row
  replace o_t4 := o_t4.below b (.inr (Nat.le_refl _))
  replace r_t4 := o_t4.row
  replace o_G := o_G.below b (.inr (Nat.le_refl _))
  replace r_G := o_G.row
  replace o_t5 := o_t5.below b (.inr (Nat.le_refl _))
  replace r_t5 := o_t5.row
  replace o_t6 := o_t6.below b (.inr (Nat.le_refl _))
  replace r_t6 := o_t6.row
  replace o_t7 := o_t7.below b (.inr (Nat.le_refl _))
  replace r_t7 := o_t7.row
  replace o_t8 := o_t8.below b (.inr (Nat.le_refl _))
  replace r_t8 := o_t8.row
  replace o_Z := o_Z.below b (.inr (Nat.le_refl _))
  replace r_Z := o_Z.row
  have s21 := b.size
  clear b
  go_wp2
  go_ret
  exact ⟨rfl, B⟩

end Go.Proofs.Ytmkcbcdnnbeccaa.fnExactDamageBits
