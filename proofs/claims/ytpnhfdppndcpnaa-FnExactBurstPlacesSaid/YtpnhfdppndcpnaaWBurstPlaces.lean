/- The walk of FnExactBurstPlaces: it returns true and writes nothing that was there. -/
import Derived.Test.YtpnhfdppndcpnaaRows
import Derived.Test.YtpnhfdppndcpnaaBurst
import Derived.WalkKit
import Derived.Handy
namespace Go.Proofs.Ytpnhfdppndcpnaa.fnExactBurstPlaces
open Go.RowKit
set_option maxRecDepth 100000
set_option linter.unusedVariables false
set_option linter.unusedVariables false

set_option maxRecDepth 100000 in
set_option maxHeartbeats 1600000 in
theorem walk (x0 : Int) (x1 : Int) (x2 : Int) (x3 : Int) (w : World) (f0 : I64 x0) (f1 : I64 x1) (f2 : I64 x2) (f3 : I64 x3) :
    Calls Try.prog 3 #[.int .i64 x0, .int .i64 x1, .int .i64 x2, .int .i64 x3] w fun e w' => e = .returned (.bool true) ∧ Below w.heap.size w w' := by
  have B : Below w.heap.size w w := Below.refl _ _
  go_enter Try.func3, Try.ntmps3
  go_wp2_with fail
  go_at_call 5
  go_call burstPlaces_spec as e w1 ⟨a_W, n_W, c_W, rfl, o_W, b⟩
  replace B := B.trans (b.mono (by have := B.size; omega))
  have r_W := o_W.row
  have l_W : n_W ≤ 1048576 := by have := r_W.len; have := burstPlaces_len x0 x1 x2 x3; omega
  have s1 := b.size
  clear b
  go_wp2_with fail
  go_at_call 6
  go_call burstPlaces_impl as e w2 ⟨a_G, n_G, c_G, rfl, o_G, b⟩
  replace B := B.trans (b.mono (by have := B.size; omega))
  replace o_W := o_W.below b (.inr (Nat.le_refl _))
  replace r_W := o_W.row
  have r_G := o_G.row
  have l_G : n_G ≤ 1048576 := by have := r_G.len; have := burstPlaces_len x0 x1 x2 x3; omega
  have s2 := b.size
  clear b
  go_wp2_with fail
  go_at_call 7
  go_call eqInt64S_any as e w3 ⟨rfl, b⟩
  replace B := B.trans (b.mono (by have := B.size; omega))
  replace o_W := o_W.below b (.inr (Nat.le_refl _))
  replace r_W := o_W.row
  replace o_G := o_G.below b (.inr (Nat.le_refl _))
  replace r_G := o_G.row
  have s3 := b.size
  clear b
  go_wp2_with fail
  go_at_call 8
  go_call markInt64S_any as e w4 ⟨rfl, q, hg⟩
  replace B := B.grown hg (by have := B.size; omega) (fun g hg1 => by have := o_G.lt g hg1; omega)
  replace o_W := o_W.apart hg (fun g hg1 => by have := o_G.lt g hg1; omega)
  replace r_W := o_W.row
  replace o_G := q
  replace r_G := o_G.row
  have s4 := hg.size
  clear hg q
  go_wp2_with fail
  go_at_call 9
  go_call heldInt64S_any as e w5 ⟨rfl, b⟩
  replace B := B.trans (b.mono (by have := B.size; omega))
  replace o_W := o_W.below b (.inr (Nat.le_refl _))
  replace r_W := o_W.row
  replace o_G := o_G.below b (.inr (Nat.le_refl _))
  replace r_G := o_G.row
  have s5 := b.size
  clear b
  go_wp2_with fail
  go_at_call 6
  go_call burstPlaces_impl as e w6 ⟨a_Z, n_Z, c_Z, rfl, o_Z, b⟩
  replace B := B.trans (b.mono (by have := B.size; omega))
  replace o_W := o_W.below b (.inr (Nat.le_refl _))
  replace r_W := o_W.row
  replace o_G := o_G.below b (.inr (Nat.le_refl _))
  replace r_G := o_G.row
  have r_Z := o_Z.row
  have l_Z : n_Z ≤ 1048576 := by have := r_Z.len; have := burstPlaces_len x0 x1 x2 x3; omega
  have s6 := b.size
  clear b
  go_wp2_with fail
  go_at_call 7
  go_call eqInt64S_any as e w7 ⟨rfl, b⟩
  replace B := B.trans (b.mono (by have := B.size; omega))
  replace o_W := o_W.below b (.inr (Nat.le_refl _))
  replace r_W := o_W.row
  replace o_G := o_G.below b (.inr (Nat.le_refl _))
  replace r_G := o_G.row
  replace o_Z := o_Z.below b (.inr (Nat.le_refl _))
  replace r_Z := o_Z.row
  have s7 := b.size
  clear b
  go_wp2_with fail
  go_at_call 9
  go_call heldInt64S_any as e w8 ⟨rfl, b⟩
  replace B := B.trans (b.mono (by have := B.size; omega))
  replace o_W := o_W.below b (.inr (Nat.le_refl _))
  replace r_W := o_W.row
  replace o_G := o_G.below b (.inr (Nat.le_refl _))
  replace r_G := o_G.row
  replace o_Z := o_Z.below b (.inr (Nat.le_refl _))
  replace r_Z := o_Z.row
  have s8 := b.size
  clear b
  go_wp2
  go_ret
  exact ⟨rfl, B⟩

end Go.Proofs.Ytpnhfdppndcpnaa.fnExactBurstPlaces
