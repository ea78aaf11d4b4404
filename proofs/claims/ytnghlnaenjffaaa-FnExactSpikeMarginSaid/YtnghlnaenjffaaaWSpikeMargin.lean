/- The walk of FnExactSpikeMargin: it returns true and writes nothing that was there. -/
import Derived.Test.YtnghlnaenjffaaaRows
import Derived.Test.YtnghlnaenjffaaaMargin
import Derived.Test.YtnghlnaenjffaaaSounding
import Derived.WalkKit
import Derived.Handy
namespace Go.Proofs.Ytnghlnaenjffaaa.fnExactSpikeMargin
open Go.RowKit
set_option maxRecDepth 100000
set_option linter.unusedVariables false
set_option linter.unusedVariables false

set_option maxRecDepth 100000 in
set_option maxHeartbeats 1600000 in
theorem walk (a0 : Option Addr) (n0 c0 : Nat) (xs0 : List (Int × Int × Int × Int)) (x1_0 : Int) (x1_1 : Int) (x1_2 : Int) (x2 : Int) (w : World) (f0 : Arr4 w a0 n0 xs0) (f1_0 : I64 x1_0) (f1_1 : I64 x1_1) (f1_2 : I64 x1_2) (f2 : I64 x2) :
    Calls Try.prog 3 #[.slice a0 n0 c0, .agg #[.int .i64 x1_0, .int .i64 x1_1, .int .i64 x1_2], .int .i64 x2] w fun e w' => e = .returned (.bool true) ∧ Below w.heap.size w w' := by
  obtain ⟨f0, g0, -⟩ := f0
  have K := Lib.hid (Blk.new w 24 #[.int .i64 x1_0, .int .i64 x1_1, .int .i64 x1_2])
  have B : Below w.heap.size w (w.alloc (.cells #[.int .i64 x1_0, .int .i64 x1_1, .int .i64 x1_2] 24)) := (Below.refl _ _).alloc (Nat.le_refl _) _
  have r0 := f0.below4 B (Nat.le_refl _)
  have G0 : (n0 : Int) ≤ 9223372036854775807 := by unfold maxLen at g0; omega
  by_cases L0 : 1048576 < n0
  · have Z0 := szOf_neg (l := 1048576) (n := n0) (by omega)
    go_enter Try.func3, Try.ntmps3
    go_wp2_with (first | (go_at_call 12; go_call szSoundingS_any as e w' ⟨rfl, rfl⟩))
    go_ret
    exact ⟨rfl, B⟩
  have Z0 := szOf_pos (l := 1048576) (n := n0) (by omega)
  go_enter Try.func3, Try.ntmps3
  go_wp2_with fail
  go_at_call 12
  go_call szSoundingS_any as e ww ⟨rfl, rfl⟩
  go_wp2_with fail
  have sd0 : (w.alloc (.cells #[.int .i64 x1_0, .int .i64 x1_1, .int .i64 x1_2] 24)).heap.size ≤ (w.alloc (.cells #[.int .i64 x1_0, .int .i64 x1_1, .int .i64 x1_2] 24)).drew.heap.size := Nat.le_refl _
  replace B := B.drew
  replace K := Lib.hid K.out.drew
  replace r0 := r0.drew
  go_region_held3 (fun w' => w'.cell? ⟨w.heap.size, 0, none⟩ = some (.int .i64 x1_0) ∧ w'.cell? ⟨w.heap.size, 1, none⟩ = some (.int .i64 x1_1) ∧ w'.cell? ⟨w.heap.size, 2, none⟩ = some (.int .i64 x1_2)) (exact ⟨K.out.cell 0, K.out.cell 1, K.out.cell 2⟩) (first | (go_at_call 14; go_call toSoundingS_any as e w1 ⟨a_t1, c_t1, rfl, o_t1, b⟩; replace B := B.trans (b.mono (by have := B.size; omega)); replace K := Lib.hid (K.out.belowSelf b); replace r0 := f0.below4 B (Nat.le_refl _); have r_t1 := o_t1.row; have s1 : w.heap.size + 1 ≤ w1.heap.size := (by have := b.size; simpa using this); clear b) | (go_at_call 15; go_call toSpikeRule_any as e w2 ⟨rfl, b⟩; replace B := B.trans (b.mono (by have := B.size; omega)); replace K := Lib.hid (K.out.belowSelf b); replace r0 := f0.below4 B (Nat.le_refl _); replace o_t1 := o_t1.below b (.inr (Nat.le_refl _)); replace r_t1 := o_t1.row; have s2 := b.size; clear b) | (go_at_call 13; go_call spikeMargin_spec as e w3 ⟨rfl, b⟩; replace B := B.trans (b.mono (by have := B.size; omega)); replace K := Lib.hid (K.out.belowSelf b); replace r0 := f0.below4 B (Nat.le_refl _); replace o_t1 := o_t1.below b (.inr (Nat.le_refl _)); replace r_t1 := o_t1.row; have s3 := b.size; clear b))
  go_wp2_with fail
  go_at_call 14
  go_call toSoundingS_any as e w4 ⟨a_t2, c_t2, rfl, o_t2, b⟩
  replace B := B.trans (b.mono (by have := B.size; omega))
  replace K := Lib.hid (K.out.belowSelf b)
  replace r0 := f0.below4 B (Nat.le_refl _)
  replace o_t1 := o_t1.below b (.inr (Nat.le_refl _))
  replace r_t1 := o_t1.row
  have r_t2 := o_t2.row
  have s4 := b.size
  clear b
  have k0 : w4.cell? ⟨w.heap.size, 0, none⟩ = some (.int .i64 x1_0) := K.out.cell 0
  have k1 : w4.cell? ⟨w.heap.size, 1, none⟩ = some (.int .i64 x1_1) := K.out.cell 1
  have k2 : w4.cell? ⟨w.heap.size, 2, none⟩ = some (.int .i64 x1_2) := K.out.cell 2
  go_wp2_with fail
  go_at_call 15
  go_call toSpikeRule_any as e w5 ⟨rfl, b⟩
  clear k0 k1 k2
  replace B := B.trans (b.mono (by have := B.size; omega))
  replace K := Lib.hid (K.out.belowSelf b)
  replace r0 := f0.below4 B (Nat.le_refl _)
  replace o_t1 := o_t1.below b (.inr (Nat.le_refl _))
  replace r_t1 := o_t1.row
  replace o_t2 := o_t2.below b (.inr (Nat.le_refl _))
  replace r_t2 := o_t2.row
  have s5 := b.size
  clear b
  go_wp2_with fail
  go_at_call 16
  go_call spikeMargin_impl as e w6 ⟨rfl, b⟩
  replace B := B.trans (b.mono (by have := B.size; omega))
  replace K := Lib.hid (K.out.belowSelf b)
  replace r0 := f0.below4 B (Nat.le_refl _)
  replace o_t1 := o_t1.below b (.inr (Nat.le_refl _))
  replace r_t1 := o_t1.row
  replace o_t2 := o_t2.below b (.inr (Nat.le_refl _))
  replace r_t2 := o_t2.row
  have s6 := b.size
  clear b
  go_wp2_with fail
  go_at_call 14
  go_call toSoundingS_any as e w7 ⟨a_t3, c_t3, rfl, o_t3, b⟩
  replace B := B.trans (b.mono (by have := B.size; omega))
  replace K := Lib.hid (K.out.belowSelf b)
  replace r0 := f0.below4 B (Nat.le_refl _)
  replace o_t1 := o_t1.below b (.inr (Nat.le_refl _))
  replace r_t1 := o_t1.row
  replace o_t2 := o_t2.below b (.inr (Nat.le_refl _))
  replace r_t2 := o_t2.row
  have r_t3 := o_t3.row
  have s7 := b.size
  clear b
  go_wp2_with fail
  go_at_call 17
  go_call eqSoundingS_any as e w8 ⟨rfl, b⟩
  replace B := B.trans (b.mono (by have := B.size; omega))
  replace K := Lib.hid (K.out.belowSelf b)
  replace r0 := f0.below4 B (Nat.le_refl _)
  replace o_t1 := o_t1.below b (.inr (Nat.le_refl _))
  replace r_t1 := o_t1.row
  replace o_t2 := o_t2.below b (.inr (Nat.le_refl _))
  replace r_t2 := o_t2.row
  replace o_t3 := o_t3.below b (.inr (Nat.le_refl _))
  replace r_t3 := o_t3.row
  have s8 := b.size
  clear b
  go_wp2
  go_ret
  exact ⟨rfl, B⟩

end Go.Proofs.Ytnghlnaenjffaaa.fnExactSpikeMargin
