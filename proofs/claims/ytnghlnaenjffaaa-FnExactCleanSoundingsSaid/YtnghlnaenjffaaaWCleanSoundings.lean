/- The walk of FnExactCleanSoundings: it returns true and writes nothing that was there. -/
import Derived.Test.YtnghlnaenjffaaaRows
import Derived.Test.YtnghlnaenjffaaaKept
import Derived.Test.YtnghlnaenjffaaaSounding
import Derived.WalkKit
import Derived.Handy
namespace Go.Proofs.Ytnghlnaenjffaaa.fnExactCleanSoundings
open Go.RowKit
set_option maxRecDepth 100000
set_option linter.unusedVariables false
set_option linter.unusedVariables false

set_option maxRecDepth 100000 in
set_option maxHeartbeats 1600000 in
theorem walk (a0 : Option Addr) (n0 c0 : Nat) (xs0 : List (Int × Int × Int × Int)) (x1_0 : Int) (x1_1 : Int) (x1_2 : Int) (w : World) (f0 : Arr4 w a0 n0 xs0) (f1_0 : I64 x1_0) (f1_1 : I64 x1_1) (f1_2 : I64 x1_2) :
    Calls Try.prog 9 #[.slice a0 n0 c0, .agg #[.int .i64 x1_0, .int .i64 x1_1, .int .i64 x1_2]] w fun e w' => e = .returned (.bool true) ∧ Below w.heap.size w w' := by
  obtain ⟨f0, g0, -⟩ := f0
  have K := Lib.hid (Blk.new w 24 #[.int .i64 x1_0, .int .i64 x1_1, .int .i64 x1_2])
  have B : Below w.heap.size w (w.alloc (.cells #[.int .i64 x1_0, .int .i64 x1_1, .int .i64 x1_2] 24)) := (Below.refl _ _).alloc (Nat.le_refl _) _
  have r0 := f0.below4 B (Nat.le_refl _)
  have G0 : (n0 : Int) ≤ 9223372036854775807 := by unfold maxLen at g0; omega
  by_cases L0 : 1048576 < n0
  · have Z0 := szOf_neg (l := 1048576) (n := n0) (by omega)
    go_enter Try.func9, Try.ntmps9
    go_wp2_with (first | (go_at_call 12; go_call szSoundingS_any as e w' ⟨rfl, rfl⟩))
    go_ret
    exact ⟨rfl, B⟩
  have Z0 := szOf_pos (l := 1048576) (n := n0) (by omega)
  go_enter Try.func9, Try.ntmps9
  go_wp2_with fail
  go_at_call 12
  go_call szSoundingS_any as e ww ⟨rfl, rfl⟩
  go_wp2_with fail
  have sd0 : (w.alloc (.cells #[.int .i64 x1_0, .int .i64 x1_1, .int .i64 x1_2] 24)).heap.size ≤ (w.alloc (.cells #[.int .i64 x1_0, .int .i64 x1_1, .int .i64 x1_2] 24)).drew.heap.size := Nat.le_refl _
  replace B := B.drew
  replace K := Lib.hid K.out.drew
  replace r0 := r0.drew
  go_region_held3 (fun w' => w'.cell? ⟨w.heap.size, 0, none⟩ = some (.int .i64 x1_0) ∧ w'.cell? ⟨w.heap.size, 1, none⟩ = some (.int .i64 x1_1) ∧ w'.cell? ⟨w.heap.size, 2, none⟩ = some (.int .i64 x1_2)) (exact ⟨K.out.cell 0, K.out.cell 1, K.out.cell 2⟩) (first | (go_at_call 14; go_call toSoundingS_any as e w1 ⟨a_t1, c_t1, rfl, o_t1, b⟩; replace B := B.trans (b.mono (by have := B.size; omega)); replace K := Lib.hid (K.out.belowSelf b); replace r0 := f0.below4 B (Nat.le_refl _); have r_t1 := o_t1.row; have s1 : w.heap.size + 1 ≤ w1.heap.size := (by have := b.size; simpa using this); clear b) | (go_at_call 15; go_call toSpikeRule_any as e w2 ⟨rfl, b⟩; replace B := B.trans (b.mono (by have := B.size; omega)); replace K := Lib.hid (K.out.belowSelf b); replace r0 := f0.below4 B (Nat.le_refl _); replace o_t1 := o_t1.below b (.inr (Nat.le_refl _)); replace r_t1 := o_t1.row; have s2 := b.size; clear b) | (go_at_call 33; go_call cleanSoundings_spec as e w3 ⟨a_W, n_W, c_W, rfl, o_W, b⟩; replace B := B.trans (b.mono (by have := B.size; omega)); replace K := Lib.hid (K.out.belowSelf b); replace r0 := f0.below4 B (Nat.le_refl _); replace o_t1 := o_t1.below b (.inr (Nat.le_refl _)); replace r_t1 := o_t1.row; have r_W := o_W.row; have l_W : n_W ≤ 1048576 := (by have := r_W.len4; have := cleanSoundings_len xs0 x1_0 x1_1 x1_2; have := f0.len4; omega); have s3 := b.size; clear b))
  go_wp2_with fail
  go_at_call 14
  go_call toSoundingS_any as e w4 ⟨a_t2, c_t2, rfl, o_t2, b⟩
  replace B := B.trans (b.mono (by have := B.size; omega))
  replace K := Lib.hid (K.out.belowSelf b)
  replace r0 := f0.below4 B (Nat.le_refl _)
  replace o_t1 := o_t1.below b (.inr (Nat.le_refl _))
  replace r_t1 := o_t1.row
  replace o_W := o_W.below b (.inr (Nat.le_refl _))
  replace r_W := o_W.row
  have r_t2 := o_t2.row
  have s4 := b.size
  clear b
  have k0 : w4.cell? ⟨w.heap.size, 0, none⟩ = some (.int .i64 x1_0) := K.out.cell 0
  have k1 : w4.cell? ⟨w.heap.size, 1, none⟩ = some (.int .i64 x1_1) := K.out.cell 1
  have k2 : w4.cell? ⟨w.heap.size, 2, none⟩ = some (.int .i64 x1_2) := K.out.cell 2
  go_wp2_with fail
  go_at_call 15
  go_call toSpikeRule_any as e w5 ⟨rfl, b⟩
  clear k0 k1 k2
  replace B := B.trans (b.mono (by have := B.size; omega))
  replace K := Lib.hid (K.out.belowSelf b)
  replace r0 := f0.below4 B (Nat.le_refl _)
  replace o_t1 := o_t1.below b (.inr (Nat.le_refl _))
  replace r_t1 := o_t1.row
  replace o_W := o_W.below b (.inr (Nat.le_refl _))
  replace r_W := o_W.row
  replace o_t2 := o_t2.below b (.inr (Nat.le_refl _))
  replace r_t2 := o_t2.row
  have s5 := b.size
  clear b
  go_wp2_with fail
  go_at_call 34
  go_call cleanSoundings_impl as e w6 ⟨a_G, n_G, c_G, rfl, o_G, b⟩
  replace B := B.trans (b.mono (by have := B.size; omega))
  replace K := Lib.hid (K.out.belowSelf b)
  replace r0 := f0.below4 B (Nat.le_refl _)
  replace o_t1 := o_t1.below b (.inr (Nat.le_refl _))
  replace r_t1 := o_t1.row
  replace o_W := o_W.below b (.inr (Nat.le_refl _))
  replace r_W := o_W.row
  replace o_t2 := o_t2.below b (.inr (Nat.le_refl _))
  replace r_t2 := o_t2.row
  have r_G := o_G.row
  have l_G : n_G ≤ 1048576 := by have := r_G.len4; have := cleanSoundings_len xs0 x1_0 x1_1 x1_2; have := f0.len4; omega
  have s6 := b.size
  clear b
  go_wp2_with fail
  go_at_call 17
  go_call eqSoundingS_any as e w7 ⟨rfl, b⟩
  replace B := B.trans (b.mono (by have := B.size; omega))
  replace K := Lib.hid (K.out.belowSelf b)
  replace r0 := f0.below4 B (Nat.le_refl _)
  replace o_t1 := o_t1.below b (.inr (Nat.le_refl _))
  replace r_t1 := o_t1.row
  replace o_W := o_W.below b (.inr (Nat.le_refl _))
  replace r_W := o_W.row
  replace o_t2 := o_t2.below b (.inr (Nat.le_refl _))
  replace r_t2 := o_t2.row
  replace o_G := o_G.below b (.inr (Nat.le_refl _))
  replace r_G := o_G.row
  have s7 := b.size
  clear b
  go_wp2_with fail
  go_at_call 14
  go_call toSoundingS_any as e w8 ⟨a_t3, c_t3, rfl, o_t3, b⟩
  replace B := B.trans (b.mono (by have := B.size; omega))
  replace K := Lib.hid (K.out.belowSelf b)
  replace r0 := f0.below4 B (Nat.le_refl _)
  replace o_t1 := o_t1.below b (.inr (Nat.le_refl _))
  replace r_t1 := o_t1.row
  replace o_W := o_W.below b (.inr (Nat.le_refl _))
  replace r_W := o_W.row
  replace o_t2 := o_t2.below b (.inr (Nat.le_refl _))
  replace r_t2 := o_t2.row
  replace o_G := o_G.below b (.inr (Nat.le_refl _))
  replace r_G := o_G.row
  have r_t3 := o_t3.row
  have s8 := b.size
  clear b
  go_wp2_with fail
  go_at_call 17
  go_call eqSoundingS_any as e w9 ⟨rfl, b⟩
  replace B := B.trans (b.mono (by have := B.size; omega))
  replace K := Lib.hid (K.out.belowSelf b)
  replace r0 := f0.below4 B (Nat.le_refl _)
  replace o_t1 := o_t1.below b (.inr (Nat.le_refl _))
  replace r_t1 := o_t1.row
  replace o_W := o_W.below b (.inr (Nat.le_refl _))
  replace r_W := o_W.row
  replace o_t2 := o_t2.below b (.inr (Nat.le_refl _))
  replace r_t2 := o_t2.row
  replace o_G := o_G.below b (.inr (Nat.le_refl _))
  replace r_G := o_G.row
  replace o_t3 := o_t3.below b (.inr (Nat.le_refl _))
  replace r_t3 := o_t3.row
  have s9 := b.size
  clear b
  go_wp2_with fail
  go_at_call 21
  go_call markSoundingS_any as e w10 ⟨rfl, q, hg⟩
  replace B := B.grown hg (by have := B.size; omega) (fun g hg1 => by have := o_t2.lt g hg1; omega)
  replace K := Lib.hid (K.out.grown hg (fun e => by have := o_t2.lt _ e.symm; omega))
  replace r0 := f0.below4 B (Nat.le_refl _)
  replace o_t1 := o_t1.apart hg (fun g hg1 => by have := o_t2.lt g hg1; omega)
  replace r_t1 := o_t1.row
  replace o_W := o_W.apart hg (fun g hg1 => by have := o_t2.lt g hg1; omega)
  replace r_W := o_W.row
  replace o_G := o_G.apart hg (fun g hg1 => by have := o_t2.lt g hg1; omega)
  replace r_G := o_G.row
  replace o_t3 := o_t3.apart hg (fun g hg1 => by have := o_t2.lt g hg1; omega)
  replace r_t3 := o_t3.row
  replace o_t2 := q
  replace r_t2 := o_t2.row
  have s10 := hg.size
  clear hg q
  go_wp2_with fail
  go_at_call 17
  go_call eqSoundingS_any as e w11 ⟨rfl, b⟩
  replace B := B.trans (b.mono (by have := B.size; omega))
  replace K := Lib.hid (K.out.belowSelf b)
  replace r0 := f0.below4 B (Nat.le_refl _)
  replace o_t1 := o_t1.below b (.inr (Nat.le_refl _))
  replace r_t1 := o_t1.row
  replace o_W := o_W.below b (.inr (Nat.le_refl _))
  replace r_W := o_W.row
  replace o_t2 := o_t2.below b (.inr (Nat.le_refl _))
  replace r_t2 := o_t2.row
  replace o_G := o_G.below b (.inr (Nat.le_refl _))
  replace r_G := o_G.row
  replace o_t3 := o_t3.below b (.inr (Nat.le_refl _))
  replace r_t3 := o_t3.row
  have s11 := b.size
  clear b
  go_wp2_with fail
  go_at_call 21
  go_call markSoundingS_any as e w12 ⟨rfl, q, hg⟩
  replace B := B.grown hg (by have := B.size; omega) (fun g hg1 => by have := o_G.lt g hg1; omega)
  replace K := Lib.hid (K.out.grown hg (fun e => by have := o_G.lt _ e.symm; omega))
  replace r0 := f0.below4 B (Nat.le_refl _)
  replace o_t1 := o_t1.apart hg (fun g hg1 => by have := o_G.lt g hg1; omega)
  replace r_t1 := o_t1.row
  replace o_W := o_W.apart hg (fun g hg1 => by have := o_G.lt g hg1; omega)
  replace r_W := o_W.row
  replace o_t2 := o_t2.apart hg (fun g hg1 => by have := o_G.lt g hg1; omega)
  replace r_t2 := o_t2.row
  replace o_t3 := o_t3.apart hg (fun g hg1 => by have := o_G.lt g hg1; omega)
  replace r_t3 := o_t3.row
  replace o_G := q
  replace r_G := o_G.row
  have s12 := hg.size
  clear hg q
  go_wp2_with fail
  go_at_call 30
  go_call heldSoundingS_any as e w13 ⟨rfl, b⟩
  replace B := B.trans (b.mono (by have := B.size; omega))
  replace K := Lib.hid (K.out.belowSelf b)
  replace r0 := f0.below4 B (Nat.le_refl _)
  replace o_t1 := o_t1.below b (.inr (Nat.le_refl _))
  replace r_t1 := o_t1.row
  replace o_W := o_W.below b (.inr (Nat.le_refl _))
  replace r_W := o_W.row
  replace o_t2 := o_t2.below b (.inr (Nat.le_refl _))
  replace r_t2 := o_t2.row
  replace o_G := o_G.below b (.inr (Nat.le_refl _))
  replace r_G := o_G.row
  replace o_t3 := o_t3.below b (.inr (Nat.le_refl _))
  replace r_t3 := o_t3.row
  have s13 := b.size
  clear b
  go_wp2_with fail
  have sd13 : w13.heap.size ≤ w13.drew.heap.size := Nat.le_refl _
  replace B := B.drew
  replace K := Lib.hid K.out.drew
  replace r0 := r0.drew
  replace o_t1 := o_t1.drew
  replace r_t1 := r_t1.drew
  replace o_W := o_W.drew
  replace r_W := r_W.drew
  replace o_t2 := o_t2.drew
  replace r_t2 := r_t2.drew
  replace o_G := o_G.drew
  replace r_G := r_G.drew
  replace o_t3 := o_t3.drew
  replace r_t3 := r_t3.drew
  go_region_held3 (fun w' => w'.cell? ⟨w.heap.size, 0, none⟩ = some (.int .i64 x1_0) ∧ w'.cell? ⟨w.heap.size, 1, none⟩ = some (.int .i64 x1_1) ∧ w'.cell? ⟨w.heap.size, 2, none⟩ = some (.int .i64 x1_2)) (exact ⟨K.out.cell 0, K.out.cell 1, K.out.cell 2⟩) (first | (go_at_call 14; go_call toSoundingS_any as e w14 ⟨a_t4, c_t4, rfl, o_t4, b⟩; replace B := B.trans (b.mono (by have := B.size; omega)); replace K := Lib.hid (K.out.belowSelf b); replace r0 := f0.below4 B (Nat.le_refl _); replace o_t1 := o_t1.below b (.inr (Nat.le_refl _)); replace r_t1 := o_t1.row; replace o_W := o_W.below b (.inr (Nat.le_refl _)); replace r_W := o_W.row; replace o_t2 := o_t2.below b (.inr (Nat.le_refl _)); replace r_t2 := o_t2.row; replace o_G := o_G.below b (.inr (Nat.le_refl _)); replace r_G := o_G.row; replace o_t3 := o_t3.below b (.inr (Nat.le_refl _)); replace r_t3 := o_t3.row; have r_t4 := o_t4.row; have s14 := b.size; clear b) | (go_at_call 15; go_call toSpikeRule_any as e w15 ⟨rfl, b⟩; replace B := B.trans (b.mono (by have := B.size; omega)); replace K := Lib.hid (K.out.belowSelf b); replace r0 := f0.below4 B (Nat.le_refl _); replace o_t1 := o_t1.below b (.inr (Nat.le_refl _)); replace r_t1 := o_t1.row; replace o_W := o_W.below b (.inr (Nat.le_refl _)); replace r_W := o_W.row; replace o_t2 := o_t2.below b (.inr (Nat.le_refl _)); replace r_t2 := o_t2.row; replace o_G := o_G.below b (.inr (Nat.le_refl _)); replace r_G := o_G.row; replace o_t3 := o_t3.below b (.inr (Nat.le_refl _)); replace r_t3 := o_t3.row; replace o_t4 := o_t4.below b (.inr (Nat.le_refl _)); replace r_t4 := o_t4.row; have s15 := b.size; clear b) | (go_at_call 34; go_call cleanSoundings_impl as e w16 ⟨a_Z, n_Z, c_Z, rfl, o_Z, b⟩; replace B := B.trans (b.mono (by have := B.size; omega)); replace K := Lib.hid (K.out.belowSelf b); replace r0 := f0.below4 B (Nat.le_refl _); replace o_t1 := o_t1.below b (.inr (Nat.le_refl _)); replace r_t1 := o_t1.row; replace o_W := o_W.below b (.inr (Nat.le_refl _)); replace r_W := o_W.row; replace o_t2 := o_t2.below b (.inr (Nat.le_refl _)); replace r_t2 := o_t2.row; replace o_G := o_G.below b (.inr (Nat.le_refl _)); replace r_G := o_G.row; replace o_t3 := o_t3.below b (.inr (Nat.le_refl _)); replace r_t3 := o_t3.row; replace o_t4 := o_t4.below b (.inr (Nat.le_refl _)); replace r_t4 := o_t4.row; have r_Z := o_Z.row; have l_Z : n_Z ≤ 1048576 := (by have := r_Z.len4; have := cleanSoundings_len xs0 x1_0 x1_1 x1_2; have := f0.len4; omega); have s16 := b.size; clear b))
  go_wp2_with fail
  go_at_call 17
  go_call eqSoundingS_any as e w17 ⟨rfl, b⟩
  replace B := B.trans (b.mono (by have := B.size; omega))
  replace K := Lib.hid (K.out.belowSelf b)
  replace r0 := f0.below4 B (Nat.le_refl _)
  replace o_t1 := o_t1.below b (.inr (Nat.le_refl _))
  replace r_t1 := o_t1.row
  replace o_W := o_W.below b (.inr (Nat.le_refl _))
  replace r_W := o_W.row
  replace o_t2 := o_t2.below b (.inr (Nat.le_refl _))
  replace r_t2 := o_t2.row
  replace o_G := o_G.below b (.inr (Nat.le_refl _))
  replace r_G := o_G.row
  replace o_t3 := o_t3.below b (.inr (Nat.le_refl _))
  replace r_t3 := o_t3.row
  replace o_t4 := o_t4.below b (.inr (Nat.le_refl _))
  replace r_t4 := o_t4.row
  replace o_Z := o_Z.below b (.inr (Nat.le_refl _))
  replace r_Z := o_Z.row
  have s17 := b.size
  clear b
  go_wp2_with fail
  go_at_call 30
  go_call heldSoundingS_any as e w18 ⟨rfl, b⟩
  replace B := B.trans (b.mono (by have := B.size; omega))
  replace K := Lib.hid (K.out.belowSelf b)
  replace r0 := f0.below4 B (Nat.le_refl _)
  replace o_t1 := o_t1.below b (.inr (Nat.le_refl _))
  replace r_t1 := o_t1.row
  replace o_W := o_W.below b (.inr (Nat.le_refl _))
  replace r_W := o_W.row
  replace o_t2 := o_t2.below b (.inr (Nat.le_refl _))
  replace r_t2 := o_t2.row
  replace o_G := o_G.below b (.inr (Nat.le_refl _))
  replace r_G := o_G.row
  replace o_t3 := o_t3.below b (.inr (Nat.le_refl _))
  replace r_t3 := o_t3.row
  replace o_t4 := o_t4.below b (.inr (Nat.le_refl _))
  replace r_t4 := o_t4.row
  replace o_Z := o_Z.below b (.inr (Nat.le_refl _))
  replace r_Z := o_Z.row
  have s18 := b.size
  clear b
  go_wp2
  go_ret
  exact ⟨rfl, B⟩

end Go.Proofs.Ytnghlnaenjffaaa.fnExactCleanSoundings
