/- The walk of FnExactIsFrame: it returns true and writes nothing that was there. -/
import Derived.Test.YtnfopbdpnnhicaaRows
import Derived.Test.YtnfopbdpnnhicaaFrame
import Derived.WalkKit
import Derived.Handy
namespace Go.Proofs.Ytnfopbdpnnhicaa.fnExactIsFrame
open Go.RowKit
set_option linter.unusedVariables false

set_option maxRecDepth 100000 in
set_option maxHeartbeats 1600000 in
theorem walk (k m : Int) (a : Option Addr) (n c : Nat) (xs : List Int) (w : World) (_ : I64 k) (_ : I64 m) (hA : Arr w a n xs) :
    Calls Try.prog 13 #[.agg #[.int .i64 k, .int .i64 m, .slice a n c]] w fun e w' => e = .returned (.bool true) ∧ Below w.heap.size w w' := by
  obtain ⟨hR, hm, -⟩ := hA
  have hG : (n : Int) ≤ 9223372036854775807 := by unfold maxLen at hm; omega
  have K := Lib.hid (Blk.new w 50 #[.int .i64 k, .int .i64 m, .slice a n c])
  have B : Below w.heap.size w (w.alloc (.cells #[.int .i64 k, .int .i64 m, .slice a n c] 50)) := (Below.refl _ _).alloc (Nat.le_refl _) _
  by_cases L : 1048576 < n
  · have Z := szOf_neg (l := 1048576) (n := n) (by omega)
    go_enter Try.func13, Try.ntmps13
    go_wp2_with (go_at_call 43; refine (szFrame_any _ _ _ _ _ _ _ (by omega) (by omega) hG).mono ?_; rintro e w' ⟨rfl, hb⟩)
    go_ret
    exact ⟨rfl, B.trans (hb.mono B.size)⟩
  have Z := szOf_pos (l := 1048576) (n := n) (by omega)
  go_enter Try.func13, Try.ntmps13
  go_wp2_with fail
  go_at_call 43
  refine (szFrame_any _ _ _ _ _ _ _ (by omega) (by omega) hG).mono ?_
  rintro e w1 ⟨rfl, b⟩
  replace B := B.trans (b.mono B.size)
  replace K := Lib.hid (K.out.belowSelf b)
  have hs : w.heap.size < w1.heap.size := K.out.lt
  have hR1 := hR.below B (Nat.le_refl _)
  clear b
  have k0 : w1.cell? ⟨w.heap.size, 0, none⟩ = some (.int .i64 k) := K.out.cell 0
  have k1 : w1.cell? ⟨w.heap.size, 1, none⟩ = some (.int .i64 m) := K.out.cell 1
  have k2 : w1.cell? ⟨w.heap.size, 2, none⟩ = some (.slice a n c) := K.out.cell 2
  go_wp2_with fail
  go_at_call 45
  refine (toFrame_any _ _ _ _ _ _ _ hR1 (by omega)).mono ?_
  rintro e w2 ⟨a1, c1, rfl, o1, b⟩
  replace B := B.trans (b.mono B.size)
  replace K := Lib.hid (K.out.belowSelf b)
  clear b k0 k1 k2 hR1
  have r1 := o1.row
  go_wp2_with fail
  go_at_call 44
  refine (isFrame_spec _ _ _ _ _ _ _ r1 (by omega)).mono ?_
  rintro e w3 ⟨rfl, b⟩
  replace B := B.trans (b.mono B.size)
  replace K := Lib.hid (K.out.belowSelf b)
  clear b r1 o1
  have hR3 := hR.below B (Nat.le_refl _)
  have k0 : w3.cell? ⟨w.heap.size, 0, none⟩ = some (.int .i64 k) := K.out.cell 0
  have k1 : w3.cell? ⟨w.heap.size, 1, none⟩ = some (.int .i64 m) := K.out.cell 1
  have k2 : w3.cell? ⟨w.heap.size, 2, none⟩ = some (.slice a n c) := K.out.cell 2
  go_wp2_with fail
  go_at_call 45
  refine (toFrame_any _ _ _ _ _ _ _ hR3 (by omega)).mono ?_
  rintro e w4 ⟨a2, c2, rfl, o2, b⟩
  replace B := B.trans (b.mono B.size)
  replace K := Lib.hid (K.out.belowSelf b)
  clear b k0 k1 k2 hR3
  have J := Lib.hid (Blk.new w4 53 #[.int .i64 k, .int .i64 m, .slice a2 n c2])
  have r4 := (o2.alloc (.cells #[.int .i64 k, .int .i64 m, .slice a2 n c2] 53)).row
  replace o2 := o2.alloc (.cells #[.int .i64 k, .int .i64 m, .slice a2 n c2] 53)
  replace B := B.alloc B.size (.cells #[.int .i64 k, .int .i64 m, .slice a2 n c2] 53)
  replace K := Lib.hid (K.out.alloc (.cells #[.int .i64 k, .int .i64 m, .slice a2 n c2] 53))
  go_wp2_with fail
  go_at_call 46
  refine (isFrame_impl _ _ _ _ _ _ _ r4 (by omega)).mono ?_
  rintro e w5 ⟨rfl, b⟩
  replace B := B.trans (b.mono B.size)
  replace K := Lib.hid (K.out.belowSelf b)
  replace J := Lib.hid (J.out.belowSelf b)
  replace o2 := o2.below b (.inr (Nat.le_refl _))
  have r5 := o2.row
  have hR5 := hR.below B (Nat.le_refl _)
  have hs5 : w.heap.size < w5.heap.size := K.out.lt
  have hs6 : w4.heap.size < w5.heap.size := J.out.lt
  clear b r4
  have k0 : w5.cell? ⟨w.heap.size, 0, none⟩ = some (.int .i64 k) := K.out.cell 0
  have k1 : w5.cell? ⟨w.heap.size, 1, none⟩ = some (.int .i64 m) := K.out.cell 1
  have k2 : w5.cell? ⟨w.heap.size, 2, none⟩ = some (.slice a n c) := K.out.cell 2
  have j0 : w5.cell? ⟨w4.heap.size, 0, none⟩ = some (.int .i64 k) := J.out.cell 0
  have j1 : w5.cell? ⟨w4.heap.size, 1, none⟩ = some (.int .i64 m) := J.out.cell 1
  have j2 : w5.cell? ⟨w4.heap.size, 2, none⟩ = some (.slice a2 n c2) := J.out.cell 2
  go_wp2_with fail
  go_region_with (first | (go_at_call 45; refine (toFrame_any _ _ _ _ _ _ _ (by exact hR5) (by omega)).mono ?_; rintro e w6 ⟨a3, c3, rfl, o3, b6⟩; have z0 := (b6.cell (p := ⟨w4.heap.size, 0, none⟩) hs6).trans j0; have z1 := (b6.cell (p := ⟨w4.heap.size, 1, none⟩) hs6).trans j1; have z2 := (b6.cell (p := ⟨w4.heap.size, 2, none⟩) hs6).trans j2; have r6 := (o2.drew.below b6 (.inr (Nat.le_refl _))).row; have r7 := o3.row) | (go_at_call 47; refine (eqFrame_any _ _ _ _ _ _ _ _ _ _ xs xs _ (by exact r6) (by exact r7) (by omega)).mono ?_; rintro e w7 ⟨rfl, b7⟩))
  all_goals
    go_wp2
    go_ret
    exact ⟨rfl, (B.drew.trans (b6.mono B.drew.size)).trans (b7.mono (B.drew.trans (b6.mono B.drew.size)).size)⟩

end Go.Proofs.Ytnfopbdpnnhicaa.fnExactIsFrame
