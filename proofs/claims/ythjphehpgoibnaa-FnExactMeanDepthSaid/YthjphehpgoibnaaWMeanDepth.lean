/- The walk of FnExactMeanDepth: it returns true and writes nothing that was there. -/
import Derived.Test.YthjphehpgoibnaaRows
import Derived.Test.YthjphehpgoibnaaMean
import Derived.Test.YthjphehpgoibnaaOpen
import Derived.WalkKit
import Derived.Handy
namespace Go.Proofs.Ythjphehpgoibnaa.fnExactMeanDepth
open Go.RowKit
set_option maxRecDepth 100000
set_option linter.unusedVariables false
set_option linter.unusedVariables false

set_option maxRecDepth 100000 in
set_option maxHeartbeats 3200000 in
theorem walk (s x y : Int) (a : Option Addr) (n c : Nat) (xs : List Int) (b : Option Addr) (m d : Nat) (ds : List (Int × Int)) (w : World) (_ : I64 s) (_ : I64 x) (_ : I64 y) (hA : Arr w a n xs) (hD : Arr2 w b m ds) :
    Calls Try.prog 6 #[.agg #[.int .i64 s, .int .i64 x, .int .i64 y, .slice a n c, .slice b m d]] w fun e w' => e = .returned (.bool true) ∧ Below w.heap.size w w' := by
  obtain ⟨hR, hn1, -⟩ := hA
  obtain ⟨hQ, hm1, -⟩ := hD
  have hG : (n : Int) ≤ 9223372036854775807 := by unfold maxLen at hn1; omega
  have hH : (m : Int) ≤ 9223372036854775807 := by unfold maxLen at hm1; omega
  have K := Lib.hid (Blk.new w 25 #[.int .i64 s, .int .i64 x, .int .i64 y, .slice a n c, .slice b m d])
  have B : Below w.heap.size w (w.alloc (.cells #[.int .i64 s, .int .i64 x, .int .i64 y, .slice a n c, .slice b m d] 25)) := (Below.refl _ _).alloc (Nat.le_refl _) _
  by_cases L : (1048576 : Int) - n - m < 0
  · have Z : szOf2 1048576 n m = -1 := by unfold szOf2; rw [if_pos L]
    go_enter Try.func6, Try.ntmps6
    go_wp2_with (go_at_call 10; refine (szDepthGrid_any _ _ _ _ _ _ _ _ _ _ _ (by omega) (by omega) hG hH).mono ?_; rintro e w' ⟨rfl, hb⟩)
    go_ret
    exact ⟨rfl, B.trans (hb.mono B.size)⟩
  have Z : szOf2 1048576 n m = 1048576 - n - m := by unfold szOf2; rw [if_neg L]
  have Z2 : ¬ szOf2 1048576 n m < 0 := by omega
  clear Z
  go_enter Try.func6, Try.ntmps6
  go_wp2_with fail
  go_at_call 10
  refine (szDepthGrid_any _ _ _ _ _ _ _ _ _ _ _ (by omega) (by omega) hG hH).mono ?_
  rintro e w1 ⟨rfl, b1⟩
  replace B := B.trans (b1.mono B.size)
  replace K := Lib.hid (K.out.belowSelf b1)
  have hs : w.heap.size < w1.heap.size := K.out.lt
  have hR1 := hR.below B (Nat.le_refl _)
  have hQ1 := hQ.below2 B (Nat.le_refl _)
  clear b1
  have k0 : w1.cell? ⟨w.heap.size, 0, none⟩ = some (.int .i64 s) := K.out.cell 0
  have k1 : w1.cell? ⟨w.heap.size, 1, none⟩ = some (.int .i64 x) := K.out.cell 1
  have k2 : w1.cell? ⟨w.heap.size, 2, none⟩ = some (.int .i64 y) := K.out.cell 2
  have k3 : w1.cell? ⟨w.heap.size, 3, none⟩ = some (.slice a n c) := K.out.cell 3
  have k4 : w1.cell? ⟨w.heap.size, 4, none⟩ = some (.slice b m d) := K.out.cell 4
  go_wp2_with fail
  go_at_call 12
  refine (toDepthGrid_any _ _ _ _ _ _ _ _ _ _ _ _ hR1 hQ1 (by omega) (by omega)).mono ?_
  rintro e w2 ⟨a1, c1, b1, d1, m1, rfl, o1, p1, -, hm12, b⟩
  replace B := B.trans (b.mono B.size)
  replace K := Lib.hid (K.out.belowSelf b)
  clear b k0 k1 k2 k3 k4 hR1 hQ1
  have r1 := o1.row
  have q1 := p1.row
  go_wp2_with fail
  go_at_call 19
  refine (meanDepth_spec _ _ _ _ _ _ _ _ _ _ _ _ r1 q1 (by omega) (by omega)).mono ?_
  rintro e w3 ⟨rfl, b⟩
  replace B := B.trans (b.mono B.size)
  replace K := Lib.hid (K.out.belowSelf b)
  have hs3 : w.heap.size < w3.heap.size := K.out.lt
  clear b r1 q1 o1 p1
  have B3 := B.alloc B.size (.cells #[.int .i64 (meanDepth s x y xs ds).1.1, .int .i64 (meanDepth s x y xs ds).1.2] 39)
  have hR3 := hR.below B3 (Nat.le_refl _)
  have hQ3 := hQ.below2 B3 (Nat.le_refl _)
  have k0 : w3.cell? ⟨w.heap.size, 0, none⟩ = some (.int .i64 s) := K.out.cell 0
  have k1 : w3.cell? ⟨w.heap.size, 1, none⟩ = some (.int .i64 x) := K.out.cell 1
  have k2 : w3.cell? ⟨w.heap.size, 2, none⟩ = some (.int .i64 y) := K.out.cell 2
  have k3 : w3.cell? ⟨w.heap.size, 3, none⟩ = some (.slice a n c) := K.out.cell 3
  have k4 : w3.cell? ⟨w.heap.size, 4, none⟩ = some (.slice b m d) := K.out.cell 4
  go_wp2_with fail
  go_at_call 12
  refine (toDepthGrid_any _ _ _ _ _ _ _ _ _ _ _ _ hR3 hQ3 (by omega) (by omega)).mono ?_
  rintro e w4 ⟨a2, c2, b2, d2, m2, rfl, o2, p2, hm20, hm21, b⟩
  replace B := B3.trans (b.mono B3.size)
  replace K := Lib.hid ((K.out.alloc (.cells #[.int .i64 (meanDepth s x y xs ds).1.1, .int .i64 (meanDepth s x y xs ds).1.2] 39)).belowSelf b)
  have JW := Lib.hid ((Blk.new w3 39 #[.int .i64 (meanDepth s x y xs ds).1.1, .int .i64 (meanDepth s x y xs ds).1.2]).belowSelf b)
  have hw34 := JW.out.lt
  clear b k0 k1 k2 k3 k4 hR3 hQ3 B3
  replace JW := Lib.hid (JW.out.alloc (.cells #[.int .i64 s, .int .i64 x, .int .i64 y, .slice a2 n c2, .slice b2 m d2] 30))
  have J := Lib.hid (Blk.new w4 30 #[.int .i64 s, .int .i64 x, .int .i64 y, .slice a2 n c2, .slice b2 m d2])
  replace o2 := o2.alloc (.cells #[.int .i64 s, .int .i64 x, .int .i64 y, .slice a2 n c2, .slice b2 m d2] 30)
  replace p2 := p2.alloc (.cells #[.int .i64 s, .int .i64 x, .int .i64 y, .slice a2 n c2, .slice b2 m d2] 30)
  replace B := B.alloc B.size (.cells #[.int .i64 s, .int .i64 x, .int .i64 y, .slice a2 n c2, .slice b2 m d2] 30)
  replace K := Lib.hid (K.out.alloc (.cells #[.int .i64 s, .int .i64 x, .int .i64 y, .slice a2 n c2, .slice b2 m d2] 30))
  have r4 := o2.row
  have q4 := p2.row
  go_wp2_with fail
  go_at_call 20
  refine (meanDepth_impl _ _ _ _ _ _ _ _ _ _ _ _ r4 q4 (by omega) (by omega)).mono ?_
  rintro e w5 ⟨rfl, b⟩
  replace B := B.trans (b.mono B.size)
  replace K := Lib.hid (K.out.belowSelf b)
  replace J := Lib.hid (J.out.belowSelf b)
  replace JW := Lib.hid (JW.out.belowSelf b)
  replace o2 := o2.below b (.inr (Nat.le_refl _))
  replace p2 := p2.below b (.inr (Nat.le_refl _))
  have u0 : w5.cell? ⟨w3.heap.size, 0, none⟩ = some (.int .i64 (meanDepth s x y xs ds).1.1) := JW.out.cell 0
  have u1 : w5.cell? ⟨w3.heap.size, 1, none⟩ = some (.int .i64 (meanDepth s x y xs ds).1.2) := JW.out.cell 1
  have hu5 := JW.out.lt
  clear b r4 q4
  go_wp2_with fail
  go_at_call 21
  refine (eqInterval_any _ _ _ _ _).mono ?_
  rintro e w5b ⟨rfl, b⟩
  rw [decide_eq_true rfl]
  replace B := (B.alloc B.size (.cells #[.int .i64 (meanDepth s x y xs ds).1.1, .int .i64 (meanDepth s x y xs ds).1.2] 39)).trans (b.mono (B.alloc B.size (.cells #[.int .i64 (meanDepth s x y xs ds).1.1, .int .i64 (meanDepth s x y xs ds).1.2] 39)).size)
  replace K := Lib.hid ((K.out.alloc (.cells #[.int .i64 (meanDepth s x y xs ds).1.1, .int .i64 (meanDepth s x y xs ds).1.2] 39)).belowSelf b)
  replace J := Lib.hid ((J.out.alloc (.cells #[.int .i64 (meanDepth s x y xs ds).1.1, .int .i64 (meanDepth s x y xs ds).1.2] 39)).belowSelf b)
  replace o2 := (o2.alloc (.cells #[.int .i64 (meanDepth s x y xs ds).1.1, .int .i64 (meanDepth s x y xs ds).1.2] 39)).below b (.inr (Nat.le_refl _))
  replace p2 := (p2.alloc (.cells #[.int .i64 (meanDepth s x y xs ds).1.1, .int .i64 (meanDepth s x y xs ds).1.2] 39)).below b (.inr (Nat.le_refl _))
  clear b u0 u1 JW
  have r5 := o2.row
  have q5 := p2.row
  have hR5 := hR.below B (Nat.le_refl _)
  have hQ5 := hQ.below2 B (Nat.le_refl _)
  have hs5 : w.heap.size < w5b.heap.size := K.out.lt
  have hs6 : w4.heap.size < w5b.heap.size := J.out.lt
  have k0 : w5b.cell? ⟨w.heap.size, 0, none⟩ = some (.int .i64 s) := K.out.cell 0
  have k1 : w5b.cell? ⟨w.heap.size, 1, none⟩ = some (.int .i64 x) := K.out.cell 1
  have k2 : w5b.cell? ⟨w.heap.size, 2, none⟩ = some (.int .i64 y) := K.out.cell 2
  have k3 : w5b.cell? ⟨w.heap.size, 3, none⟩ = some (.slice a n c) := K.out.cell 3
  have k4 : w5b.cell? ⟨w.heap.size, 4, none⟩ = some (.slice b m d) := K.out.cell 4
  have j0 : w5b.cell? ⟨w4.heap.size, 0, none⟩ = some (.int .i64 s) := J.out.cell 0
  have j1 : w5b.cell? ⟨w4.heap.size, 1, none⟩ = some (.int .i64 x) := J.out.cell 1
  have j2 : w5b.cell? ⟨w4.heap.size, 2, none⟩ = some (.int .i64 y) := J.out.cell 2
  have j3 : w5b.cell? ⟨w4.heap.size, 3, none⟩ = some (.slice a2 n c2) := J.out.cell 3
  have j4 : w5b.cell? ⟨w4.heap.size, 4, none⟩ = some (.slice b2 m d2) := J.out.cell 4
  go_wp2_with fail
  go_region_with (first | (go_at_call 12; refine (toDepthGrid_any _ _ _ _ _ _ _ _ _ _ _ _ (by exact hR5) (by exact hQ5) (by omega) (by omega)).mono ?_; rintro e w6 ⟨a3, c3, b3, d3, m3, rfl, o3, p3, -, -, b6⟩; have z0 := (b6.cell (p := ⟨w4.heap.size, 0, none⟩) hs6).trans j0; have z1 := (b6.cell (p := ⟨w4.heap.size, 1, none⟩) hs6).trans j1; have z2 := (b6.cell (p := ⟨w4.heap.size, 2, none⟩) hs6).trans j2; have z3 := (b6.cell (p := ⟨w4.heap.size, 3, none⟩) hs6).trans j3; have z4 := (b6.cell (p := ⟨w4.heap.size, 4, none⟩) hs6).trans j4; have r6 := r5.drew.below b6 (Nat.le_refl _); have q6 := q5.drew.below2 b6 (Nat.le_refl _)) | (go_at_call 14; refine (eqDepthGrid_any _ _ _ _ _ _ _ _ _ _ _ _ _ _ _ _ _ _ _ _ _ _ _ (by exact r6) (by exact q6) (by exact o3.row) (by exact p3.row) (by omega) (by omega) rfl rfl rfl rfl rfl).mono ?_; rintro e w7 ⟨rfl, b7⟩))
  all_goals
    go_wp2
    go_ret
    exact ⟨rfl, (B.drew.trans (b6.mono B.drew.size)).trans (b7.mono (B.drew.trans (b6.mono B.drew.size)).size)⟩

end Go.Proofs.Ythjphehpgoibnaa.fnExactMeanDepth
