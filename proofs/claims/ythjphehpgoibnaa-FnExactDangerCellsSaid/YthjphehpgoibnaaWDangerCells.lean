/- The walk of FnExactDangerCells: it returns true and writes nothing that was there. -/
import Derived.Test.YthjphehpgoibnaaRows
import Derived.Test.YthjphehpgoibnaaDanger
import Derived.Test.YthjphehpgoibnaaOpen
import Derived.WalkKit
import Derived.Handy
namespace Go.Proofs.Ythjphehpgoibnaa.fnExactDangerCells
open Go.RowKit
set_option maxRecDepth 100000
set_option linter.unusedVariables false
set_option linter.unusedVariables false

set_option maxRecDepth 100000 in
set_option maxHeartbeats 3200000 in
theorem walk (s x y : Int) (a : Option Addr) (n c : Nat) (xs : List Int) (b : Option Addr) (m d : Nat) (ds : List (Int × Int)) (z0 : Int) (w : World) (_ : I64 s) (_ : I64 x) (_ : I64 y) (hA : Arr w a n xs) (hD : Arr2 w b m ds) (i_z0 : I64 z0) :
    Calls Try.prog 7 #[.agg #[.int .i64 s, .int .i64 x, .int .i64 y, .slice a n c, .slice b m d], .int .i64 z0] w fun e w' => e = .returned (.bool true) ∧ Below w.heap.size w w' := by
  obtain ⟨hR, hn1, -⟩ := hA
  obtain ⟨hQ, hm1, -⟩ := hD
  have hG : (n : Int) ≤ 9223372036854775807 := by unfold maxLen at hn1; omega
  have hH : (m : Int) ≤ 9223372036854775807 := by unfold maxLen at hm1; omega
  have K := Lib.hid (Blk.new w 25 #[.int .i64 s, .int .i64 x, .int .i64 y, .slice a n c, .slice b m d])
  have B : Below w.heap.size w (w.alloc (.cells #[.int .i64 s, .int .i64 x, .int .i64 y, .slice a n c, .slice b m d] 25)) := (Below.refl _ _).alloc (Nat.le_refl _) _
  by_cases L : (1048576 : Int) - n - m < 0
  · have Z : szOf2 1048576 n m = -1 := by unfold szOf2; rw [if_pos L]
    go_enter Try.func7, Try.ntmps7
    go_wp2_with (go_at_call 10; refine (szDepthGrid_any _ _ _ _ _ _ _ _ _ _ _ (by omega) (by omega) hG hH).mono ?_; rintro e w' ⟨rfl, hb⟩)
    go_ret
    exact ⟨rfl, B.trans (hb.mono B.size)⟩
  have Z : szOf2 1048576 n m = 1048576 - n - m := by unfold szOf2; rw [if_neg L]
  have Z2 : ¬ szOf2 1048576 n m < 0 := by omega
  clear Z
  go_enter Try.func7, Try.ntmps7
  go_wp2_with fail
  go_at_call 10
  refine (szDepthGrid_any _ _ _ _ _ _ _ _ _ _ _ (by omega) (by omega) hG hH).mono ?_
  rintro e w1 ⟨rfl, b1⟩
  replace B := B.trans (b1.mono B.size)
  replace K := Lib.hid (K.out.belowSelf b1)
  have hs : w.heap.size < w1.heap.size := K.out.lt
  have hR1 := hR.below B (Nat.le_refl _)
  have hQ1 := hQ.below2 B (Nat.le_refl _)
  clear b1
  have k0 : w1.cell? ⟨w.heap.size, 0, none⟩ = some (.int .i64 s) := K.out.cell 0
  have k1 : w1.cell? ⟨w.heap.size, 1, none⟩ = some (.int .i64 x) := K.out.cell 1
  have k2 : w1.cell? ⟨w.heap.size, 2, none⟩ = some (.int .i64 y) := K.out.cell 2
  have k3 : w1.cell? ⟨w.heap.size, 3, none⟩ = some (.slice a n c) := K.out.cell 3
  have k4 : w1.cell? ⟨w.heap.size, 4, none⟩ = some (.slice b m d) := K.out.cell 4
  go_wp2_with fail
  go_at_call 12
  refine (toDepthGrid_any _ _ _ _ _ _ _ _ _ _ _ _ hR1 hQ1 (by omega) (by omega)).mono ?_
  rintro e w2 ⟨a1, c1, b1, d1, m1, rfl, o1, p1, -, hm12, b⟩
  replace B := B.trans (b.mono B.size)
  replace K := Lib.hid (K.out.belowSelf b)
  clear b k0 k1 k2 k3 k4 hR1 hQ1
  have r1 := o1.row
  have q1 := p1.row
  go_wp2_with fail
  go_at_call 22
  refine (dangerCells_spec _ _ _ _ _ _ _ _ _ _ _ _ _ r1 q1 (by omega) (by omega)).mono ?_
  rintro e w3 ⟨aW, nW, cW, rfl, oW, b⟩
  have lW : nW ≤ 1048576 := by have := oW.row.len; have := dangerCells_len s x y xs ds z0; omega
  replace B := B.trans (b.mono B.size)
  replace K := Lib.hid (K.out.belowSelf b)
  have hs3 : w.heap.size < w3.heap.size := K.out.lt
  clear b r1 q1 o1 p1
  have hR3 := hR.below B (Nat.le_refl _)
  have hQ3 := hQ.below2 B (Nat.le_refl _)
  have k0 : w3.cell? ⟨w.heap.size, 0, none⟩ = some (.int .i64 s) := K.out.cell 0
  have k1 : w3.cell? ⟨w.heap.size, 1, none⟩ = some (.int .i64 x) := K.out.cell 1
  have k2 : w3.cell? ⟨w.heap.size, 2, none⟩ = some (.int .i64 y) := K.out.cell 2
  have k3 : w3.cell? ⟨w.heap.size, 3, none⟩ = some (.slice a n c) := K.out.cell 3
  have k4 : w3.cell? ⟨w.heap.size, 4, none⟩ = some (.slice b m d) := K.out.cell 4
  go_wp2_with fail
  go_at_call 12
  refine (toDepthGrid_any _ _ _ _ _ _ _ _ _ _ _ _ hR3 hQ3 (by omega) (by omega)).mono ?_
  rintro e w4 ⟨a2, c2, b2, d2, m2, rfl, o2, p2, hm20, hm21, b⟩
  replace oW := (oW.below b (.inr (Nat.le_refl _))).alloc (.cells #[.int .i64 s, .int .i64 x, .int .i64 y, .slice a2 n c2, .slice b2 m d2] 30)
  replace B := B.trans (b.mono B.size)
  replace K := Lib.hid (K.out.belowSelf b)
  clear b k0 k1 k2 k3 k4 hR3 hQ3
  have J := Lib.hid (Blk.new w4 30 #[.int .i64 s, .int .i64 x, .int .i64 y, .slice a2 n c2, .slice b2 m d2])
  replace o2 := o2.alloc (.cells #[.int .i64 s, .int .i64 x, .int .i64 y, .slice a2 n c2, .slice b2 m d2] 30)
  replace p2 := p2.alloc (.cells #[.int .i64 s, .int .i64 x, .int .i64 y, .slice a2 n c2, .slice b2 m d2] 30)
  replace B := B.alloc B.size (.cells #[.int .i64 s, .int .i64 x, .int .i64 y, .slice a2 n c2, .slice b2 m d2] 30)
  replace K := Lib.hid (K.out.alloc (.cells #[.int .i64 s, .int .i64 x, .int .i64 y, .slice a2 n c2, .slice b2 m d2] 30))
  have r4 := o2.row
  have q4 := p2.row
  go_wp2_with fail
  go_at_call 23
  refine (dangerCells_impl _ _ _ _ _ _ _ _ _ _ _ _ _ r4 q4 (by omega) (by omega)).mono ?_
  rintro e w5 ⟨aG, nG, cG, rfl, oG, b⟩
  have lG : nG ≤ 1048576 := by have := oG.row.len; have := dangerCells_len s x y xs ds z0; omega
  replace oG := oG.mono (lo' := w4.heap.size) (by simp) (Nat.le_refl _)
  replace oW := oW.below b (.inr (Nat.le_refl _))
  have sz54 := b.size
  simp at sz54
  replace B := B.trans (b.mono B.size)
  replace K := Lib.hid (K.out.belowSelf b)
  replace J := Lib.hid (J.out.belowSelf b)
  replace o2 := o2.below b (.inr (Nat.le_refl _))
  replace p2 := p2.below b (.inr (Nat.le_refl _))
  clear b r4 q4
  have rW := oW.row
  have rG := oG.row
  go_wp2_with fail
  go_at_call 24
  refine (eqInt64S_any _ _ _ _ _ _ _ _ _ rG rW lG).mono ?_
  rintro e w5b ⟨rfl, b⟩
  rw [decide_eq_true rfl]
  replace B := B.trans (b.mono B.size)
  replace K := Lib.hid (K.out.belowSelf b)
  replace J := Lib.hid (J.out.belowSelf b)
  replace o2 := o2.below b (.inr (Nat.le_refl _))
  replace p2 := p2.below b (.inr (Nat.le_refl _))
  replace oW := oW.below b (.inr (Nat.le_refl _))
  replace oG := oG.below b (.inr (Nat.le_refl _))
  have szb := b.size
  clear b rW rG
  have r5 := o2.row
  have q5 := p2.row
  have hR5 := hR.below B (Nat.le_refl _)
  have hQ5 := hQ.below2 B (Nat.le_refl _)
  have hs5 : w.heap.size < w5b.heap.size := K.out.lt
  have hs6 : w4.heap.size < w5b.heap.size := J.out.lt
  have k0 : w5b.cell? ⟨w.heap.size, 0, none⟩ = some (.int .i64 s) := K.out.cell 0
  have k1 : w5b.cell? ⟨w.heap.size, 1, none⟩ = some (.int .i64 x) := K.out.cell 1
  have k2 : w5b.cell? ⟨w.heap.size, 2, none⟩ = some (.int .i64 y) := K.out.cell 2
  have k3 : w5b.cell? ⟨w.heap.size, 3, none⟩ = some (.slice a n c) := K.out.cell 3
  have k4 : w5b.cell? ⟨w.heap.size, 4, none⟩ = some (.slice b m d) := K.out.cell 4
  have j0 : w5b.cell? ⟨w4.heap.size, 0, none⟩ = some (.int .i64 s) := J.out.cell 0
  have j1 : w5b.cell? ⟨w4.heap.size, 1, none⟩ = some (.int .i64 x) := J.out.cell 1
  have j2 : w5b.cell? ⟨w4.heap.size, 2, none⟩ = some (.int .i64 y) := J.out.cell 2
  have j3 : w5b.cell? ⟨w4.heap.size, 3, none⟩ = some (.slice a2 n c2) := J.out.cell 3
  have j4 : w5b.cell? ⟨w4.heap.size, 4, none⟩ = some (.slice b2 m d2) := J.out.cell 4
  go_wp2_with fail
  go_region_with (first | (go_at_call 12; refine (toDepthGrid_any _ _ _ _ _ _ _ _ _ _ _ _ (by exact hR5) (by exact hQ5) (by omega) (by omega)).mono ?_; rintro e w6 ⟨a3, c3, b3, d3, m3, rfl, o3, p3, -, -, b6⟩; have z0 := (b6.cell (p := ⟨w4.heap.size, 0, none⟩) hs6).trans j0; have z1 := (b6.cell (p := ⟨w4.heap.size, 1, none⟩) hs6).trans j1; have z2 := (b6.cell (p := ⟨w4.heap.size, 2, none⟩) hs6).trans j2; have z3 := (b6.cell (p := ⟨w4.heap.size, 3, none⟩) hs6).trans j3; have z4 := (b6.cell (p := ⟨w4.heap.size, 4, none⟩) hs6).trans j4; have r6 := r5.drew.below b6 (Nat.le_refl _); have q6 := q5.drew.below2 b6 (Nat.le_refl _)) | (go_at_call 14; refine (eqDepthGrid_any _ _ _ _ _ _ _ _ _ _ _ _ _ _ _ _ _ _ _ _ _ _ _ (by exact r6) (by exact q6) (by exact o3.row) (by exact p3.row) (by omega) (by omega) rfl rfl rfl rfl rfl).mono ?_; rintro e w7 ⟨rfl, b7⟩))
  all_goals
    have B6 : Below w.heap.size w w6 := B.drew.trans (b6.mono B.drew.size)
    have B7 := B6.trans (b7.mono B6.size)
    have s67 := b7.size
    have s56 : w5b.heap.size ≤ w6.heap.size := by simpa using b6.size
    have K7 := Lib.hid ((K.out.drew.belowSelf b6).belowSelf b7)
    have J7 := Lib.hid ((J.out.drew.belowSelf b6).belowSelf b7)
    replace o2 := (o2.drew.below b6 (.inr (Nat.le_refl _))).below b7 (.inr (Nat.le_refl _))
    replace p2 := (p2.drew.below b6 (.inr (Nat.le_refl _))).below b7 (.inr (Nat.le_refl _))
    replace oW := (oW.drew.below b6 (.inr (Nat.le_refl _))).below b7 (.inr (Nat.le_refl _))
    replace oG := (oG.drew.below b6 (.inr (Nat.le_refl _))).below b7 (.inr (Nat.le_refl _))
    clear z0 z1 z2 z3 z4 j0 j1 j2 j3 j4 k0 k1 k2 k3 k4 r6 q6 r5 q5 hR5 hQ5 b6 b7 o3 p3 B6 B
    have j0 : w7.cell? ⟨w4.heap.size, 0, none⟩ = some (.int .i64 s) := J7.out.cell 0
    have j1 : w7.cell? ⟨w4.heap.size, 1, none⟩ = some (.int .i64 x) := J7.out.cell 1
    have j2 : w7.cell? ⟨w4.heap.size, 2, none⟩ = some (.int .i64 y) := J7.out.cell 2
    have j3 : w7.cell? ⟨w4.heap.size, 3, none⟩ = some (.slice a2 n c2) := J7.out.cell 3
    have j4 : w7.cell? ⟨w4.heap.size, 4, none⟩ = some (.slice b2 m d2) := J7.out.cell 4
    have hj7 := J7.out.lt
    go_wp2_with fail
    go_at_call 25
    refine (markDepthGrid_any _ _ _ _ _ _ _ _ _ _ _ _ _ _ _ _ o2 p2 (by omega) (by omega) (by omega) (by omega)).mono ?_
    rintro e w9 ⟨rfl, w8, hg1, hg2⟩
    have l2 := o2.lt
    have l3 := p2.lt
    have k2 := o2.lt
    have B9 : Below w.heap.size w w9 := ((B7.alloc B7.size (.cells #[.int .i64 s, .int .i64 x, .int .i64 y, .slice a2 n c2, .slice b2 m d2] 30)).grown hg1 (by simp; have := B7.size; omega) (fun g hg => by have := l2 g hg; omega)).grown hg2 (by have := hg1.size; simp at this; have := B7.size; omega) (fun g hg => by have := l3 g hg; omega)
    have K9 := Lib.hid (((K7.out.alloc (.cells #[.int .i64 s, .int .i64 x, .int .i64 y, .slice a2 n c2, .slice b2 m d2] 30)).grown hg1 (fun e => by have := l2 _ e.symm; omega)).grown hg2 (fun e => by have := l3 _ e.symm; omega))
    replace oW := ((oW.alloc (.cells #[.int .i64 s, .int .i64 x, .int .i64 y, .slice a2 n c2, .slice b2 m d2] 30)).apart hg1 (fun g hg => by have := l2 g hg; omega)).apart hg2 (fun g hg => by have := l3 g hg; omega)
    replace oG := ((oG.alloc (.cells #[.int .i64 s, .int .i64 x, .int .i64 y, .slice a2 n c2, .slice b2 m d2] 30)).apart hg1 (fun g hg => by have := l2 g hg; omega)).apart hg2 (fun g hg => by have := l3 g hg; omega)
    have s79 : w7.heap.size < w9.heap.size := by have := hg1.size; have := hg2.size; simp at *; omega
    clear hg1 hg2 j0 j1 j2 j3 j4 o2 p2 l2 l3 k2 B7 K7 J7
    have rW := oW.row
    have rG := oG.row
    go_wp2_with fail
    go_at_call 24
    refine (eqInt64S_any _ _ _ _ _ _ _ _ _ rG rW lG).mono ?_
    rintro e w10 ⟨rfl, b⟩
    rw [decide_eq_true rfl]
    have B10 := B9.trans (b.mono B9.size)
    have K10 := Lib.hid (K9.out.belowSelf b)
    replace oW := oW.below b (.inr (Nat.le_refl _))
    replace oG := oG.below b (.inr (Nat.le_refl _))
    have s10 := b.size
    clear b rW rG B9 K9
    go_wp2_with fail
    go_at_call 26
    refine (markInt64S_any _ _ _ _ _ _ _ _ oG lG (by omega) (by omega)).mono ?_
    rintro e w11 ⟨rfl, oG', hg⟩
    have lg := oG.lt
    have B11 := B10.grown hg (by omega) (fun g hg => by have := lg g hg; omega)
    have K11 := Lib.hid (K10.out.grown hg (fun e => by have := lg _ e.symm; omega))
    replace oW := oW.apart hg (fun g hg => by have := lg g hg; omega)
    have s11 := hg.size
    clear hg lg oG B10 K10
    have rG := oG'.row
    go_wp2_with fail
    go_at_call 27
    refine (heldInt64S_any _ _ _ _ _ rG lG (by omega) (by omega)).mono ?_
    rintro e w12 ⟨rfl, b⟩
    have B12 := B11.trans (b.mono B11.size)
    have K12 := Lib.hid (K11.out.belowSelf b)
    replace oW := oW.below b (.inr (Nat.le_refl _))
    replace oG' := oG'.below b (.inr (Nat.le_refl _))
    have s12 := b.size
    clear b rG B11 K11
    have hR12 := hR.below B12 (Nat.le_refl _)
    have hQ12 := hQ.below2 B12 (Nat.le_refl _)
    have k0 : w12.cell? ⟨w.heap.size, 0, none⟩ = some (.int .i64 s) := K12.out.cell 0
    have k1 : w12.cell? ⟨w.heap.size, 1, none⟩ = some (.int .i64 x) := K12.out.cell 1
    have k2 : w12.cell? ⟨w.heap.size, 2, none⟩ = some (.int .i64 y) := K12.out.cell 2
    have k3 : w12.cell? ⟨w.heap.size, 3, none⟩ = some (.slice a n c) := K12.out.cell 3
    have k4 : w12.cell? ⟨w.heap.size, 4, none⟩ = some (.slice b m d) := K12.out.cell 4
    have hk12 := K12.out.lt
    go_wp2_with fail
    go_at_call 12
    refine (toDepthGrid_any _ _ _ _ _ _ _ _ _ _ _ _ hR12 hQ12 (by omega) (by omega)).mono ?_
    rintro e w13 ⟨a4, c4, b4, d4, m4, rfl, o4, p4, -, hm42, b⟩
    have B13 := B12.trans (b.mono B12.size)
    replace oW := oW.below b (.inr (Nat.le_refl _))
    replace oG' := oG'.below b (.inr (Nat.le_refl _))
    have s13 := b.size
    clear b k0 k1 k2 k3 k4 hR12 hQ12 K12 B12
    have r4 := o4.row
    have q4 := p4.row
    go_wp2_with fail
    go_at_call 23
    refine (dangerCells_impl _ _ _ _ _ _ _ _ _ _ _ _ _ r4 q4 (by omega) (by omega)).mono ?_
    rintro e w14 ⟨aZ, nZ, cZ, rfl, oZ, b⟩
    have lZ : nZ ≤ 1048576 := by have := oZ.row.len; have := dangerCells_len s x y xs ds z0; omega
    have B14 := B13.trans (b.mono B13.size)
    replace oW := oW.below b (.inr (Nat.le_refl _))
    replace oG' := oG'.below b (.inr (Nat.le_refl _))
    have s14 := b.size
    clear b r4 q4 o4 p4 B13
    have rZ := oZ.row
    have rW := oW.row
    go_wp2_with fail
    go_at_call 24
    refine (eqInt64S_any _ _ _ _ _ _ _ _ _ rZ rW lZ).mono ?_
    rintro e w15 ⟨rfl, b⟩
    rw [decide_eq_true rfl]
    have B15 := B14.trans (b.mono B14.size)
    replace oG' := oG'.below b (.inr (Nat.le_refl _))
    clear b rZ rW oZ oW B14
    have rG := oG'.row
    go_wp2_with fail
    go_at_call 27
    refine (heldInt64S_any _ _ _ _ _ rG lG (by omega) (by omega)).mono ?_
    rintro e w16 ⟨rfl, b⟩
    have B16 := B15.trans (b.mono B15.size)
    clear b rG B15
    go_wp2
    go_ret
    exact ⟨rfl, B16⟩

end Go.Proofs.Ythjphehpgoibnaa.fnExactDangerCells
