/- The walk of FnExactFrameBits: it returns true and writes nothing that was there. -/
import Derived.Test.YtmljcbfpennjkaaRows
import Derived.Test.YtmljcbfpennjkaaFrameC
import Derived.WalkKit
import Derived.Handy
namespace Go.Proofs.Ytmljcbfpennjkaa.fnExactFrameBits
open Go.RowKit
set_option maxRecDepth 100000
set_option linter.unusedVariables false
set_option linter.unusedVariables false

set_option maxRecDepth 100000 in
set_option maxHeartbeats 3200000 in
theorem walk (k m : Int) (a : Option Addr) (n c : Nat) (xs : List Int) (w : World) (_ : I64 k) (_ : I64 m) (hA : Arr w a n xs) :
    Calls Try.prog 3 #[.agg #[.int .i64 k, .int .i64 m, .slice a n c]] w fun e w' => e = .returned (.bool true) ∧ Below w.heap.size w w' := by
  obtain ⟨hR, hm, -⟩ := hA
  have hG : (n : Int) ≤ 9223372036854775807 := by unfold maxLen at hm; omega
  have K := Lib.hid (Blk.new w 24 #[.int .i64 k, .int .i64 m, .slice a n c])
  have B : Below w.heap.size w (w.alloc (.cells #[.int .i64 k, .int .i64 m, .slice a n c] 24)) := (Below.refl _ _).alloc (Nat.le_refl _) _
  by_cases L : 1048576 < n
  · have Z := szOf_neg (l := 1048576) (n := n) (by omega)
    go_enter Try.func3, Try.ntmps3
    go_wp2_with (go_at_call 8; refine (szFrame_any _ _ _ _ _ _ _ (by omega) (by omega) hG).mono ?_; rintro e w' ⟨rfl, hb⟩)
    go_ret
    exact ⟨rfl, B.trans (hb.mono B.size)⟩
  have Z := szOf_pos (l := 1048576) (n := n) (by omega)
  go_enter Try.func3, Try.ntmps3
  go_wp2_with fail
  go_at_call 8
  refine (szFrame_any _ _ _ _ _ _ _ (by omega) (by omega) hG).mono ?_
  rintro e w1 ⟨rfl, b⟩
  replace B := B.trans (b.mono B.size)
  replace K := Lib.hid (K.out.belowSelf b)
  have hs : w.heap.size < w1.heap.size := K.out.lt
  have hR1 := hR.below B (Nat.le_refl _)
  clear b
  have k0 : w1.cell? ⟨w.heap.size, 0, none⟩ = some (.int .i64 k) := K.out.cell 0
  have k1 : w1.cell? ⟨w.heap.size, 1, none⟩ = some (.int .i64 m) := K.out.cell 1
  have k2 : w1.cell? ⟨w.heap.size, 2, none⟩ = some (.slice a n c) := K.out.cell 2
  go_wp2_with fail
  go_at_call 10
  refine (toFrame_any _ _ _ _ _ _ _ hR1 (by omega)).mono ?_
  rintro e w2 ⟨a1, c1, rfl, o1, b⟩
  replace B := B.trans (b.mono B.size)
  replace K := Lib.hid (K.out.belowSelf b)
  clear b k0 k1 k2 hR1
  have r1 := o1.row
  go_wp2_with fail
  go_at_call 9
  refine (frameBits_spec _ _ _ _ _ _ _ r1 (by omega)).mono ?_
  rintro e w3 ⟨aW, nW, cW, rfl, oW, b⟩
  have lW : nW ≤ 1048576 := by have := oW.row.len; have := frameBits_len k m xs; omega
  replace B := B.trans (b.mono B.size)
  replace K := Lib.hid (K.out.belowSelf b)
  have hs3 : w.heap.size < w3.heap.size := K.out.lt
  clear b r1 o1
  have hR3 := hR.below B (Nat.le_refl _)
  have k0 : w3.cell? ⟨w.heap.size, 0, none⟩ = some (.int .i64 k) := K.out.cell 0
  have k1 : w3.cell? ⟨w.heap.size, 1, none⟩ = some (.int .i64 m) := K.out.cell 1
  have k2 : w3.cell? ⟨w.heap.size, 2, none⟩ = some (.slice a n c) := K.out.cell 2
  go_wp2_with fail
  go_at_call 10
  refine (toFrame_any _ _ _ _ _ _ _ hR3 (by omega)).mono ?_
  rintro e w4 ⟨a2, c2, rfl, o2, b⟩
  replace oW := (oW.below b (.inr (Nat.le_refl _))).alloc (.cells #[.int .i64 k, .int .i64 m, .slice a2 n c2] 28)
  replace B := B.trans (b.mono B.size)
  replace K := Lib.hid (K.out.belowSelf b)
  have s34 := b.size
  clear b k0 k1 k2 hR3
  have J := Lib.hid (Blk.new w4 28 #[.int .i64 k, .int .i64 m, .slice a2 n c2])
  replace o2 := o2.alloc (.cells #[.int .i64 k, .int .i64 m, .slice a2 n c2] 28)
  replace B := B.alloc B.size (.cells #[.int .i64 k, .int .i64 m, .slice a2 n c2] 28)
  replace K := Lib.hid (K.out.alloc (.cells #[.int .i64 k, .int .i64 m, .slice a2 n c2] 28))
  have r4 := o2.row
  go_wp2_with fail
  go_at_call 11
  refine (frameBits_impl _ _ _ _ _ _ _ r4 (by omega)).mono ?_
  rintro e w5 ⟨aG, nG, cG, rfl, oG, b⟩
  have lG : nG ≤ 1048576 := by have := oG.row.len; have := frameBits_len k m xs; omega
  replace oG := oG.mono (lo' := w4.heap.size + 1) (by simp) (Nat.le_refl _)
  replace oW := oW.below b (.inr (Nat.le_refl _))
  have sz54 := b.size
  simp at sz54
  replace B := B.trans (b.mono B.size)
  replace K := Lib.hid (K.out.belowSelf b)
  replace J := Lib.hid (J.out.belowSelf b)
  replace o2 := o2.below b (.inr (Nat.le_refl _))
  clear b r4
  have rW := oW.row
  have rG := oG.row
  go_wp2_with fail
  go_at_call 12
  refine (eqInt64S_any _ _ _ _ _ _ _ _ _ rG rW lG).mono ?_
  rintro e w5b ⟨rfl, b⟩
  rw [decide_eq_true rfl]
  replace B := B.trans (b.mono B.size)
  replace K := Lib.hid (K.out.belowSelf b)
  replace J := Lib.hid (J.out.belowSelf b)
  replace o2 := o2.below b (.inr (Nat.le_refl _))
  replace oW := oW.below b (.inr (Nat.le_refl _))
  replace oG := oG.below b (.inr (Nat.le_refl _))
  have szb := b.size
  clear b rW rG
  have r5 := o2.row
  have hR5 := hR.below B (Nat.le_refl _)
  have hs5 : w.heap.size < w5b.heap.size := K.out.lt
  have hs6 : w4.heap.size < w5b.heap.size := J.out.lt
  have k0 : w5b.cell? ⟨w.heap.size, 0, none⟩ = some (.int .i64 k) := K.out.cell 0
  have k1 : w5b.cell? ⟨w.heap.size, 1, none⟩ = some (.int .i64 m) := K.out.cell 1
  have k2 : w5b.cell? ⟨w.heap.size, 2, none⟩ = some (.slice a n c) := K.out.cell 2
  have j0 : w5b.cell? ⟨w4.heap.size, 0, none⟩ = some (.int .i64 k) := J.out.cell 0
  have j1 : w5b.cell? ⟨w4.heap.size, 1, none⟩ = some (.int .i64 m) := J.out.cell 1
  have j2 : w5b.cell? ⟨w4.heap.size, 2, none⟩ = some (.slice a2 n c2) := J.out.cell 2
  go_wp2_with fail
  go_region_with (first | (go_at_call 10; refine (toFrame_any _ _ _ _ _ _ _ (by exact hR5) (by omega)).mono ?_; rintro e w6 ⟨a3, c3, rfl, o3, b6⟩; have z0 := (b6.cell (p := ⟨w4.heap.size, 0, none⟩) hs6).trans j0; have z1 := (b6.cell (p := ⟨w4.heap.size, 1, none⟩) hs6).trans j1; have z2 := (b6.cell (p := ⟨w4.heap.size, 2, none⟩) hs6).trans j2; have r6 := r5.drew.below b6 (Nat.le_refl _); have r7 := o3.row) | (go_at_call 13; refine (eqFrame_any _ _ _ _ _ _ _ _ _ _ xs xs _ (by exact r6) (by exact r7) (by omega)).mono ?_; rintro e w7 ⟨rfl, b7⟩))
  all_goals
    have B6 : Below w.heap.size w w6 := B.drew.trans (b6.mono B.drew.size)
    have B7 := B6.trans (b7.mono B6.size)
    have s67 := b7.size
    have s56 : w5b.heap.size ≤ w6.heap.size := by simpa using b6.size
    have K7 := Lib.hid ((K.out.drew.belowSelf b6).belowSelf b7)
    have J7 := Lib.hid ((J.out.drew.belowSelf b6).belowSelf b7)
    replace o2 := (o2.drew.below b6 (.inr (Nat.le_refl _))).below b7 (.inr (Nat.le_refl _))
    replace oW := (oW.drew.below b6 (.inr (Nat.le_refl _))).below b7 (.inr (Nat.le_refl _))
    replace oG := (oG.drew.below b6 (.inr (Nat.le_refl _))).below b7 (.inr (Nat.le_refl _))
    clear z0 z1 z2 j0 j1 j2 k0 k1 k2 r6 r7 r5 hR5 b6 b7 o3 B6 B
    have j0 : w7.cell? ⟨w4.heap.size, 0, none⟩ = some (.int .i64 k) := J7.out.cell 0
    have j1 : w7.cell? ⟨w4.heap.size, 1, none⟩ = some (.int .i64 m) := J7.out.cell 1
    have j2 : w7.cell? ⟨w4.heap.size, 2, none⟩ = some (.slice a2 n c2) := J7.out.cell 2
    have hj7 := J7.out.lt
    go_wp2_with fail
    go_at_call 14
    refine (markFrame_any _ _ _ _ _ _ _ _ _ _ o2 (by omega) (by omega) (by omega)).mono ?_
    rintro e w9 ⟨rfl, -, hg1⟩
    have l2 := o2.lt
    have B9 : Below w.heap.size w w9 := (B7.alloc B7.size (.cells #[.int .i64 k, .int .i64 m, .slice a2 n c2] 28)).grown hg1 (by simp; have := B7.size; omega) (fun g hg => by have := l2 g hg; omega)
    have K9 := Lib.hid ((K7.out.alloc (.cells #[.int .i64 k, .int .i64 m, .slice a2 n c2] 28)).grown hg1 (fun e => by have := l2 _ e.symm; omega))
    replace oW := (oW.alloc (.cells #[.int .i64 k, .int .i64 m, .slice a2 n c2] 28)).apart hg1 (fun g hg => by have := l2 g hg; omega)
    replace oG := (oG.alloc (.cells #[.int .i64 k, .int .i64 m, .slice a2 n c2] 28)).apart hg1 (fun g hg => by have := l2 g hg; omega)
    have s79 : w7.heap.size < w9.heap.size := by have := hg1.size; simp at *; omega
    clear hg1 j0 j1 j2 o2 l2 B7 K7 J7
    have rW := oW.row
    have rG := oG.row
    go_wp2_with fail
    go_at_call 12
    refine (eqInt64S_any _ _ _ _ _ _ _ _ _ rG rW lG).mono ?_
    rintro e w10 ⟨rfl, b⟩
    rw [decide_eq_true rfl]
    have B10 := B9.trans (b.mono B9.size)
    have K10 := Lib.hid (K9.out.belowSelf b)
    replace oW := oW.below b (.inr (Nat.le_refl _))
    replace oG := oG.below b (.inr (Nat.le_refl _))
    have s10 := b.size
    clear b rW rG B9 K9
    go_wp2_with fail
    go_at_call 15
    refine (markInt64S_any _ _ _ _ _ _ _ _ oG lG (by omega) (by omega)).mono ?_
    rintro e w11 ⟨rfl, oG', hg⟩
    have lg := oG.lt
    have B11 := B10.grown hg (by omega) (fun g hg => by have := lg g hg; omega)
    have K11 := Lib.hid (K10.out.grown hg (fun e => by have := lg _ e.symm; omega))
    replace oW := oW.apart hg (fun g hg => by have := lg g hg; omega)
    have s11 := hg.size
    clear hg lg oG B10 K10
    have rG := oG'.row
    go_wp2_with fail
    go_at_call 16
    refine (heldInt64S_any _ _ _ _ _ rG lG (by omega) (by omega)).mono ?_
    rintro e w12 ⟨rfl, b⟩
    have B12 := B11.trans (b.mono B11.size)
    have K := Lib.hid (K11.out.belowSelf b)
    replace oW := oW.below b (.inr (Nat.le_refl _))
    replace oG' := oG'.below b (.inr (Nat.le_refl _))
    have s12 := b.size
    clear b rG B11 K11
    have hR12 := hR.below B12 (Nat.le_refl _)
    have k0 : w12.cell? ⟨w.heap.size, 0, none⟩ = some (.int .i64 k) := K.out.cell 0
    have k1 : w12.cell? ⟨w.heap.size, 1, none⟩ = some (.int .i64 m) := K.out.cell 1
    have k2 : w12.cell? ⟨w.heap.size, 2, none⟩ = some (.slice a n c) := K.out.cell 2
    have hk12 := K.out.lt
    go_wp2_with fail
    go_at_call 10
    refine (toFrame_any _ _ _ _ _ _ _ hR12 (by omega)).mono ?_
    rintro e w13 ⟨a4, c4, rfl, o4, b⟩
    have B13 := B12.trans (b.mono B12.size)
    replace oW := oW.below b (.inr (Nat.le_refl _))
    replace oG' := oG'.below b (.inr (Nat.le_refl _))
    have s13 := b.size
    clear b k0 k1 k2 hR12 K B12
    have r4 := o4.row
    go_wp2_with fail
    go_at_call 11
    refine (frameBits_impl _ _ _ _ _ _ _ r4 (by omega)).mono ?_
    rintro e w14 ⟨aZ, nZ, cZ, rfl, oZ, b⟩
    have lZ : nZ ≤ 1048576 := by have := oZ.row.len; have := frameBits_len k m xs; omega
    have B14 := B13.trans (b.mono B13.size)
    replace oW := oW.below b (.inr (Nat.le_refl _))
    replace oG' := oG'.below b (.inr (Nat.le_refl _))
    have s14 := b.size
    clear b r4 o4 B13
    have rZ := oZ.row
    have rW := oW.row
    go_wp2_with fail
    go_at_call 12
    refine (eqInt64S_any _ _ _ _ _ _ _ _ _ rZ rW lZ).mono ?_
    rintro e w15 ⟨rfl, b⟩
    rw [decide_eq_true rfl]
    have B15 := B14.trans (b.mono B14.size)
    replace oG' := oG'.below b (.inr (Nat.le_refl _))
    clear b rZ rW oZ oW B14
    have rG := oG'.row
    go_wp2_with fail
    go_at_call 16
    refine (heldInt64S_any _ _ _ _ _ rG lG (by omega) (by omega)).mono ?_
    rintro e w16 ⟨rfl, b⟩
    have B16 := B15.trans (b.mono B15.size)
    clear b rG B15
    go_wp2
    go_ret
    exact ⟨rfl, B16⟩

end Go.Proofs.Ytmljcbfpennjkaa.fnExactFrameBits
