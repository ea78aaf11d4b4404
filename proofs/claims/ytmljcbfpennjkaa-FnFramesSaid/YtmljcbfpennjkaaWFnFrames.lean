/- The walk of FnFrames: it returns true and writes nothing that was there. -/
import Derived.Test.YtmljcbfpennjkaaRows
import Derived.Test.YtmljcbfpennjkaaPFrLaw
import Derived.Test.YtmljcbfpennjkaaLikeF
import Derived.Test.YtmljcbfpennjkaaReadF
import Derived.Test.YtmljcbfpennjkaaFrameC
import Derived.Test.YtmljcbfpennjkaaOpenY
import Derived.WalkKit
import Derived.Handy
namespace Go.Proofs.Ytmljcbfpennjkaa.fnFrames
open Go.RowKit
set_option maxRecDepth 100000
set_option linter.unusedVariables false
set_option linter.unusedVariables false
set_option linter.unusedSimpArgs false

set_option maxRecDepth 100000 in
set_option maxHeartbeats 25600000 in
theorem walk (a0 : Option Addr) (n0 c0 : Nat) (bs : List Nat) (w : World) (f0 : Bytes w a0 n0 bs) :
    Calls Try.prog 6 #[.slice a0 n0 c0] w fun e w' => e = .returned (.bool true) ∧ Below w.heap.size w w' := by
  by_cases hbig : (4096 : Int) < (n0 : Int)
  · go_enter Try.func6, Try.ntmps6
    go_wp2_with (go_at_call 26; refine (big_any _ _ _ _ f0.2.1).mono ?_; rintro e w' ⟨rfl, rfl⟩)
    go_ret
    exact ⟨rfl, Below.refl _ _⟩
  have HC := Lib.hid (f0.code (by omega))
  have hbg := f0.2.1
  clear f0
  go_enter Try.func6, Try.ntmps6
  go_wp2_with (go_at_call 26; refine (big_any _ _ _ _ hbg).mono ?_; rintro e w' ⟨rfl, rfl⟩)
  clear hbig hbg
  have B := Below.refl w.heap.size w
  go_at_call 27
  refine (drawFrameBits_any _ _ _ _ _ (HC.out.below B (Nat.le_refl _))).mono ?_
  intro e w1 hd
  obtain ⟨k, m, aF, nF, cF, fs, rfl, rF, hF, hb⟩ := hd
  replace B := B.trans (hb.mono B.size)
  clear hb
  obtain ⟨XK, hXK⟩ : ∃ X, w1.heap.size = X := ⟨_, rfl⟩
  replace B := B.alloc B.size (.cells #[.int .i64 k, .int .i64 m, .slice aF nF cF] 28)
  replace rF := rF.alloc (.cells #[.int .i64 k, .int .i64 m, .slice aF nF cF] 28)
  have K := Lib.hid (Blk.new' w1 28 #[.int .i64 k, .int .i64 m, .slice aF nF cF] (g := XK) hXK.symm)
  go_wp2_with fail
  go_at_call 11
  refine (frameBits_impl _ _ _ _ _ _ _ rF (by omega)).mono ?_
  rintro e w2 ⟨a_A, n_A, c_A, rfl, o_A, hb⟩
  replace B := B.trans (hb.mono B.size)
  replace rF := rF.below hb (Nat.le_refl _)
  replace K := Lib.hid (K.out.belowSelf hb)
  have r_A := o_A.row
  have cp_A := Lib.hid (ocap o_A)
  clear hb o_A
  clear hXK
  have q0 : w2.cell? ⟨XK, 0, none⟩ = some (.int .i64 k) := K.out.cell 0
  have q1 : w2.cell? ⟨XK, 1, none⟩ = some (.int .i64 m) := K.out.cell 1
  have q2 : w2.cell? ⟨XK, 2, none⟩ = some (.slice aF nF cF) := K.out.cell 2
  go_wp2_with fail
  go_at_call 9
  refine (frameBits_spec _ _ _ _ _ _ _ rF (by omega)).mono ?_
  rintro e w3 ⟨a_M, n_M, c_M, rfl, o_M, hb⟩
  replace B := B.trans (hb.mono B.size)
  replace rF := rF.below hb (Nat.le_refl _)
  replace K := Lib.hid (K.out.belowSelf hb)
  replace r_A := r_A.below hb (Nat.le_refl _)
  have r_M := o_M.row
  clear hb o_M
  clear q0 q1 q2
  obtain rfl : n_M = n_A := by have := r_A.len; have := r_M.len; omega
  have hnM : n_M ≤ 464 := by have := r_M.len; have := frameBits_len k m fs; omega
  go_wp2_with fail
  go_at_call 28
  refine (drawReadFrame_any _ _ _ _ _ (HC.out.below B (Nat.le_refl _))).mono ?_
  intro e w4 hd
  obtain ⟨aB, nB, cB, bits, rfl, rB, hB, hB2, hB3, hb⟩ := hd
  replace B := B.trans (hb.mono B.size)
  replace rF := rF.below hb (Nat.le_refl _)
  replace K := Lib.hid (K.out.belowSelf hb)
  replace r_A := r_A.below hb (Nat.le_refl _)
  replace r_M := r_M.below hb (Nat.le_refl _)
  clear hb
  go_wp2_with fail
  go_at_call 19
  refine (readFrame_impl _ _ _ _ _ rB (by omega) hB2 hB3).mono ?_
  intro e w5 hd
  obtain ⟨a_X, n_X, c_X, rfl, o_X, hb⟩ := hd
  replace B := B.trans (hb.mono B.size)
  replace rF := rF.below hb (Nat.le_refl _)
  replace K := Lib.hid (K.out.belowSelf hb)
  replace r_A := r_A.below hb (Nat.le_refl _)
  replace r_M := r_M.below hb (Nat.le_refl _)
  replace rB := rB.below hb (Nat.le_refl _)
  have r_X := o_X.row
  clear hb o_X
  obtain ⟨XK2, hXK2⟩ : ∃ X, w5.heap.size = X := ⟨_, rfl⟩
  replace B := B.alloc B.size (.cells #[.int .i64 (readFrame bits).1.1, .int .i64 (readFrame bits).1.2.1, .slice a_X n_X c_X] 28)
  replace rF := rF.alloc (.cells #[.int .i64 (readFrame bits).1.1, .int .i64 (readFrame bits).1.2.1, .slice a_X n_X c_X] 28)
  replace K := Lib.hid (K.out.alloc (.cells #[.int .i64 (readFrame bits).1.1, .int .i64 (readFrame bits).1.2.1, .slice a_X n_X c_X] 28))
  replace r_A := r_A.alloc (.cells #[.int .i64 (readFrame bits).1.1, .int .i64 (readFrame bits).1.2.1, .slice a_X n_X c_X] 28)
  replace r_M := r_M.alloc (.cells #[.int .i64 (readFrame bits).1.1, .int .i64 (readFrame bits).1.2.1, .slice a_X n_X c_X] 28)
  replace rB := rB.alloc (.cells #[.int .i64 (readFrame bits).1.1, .int .i64 (readFrame bits).1.2.1, .slice a_X n_X c_X] 28)
  replace r_X := r_X.alloc (.cells #[.int .i64 (readFrame bits).1.1, .int .i64 (readFrame bits).1.2.1, .slice a_X n_X c_X] 28)
  have K2 := Lib.hid (Blk.new' w5 28 #[.int .i64 (readFrame bits).1.1, .int .i64 (readFrame bits).1.2.1, .slice a_X n_X c_X] (g := XK2) hXK2.symm)
  go_wp2_with fail
  go_at_call 17
  refine (readFrame_spec _ _ _ _ _ rB (by omega) hB2 hB3).mono ?_
  intro e w6 hd
  obtain ⟨a_Y, n_Y, c_Y, rfl, o_Y, hb⟩ := hd
  replace B := B.trans (hb.mono B.size)
  replace rF := rF.below hb (Nat.le_refl _)
  replace K := Lib.hid (K.out.belowSelf hb)
  replace r_A := r_A.below hb (Nat.le_refl _)
  replace r_M := r_M.below hb (Nat.le_refl _)
  replace rB := rB.below hb (Nat.le_refl _)
  replace r_X := r_X.below hb (Nat.le_refl _)
  replace K2 := Lib.hid (K2.out.belowSelf hb)
  have r_Y := o_Y.row
  clear hb o_Y
  clear hXK2
  obtain rfl : n_Y = n_X := by have := r_X.len; have := r_Y.len; omega
  have hnY : n_Y ≤ 24 := by have := r_Y.len; have := readFrame_len bits; omega
  obtain ⟨XK3, hXK3⟩ : ∃ X, w6.heap.size = X := ⟨_, rfl⟩
  replace B := B.alloc B.size (.cells #[.int .i64 (readFrame bits).1.1, .int .i64 (readFrame bits).1.2.1, .slice a_Y n_Y c_Y] 28)
  replace rF := rF.alloc (.cells #[.int .i64 (readFrame bits).1.1, .int .i64 (readFrame bits).1.2.1, .slice a_Y n_Y c_Y] 28)
  replace K := Lib.hid (K.out.alloc (.cells #[.int .i64 (readFrame bits).1.1, .int .i64 (readFrame bits).1.2.1, .slice a_Y n_Y c_Y] 28))
  replace r_A := r_A.alloc (.cells #[.int .i64 (readFrame bits).1.1, .int .i64 (readFrame bits).1.2.1, .slice a_Y n_Y c_Y] 28)
  replace r_M := r_M.alloc (.cells #[.int .i64 (readFrame bits).1.1, .int .i64 (readFrame bits).1.2.1, .slice a_Y n_Y c_Y] 28)
  replace rB := rB.alloc (.cells #[.int .i64 (readFrame bits).1.1, .int .i64 (readFrame bits).1.2.1, .slice a_Y n_Y c_Y] 28)
  replace r_X := r_X.alloc (.cells #[.int .i64 (readFrame bits).1.1, .int .i64 (readFrame bits).1.2.1, .slice a_Y n_Y c_Y] 28)
  replace K2 := Lib.hid (K2.out.alloc (.cells #[.int .i64 (readFrame bits).1.1, .int .i64 (readFrame bits).1.2.1, .slice a_Y n_Y c_Y] 28))
  replace r_Y := r_Y.alloc (.cells #[.int .i64 (readFrame bits).1.1, .int .i64 (readFrame bits).1.2.1, .slice a_Y n_Y c_Y] 28)
  have K3 := Lib.hid (Blk.new' w6 28 #[.int .i64 (readFrame bits).1.1, .int .i64 (readFrame bits).1.2.1, .slice a_Y n_Y c_Y] (g := XK3) hXK3.symm)
  go_wp2_with fail
  go_at_call 29
  refine (drawFrameCheck_any _ _ _ _ _ (HC.out.below B (Nat.le_refl _))).mono ?_
  intro e w7 hd
  obtain ⟨aC, nC, cC, cs, rfl, rC, hC, hC2, hC3, hb⟩ := hd
  replace B := B.trans (hb.mono B.size)
  replace rF := rF.below hb (Nat.le_refl _)
  replace K := Lib.hid (K.out.belowSelf hb)
  replace r_A := r_A.below hb (Nat.le_refl _)
  replace r_M := r_M.below hb (Nat.le_refl _)
  replace rB := rB.below hb (Nat.le_refl _)
  replace r_X := r_X.below hb (Nat.le_refl _)
  replace K2 := Lib.hid (K2.out.belowSelf hb)
  replace r_Y := r_Y.below hb (Nat.le_refl _)
  replace K3 := Lib.hid (K3.out.belowSelf hb)
  clear hb hXK3
  go_wp2_with fail
  go_at_call 30
  refine (frameCheck_impl _ _ _ _ _ rC (by omega)).mono ?_
  rintro e w8 ⟨rfl, hb⟩
  replace B := B.trans (hb.mono B.size)
  replace rF := rF.below hb (Nat.le_refl _)
  replace K := Lib.hid (K.out.belowSelf hb)
  replace r_A := r_A.below hb (Nat.le_refl _)
  replace r_M := r_M.below hb (Nat.le_refl _)
  replace rB := rB.below hb (Nat.le_refl _)
  replace r_X := r_X.below hb (Nat.le_refl _)
  replace K2 := Lib.hid (K2.out.belowSelf hb)
  replace r_Y := r_Y.below hb (Nat.le_refl _)
  replace K3 := Lib.hid (K3.out.belowSelf hb)
  replace rC := rC.below hb (Nat.le_refl _)
  clear hb
  go_wp2_with fail
  go_at_call 31
  refine (frameCheck_spec _ _ _ _ _ rC (by omega)).mono ?_
  rintro e w9 ⟨rfl, hb⟩
  replace B := B.trans (hb.mono B.size)
  replace rF := rF.below hb (Nat.le_refl _)
  replace K := Lib.hid (K.out.belowSelf hb)
  replace r_A := r_A.below hb (Nat.le_refl _)
  replace r_M := r_M.below hb (Nat.le_refl _)
  replace rB := rB.below hb (Nat.le_refl _)
  replace r_X := r_X.below hb (Nat.le_refl _)
  replace K2 := Lib.hid (K2.out.belowSelf hb)
  replace r_Y := r_Y.below hb (Nat.le_refl _)
  replace K3 := Lib.hid (K3.out.belowSelf hb)
  replace rC := rC.below hb (Nat.le_refl _)
  clear hb
  have e0 : ((frameBits k m fs).2 != (frameBits k m fs).2) = false := by simp
  have e1 : ((readFrame bits).2 != (readFrame bits).2) = false := by simp
  have e2 : ((frameCheck cs).2 != (frameCheck cs).2) = false := by simp
  have e3 : ((frameCheck cs).1 != (frameCheck cs).1) = false := by simp
  have e4 : (frameOk k m fs != frameOk k m fs) = false := by simp
  have e5 : ((readFrame bits).1.1 == (readFrame bits).1.1) = true := by simp
  have e6 : ((readFrame bits).1.2.1 == (readFrame bits).1.2.1) = true := by simp
  go_upto_region 12 with (fail)
  go_cut [101] (fun v wx => v = .bool false ∧ Below w.heap.size w wx ∧ Hid (Row wx 1 aF nF (ints fs)) ∧ Hid (Blk wx XK 28 #[.int .i64 k, .int .i64 m, .slice aF nF cF]) ∧ Hid (Row wx 1 a_A n_M (ints ((frameBits k m fs).1))) ∧ Hid (Row wx 1 a_M n_M (ints ((frameBits k m fs).1))) ∧ Hid (Row wx 1 aB nB (ints bits)) ∧ Hid (Row wx 1 a_X n_Y (ints (readFrame bits).1.2.2)) ∧ Hid (Blk wx XK2 28 #[.int .i64 (readFrame bits).1.1, .int .i64 (readFrame bits).1.2.1, .slice a_X n_Y c_X]) ∧ Hid (Row wx 1 a_Y n_Y (ints (readFrame bits).1.2.2)) ∧ Hid (Blk wx XK3 28 #[.int .i64 (readFrame bits).1.1, .int .i64 (readFrame bits).1.2.1, .slice a_Y n_Y c_Y]) ∧ Hid (Row wx 1 aC nC (ints cs)))
  case first => as_aux_lemma =>
    go_wp2_with fail
    replace B := B.drew
    replace rF := rF.drew
    replace K := Lib.hid K.out.drew
    replace r_A := r_A.drew
    replace r_M := r_M.drew
    replace rB := rB.drew
    replace r_X := r_X.drew
    replace K2 := Lib.hid K2.out.drew
    replace r_Y := r_Y.drew
    replace K3 := Lib.hid K3.out.drew
    replace rC := rC.drew
    go_region_held3 (fun w' => w'.cell? ⟨XK, 0, none⟩ = some (.int .i64 k) ∧ w'.cell? ⟨XK, 1, none⟩ = some (.int .i64 m) ∧ w'.cell? ⟨XK, 2, none⟩ = some (.slice aF nF cF) ∧ w'.cell? ⟨XK2, 0, none⟩ = some (.int .i64 (readFrame bits).1.1) ∧ w'.cell? ⟨XK2, 1, none⟩ = some (.int .i64 (readFrame bits).1.2.1) ∧ w'.cell? ⟨XK2, 2, none⟩ = some (.slice a_X n_Y c_X) ∧ w'.cell? ⟨XK3, 0, none⟩ = some (.int .i64 (readFrame bits).1.1) ∧ w'.cell? ⟨XK3, 1, none⟩ = some (.int .i64 (readFrame bits).1.2.1) ∧ w'.cell? ⟨XK3, 2, none⟩ = some (.slice a_Y n_Y c_Y)) (exact ⟨K.out.cell 0, K.out.cell 1, K.out.cell 2, K2.out.cell 0, K2.out.cell 1, K2.out.cell 2, K3.out.cell 0, K3.out.cell 1, K3.out.cell 2⟩) (first | (go_at_call 32; refine (likeInts_same _ _ _ _ _ _ _ r_A r_M (by omega)).mono ?_; rintro e w10 ⟨rfl, hb⟩; replace B := B.trans (hb.mono B.size); replace rF := rF.below hb (Nat.le_refl _); replace K := Lib.hid (K.out.belowSelf hb); replace r_A := r_A.below hb (Nat.le_refl _); replace r_M := r_M.below hb (Nat.le_refl _); replace rB := rB.below hb (Nat.le_refl _); replace r_X := r_X.below hb (Nat.le_refl _); replace K2 := Lib.hid (K2.out.belowSelf hb); replace r_Y := r_Y.below hb (Nat.le_refl _); replace K3 := Lib.hid (K3.out.belowSelf hb); replace rC := rC.below hb (Nat.le_refl _); clear hb) | (go_at_call 33; refine (likeFrames_same _ _ _ _ _ _ _ _ _ r_X r_Y (by omega)).mono ?_; rintro e w11 ⟨rfl, hb⟩; replace B := B.trans (hb.mono B.size); replace rF := rF.below hb (Nat.le_refl _); replace K := Lib.hid (K.out.belowSelf hb); replace r_A := r_A.below hb (Nat.le_refl _); replace r_M := r_M.below hb (Nat.le_refl _); replace rB := rB.below hb (Nat.le_refl _); replace r_X := r_X.below hb (Nat.le_refl _); replace K2 := Lib.hid (K2.out.belowSelf hb); replace r_Y := r_Y.below hb (Nat.le_refl _); replace K3 := Lib.hid (K3.out.belowSelf hb); replace rC := rC.below hb (Nat.le_refl _); clear hb) | (go_at_call 34; refine (isFrame_impl _ _ _ _ _ _ _ rF (by omega)).mono ?_; rintro e w12 ⟨rfl, hb⟩; replace B := B.trans (hb.mono B.size); replace rF := rF.below hb (Nat.le_refl _); replace K := Lib.hid (K.out.belowSelf hb); replace r_A := r_A.below hb (Nat.le_refl _); replace r_M := r_M.below hb (Nat.le_refl _); replace rB := rB.below hb (Nat.le_refl _); replace r_X := r_X.below hb (Nat.le_refl _); replace K2 := Lib.hid (K2.out.belowSelf hb); replace r_Y := r_Y.below hb (Nat.le_refl _); replace K3 := Lib.hid (K3.out.belowSelf hb); replace rC := rC.below hb (Nat.le_refl _); clear hb) | (go_at_call 35; refine (isFrame_spec _ _ _ _ _ _ _ rF (by omega)).mono ?_; rintro e w13 ⟨rfl, hb⟩; replace B := B.trans (hb.mono B.size); replace rF := rF.below hb (Nat.le_refl _); replace K := Lib.hid (K.out.belowSelf hb); replace r_A := r_A.below hb (Nat.le_refl _); replace r_M := r_M.below hb (Nat.le_refl _); replace rB := rB.below hb (Nat.le_refl _); replace r_X := r_X.below hb (Nat.le_refl _); replace K2 := Lib.hid (K2.out.belowSelf hb); replace r_Y := r_Y.below hb (Nat.le_refl _); replace K3 := Lib.hid (K3.out.belowSelf hb); replace rC := rC.below hb (Nat.le_refl _); clear hb))
    all_goals (go_wp2_with fail; go_meet; exact ⟨rfl, B, Lib.hid rF, K, Lib.hid r_A, Lib.hid r_M, Lib.hid rB, Lib.hid r_X, K2, Lib.hid r_Y, K3, Lib.hid rC⟩)
  case rest => as_aux_lemma =>
    clear B rF K r_A r_M rB r_X K2 r_Y K3 rC
    obtain ⟨rfl, B, rF, K, r_A, r_M, rB, r_X, K2, r_Y, K3, rC⟩ := hcut
    replace rF := rF.out
    replace r_A := r_A.out
    replace r_M := r_M.out
    replace rB := rB.out
    replace r_X := r_X.out
    replace r_Y := r_Y.out
    replace rC := rC.out
    obtain ⟨w10, rfl⟩ : ∃ w10 : World, w10 = wc := ⟨_, rfl⟩
    clear e0 e1 e2 e3 e4 e5 e6
    clear r_M r_Y K3
    go_upto_if 103 with (fail)
    go_cut [10, 12, 18, 19] (fun _ _ _ _ wx => Below w.heap.size w wx ∧ Hid (Row wx 1 aF nF (ints fs)) ∧ Hid (Blk wx XK 28 #[.int .i64 k, .int .i64 m, .slice aF nF cF]) ∧ Hid (Row wx 1 a_A n_M (ints ((frameBits k m fs).1))) ∧ Hid (Row wx 1 aC nC (ints cs)))
    case first => as_aux_lemma =>
      by_cases hz : (readFrame bits).2 = 0
      · have hfb := frameBits_read hz
        rw [hz]
        clear hz
        have q0 : w10.cell? ⟨XK2, 0, none⟩ = some (.int .i64 (readFrame bits).1.1) := K2.out.cell 0
        have q1 : w10.cell? ⟨XK2, 1, none⟩ = some (.int .i64 (readFrame bits).1.2.1) := K2.out.cell 1
        have q2 : w10.cell? ⟨XK2, 2, none⟩ = some (.slice a_X n_Y c_X) := K2.out.cell 2
        go_wp2_with fail
        go_at_call 11
        refine (frameBits_impl _ _ _ _ _ _ _ r_X (by omega)).mono ?_
        rintro e w11 ⟨a_G, n_G, c_G, rfl, o_G, hb⟩
        replace B := B.trans (hb.mono B.size)
        replace rF := rF.below hb (Nat.le_refl _)
        replace K := Lib.hid (K.out.belowSelf hb)
        replace r_A := r_A.below hb (Nat.le_refl _)
        replace rB := rB.below hb (Nat.le_refl _)
        replace r_X := r_X.below hb (Nat.le_refl _)
        replace K2 := Lib.hid (K2.out.belowSelf hb)
        replace rC := rC.below hb (Nat.le_refl _)
        have r_G := o_G.row
        clear hb o_G
        clear q0 q1 q2
        rw [hfb] at r_G ⊢
        clear hfb
        replace r_G : Row w11 1 a_G n_G (ints bits) := r_G
        obtain rfl : n_G = nB := by have h1 := r_G.len; have h2 := rB.len; omega
        go_wp2_with fail
        go_at_call 32
        refine (likeInts_same _ _ _ _ _ _ _ r_G rB (by omega)).mono ?_
        rintro e w12 ⟨rfl, hb⟩
        replace B := B.trans (hb.mono B.size)
        replace rF := rF.below hb (Nat.le_refl _)
        replace K := Lib.hid (K.out.belowSelf hb)
        replace r_A := r_A.below hb (Nat.le_refl _)
        replace rB := rB.below hb (Nat.le_refl _)
        replace r_X := r_X.below hb (Nat.le_refl _)
        replace K2 := Lib.hid (K2.out.belowSelf hb)
        replace rC := rC.below hb (Nat.le_refl _)
        replace r_G := r_G.below hb (Nat.le_refl _)
        clear hb
        go_wp2_with fail
        go_meet
        exact ⟨B, Lib.hid rF, K, Lib.hid r_A, Lib.hid rC⟩
      · have hzf : ((readFrame bits).2 == 0) = false := by simpa using hz
        clear hz
        go_wp2_with fail
        go_meet
        exact ⟨B, Lib.hid rF, K, Lib.hid r_A, Lib.hid rC⟩
    case rest => as_aux_lemma =>
      clear B rF K r_A rC
      obtain ⟨B, rF, K, r_A, rC⟩ := hcut
      replace rF := rF.out
      replace r_A := r_A.out
      replace rC := rC.out
      obtain ⟨w11, rfl⟩ : ∃ w11 : World, w11 = wc := ⟨_, rfl⟩
      clear hB hB2 hB3 hnY
      by_cases hz : (frameCheck cs).2 = 0
      · by_cases hc0 : 0 < nC
        · have hc0I : (0 : Int) < (nC : Int) := by omega
          have hok : listOk 28 0 255 cs = true := by
            cases h : listOk 28 0 255 cs
            · rw [frameCheck, h] at hz; simp at hz
            · rfl
          have HOK := Lib.hid hok
          have hC28 : nC ≤ 28 := by have h1 := rC.len; have h2 := listOk_le hok rfl; omega
          have HZ := Lib.hid hz
          rw [hz]
          clear hz hok
          have HS := Lib.hid (And.intro B (And.intro rF (And.intro K (And.intro r_A rC))))
          have HCC := Lib.hid (HC.out.below B (Nat.le_refl _))
          clear rF K r_A B
          go_wp2_with fail
          go_at_call 36
          refine (roll_any _ _ _ _ 2501 _ HCC.out (by omega)).mono ?_
          rintro e w12 ⟨p, rfl, hp, hd, BZ⟩
          have hpz : w11.heap.size ≤ p := by omega
          have HD := Lib.hid hd
          clear hp hd HCC
          replace rC := rC.below BZ (Nat.le_refl _)
          go_wp2_with (at_builtin; refine wpList_app0 _ rfl (.tmp 126) (.tmp 127) _ rfl Try.underlying22 info_i64 rfl (by decide) (by rfl) (Own.lit0 _ _ _) (by simp) (by rfl) (rC.alloc _) (ints_one _) (by simp only [maxLen]; omega) (by omega) (by simp) ?_; intro aO cO wO oO hbO hgO)
          rw [show 0 + nC = nC by omega, List.nil_append] at oO
          have hbO2 := ((Below.refl _ w12).alloc (Nat.le_refl _) _).trans hbO
          have hpR : p < w12.heap.size := HD.out.lt
          replace BZ := BZ.trans (hbO2.mono BZ.size)
          replace HD := Lib.hid (HD.out.below hbO2 HD.out.lt)
          clear hbO hgO hbO2 rC
          have hBz := BZ.size
          go_wp2_with fail
          go_at_call 37
          refine (below_any _ _ _ HD.out (by omega)).mono ?_
          rintro e wI ⟨r, rfl, hr0, hr1, hd, hg⟩
          replace BZ := below_next' BZ hpz hg
          obtain ⟨I, rfl⟩ := Int.eq_ofNat_of_zero_le hr0
          have hIC : I < nC := by omega
          obtain ⟨gO, rfl, hgO1, -, hgO3⟩ := oO.head hc0
          have oI := oO.apart hg (fun g e => by injection e with e; omega)
          have HD := Lib.hid hd
          obtain ⟨x, hx⟩ : ∃ x, cs[I]? = some x := ⟨_, List.getElem?_eq_getElem (by have := oI.row.len; omega)⟩
          have hxb := listOk_mem HOK.out x (List.mem_of_getElem? hx)
          obtain ⟨X, rfl⟩ := Int.eq_ofNat_of_zero_le hxb.1
          have hcv : wI.cell? ⟨gO, I, none⟩ = some (.int .i64 (X : Int)) := by
            rw [oI.cellAt I (by omega)]
            simp [ints, hx]
          have HX := Lib.hid hx
          have HO := Lib.hid oI
          have HB := Lib.hid BZ
          clear hx oI BZ hd hg oO hr0
          go_wp2_with fail
          refine wp_region_held_drew (S := fun w' => True) (by kernel_rfl) (trivial) (fun hHeld => ?_)
          refine wpAnyH_take (i := 0) (oi := ?oix0_1) (v := ?vx0_1) ?hix0_1 (by kernel_rfl) (by kernel_rfl) (by kernel_rfl) ?hQx0_1 ?hyx0_1 (by assumption) ?hrx0_1
          case hix0_1 => (simp only [List.getElem?_toArray, List.getElem?_cons_succ, List.getElem?_cons_zero]; rfl)
          case hQx0_1 => exact fun _ _ _ h => h
          case hyx0_1 => (refine Or.inl ⟨by rfl, ?_⟩; intro w hSw; (try dsimp only at hSw); (go_simp <;> with_reducible rfl))
          (try simp only [Act.put, List.setIfInBounds_toArray, List.set_cons_zero, List.set_cons_succ])
          refine wpAnyH_take (i := 1) (oi := ?oix1_2) (v := ?vx1_2) ?hix1_2 (by kernel_rfl) (by kernel_rfl) (by kernel_rfl) ?hQx1_2 ?hyx1_2 (by assumption) ?hrx1_2
          case hix1_2 => (simp only [List.getElem?_toArray, List.getElem?_cons_succ, List.getElem?_cons_zero]; rfl)
          case hQx1_2 => exact fun _ _ _ h => h
          case hyx1_2 => (refine Or.inl ⟨by rfl, ?_⟩; intro w hSw; (try dsimp only at hSw); (go_simp <;> with_reducible rfl))
          (try simp only [Act.put, List.setIfInBounds_toArray, List.set_cons_zero, List.set_cons_succ])
          refine wpAnyH_take (i := 2) (oi := ?oix2_3) (v := ?vx2_3) ?hix2_3 (by kernel_rfl) (by kernel_rfl) (by kernel_rfl) ?hQx2_3 ?hyx2_3 (by assumption) ?hrx2_3
          case hix2_3 => (simp only [List.getElem?_toArray, List.getElem?_cons_succ, List.getElem?_cons_zero]; rfl)
          case hQx2_3 => exact fun _ _ _ h => h
          case hyx2_3 => (refine Or.inl ⟨by rfl, ?_⟩; intro w hSw; (try dsimp only at hSw); (go_simp <;> with_reducible rfl))
          (try simp only [Act.put, List.setIfInBounds_toArray, List.set_cons_zero, List.set_cons_succ])
          refine wpAnyH_take (i := 3) (oi := ?oix3_4) (v := ?vx3_4) ?hix3_4 (by kernel_rfl) (by kernel_rfl) (by kernel_rfl) ?hQx3_4 ?hyx3_4 (by assumption) ?hrx3_4
          case hix3_4 => (simp only [List.getElem?_toArray, List.getElem?_cons_succ, List.getElem?_cons_zero]; rfl)
          case hQx3_4 => exact fun _ _ _ h => h
          case hyx3_4 => (refine Or.inl ⟨by rfl, ?_⟩; intro w hSw; (try dsimp only at hSw); (go_simp <;> with_reducible rfl))
          (try simp only [Act.put, List.setIfInBounds_toArray, List.set_cons_zero, List.set_cons_succ])
          refine wpAnyH_take (i := 4) (oi := ?oix4_5) (v := ?vx4_5) ?hix4_5 (by kernel_rfl) (by kernel_rfl) (by kernel_rfl) ?hQx4_5 ?hyx4_5 (by assumption) ?hrx4_5
          case hix4_5 => (simp only [List.getElem?_toArray, List.getElem?_cons_succ, List.getElem?_cons_zero]; rfl)
          case hQx4_5 => exact fun _ _ _ h => h
          case hyx4_5 => (refine Or.inl ⟨by rfl, ?_⟩; intro w hSw; (try dsimp only at hSw); (go_simp <;> with_reducible rfl))
          (try simp only [Act.put, List.setIfInBounds_toArray, List.set_cons_zero, List.set_cons_succ])
          refine wpAnyH_take (i := 6) (oi := ?oix6_6) (v := ?vx6_6) ?hix6_6 (by kernel_rfl) (by kernel_rfl) (by kernel_rfl) ?hQx6_6 ?hyx6_6 (by assumption) ?hrx6_6
          case hix6_6 => (simp only [List.getElem?_toArray, List.getElem?_cons_succ, List.getElem?_cons_zero]; rfl)
          case hQx6_6 => exact fun _ _ _ h => h
          case hyx6_6 => (refine Or.inl ⟨by rfl, ?_⟩; intro w hSw; (try dsimp only at hSw); (go_simp <;> with_reducible rfl))
          (try simp only [Act.put, List.setIfInBounds_toArray, List.set_cons_zero, List.set_cons_succ])
          refine wpAnyH_ready (rs := [5, 7]) (by kernel_rfl) (by simp) ?_
          refine AllReadyH.cons (o := ?oix5_7) ?hix5_7 ?hax5_7 ?hnx5_7
          case hix5_7 => (simp only [List.getElem?_toArray, List.getElem?_cons_succ, List.getElem?_cons_zero]; rfl)
          case hax5_7 =>
            intro K hK
            go_simp
            skip
            refine hK.out _ _ (trivial) (fun hHeld => ?_)
            clear hK K
            (try simp only [Act.put, List.setIfInBounds_toArray, List.set_cons_zero, List.set_cons_succ])
            refine wpAnyH_ready (rs := [7]) (by kernel_rfl) (by simp) ?_
            refine AllReadyH.cons (o := ?oix7_8) ?hix7_8 ?hax7_8 ?hnx7_8
            case hix7_8 => (simp only [List.getElem?_toArray, List.getElem?_cons_succ, List.getElem?_cons_zero]; rfl)
            case hax7_8 =>
              intro K hK
              go_simp
              go_at_call 37
              refine (below_any _ 8 _ (by first | exact HD.out | exact HD.out.drew) (by omega)).mono ?_
              rintro e wJ ⟨r8, rfl, hr0, hr1, hd8, hg⟩
              obtain ⟨J, rfl⟩ := Int.eq_ofNat_of_zero_le hr0
              have hJ : J < 8 := by omega
              replace HO := Lib.hid (show Own wJ _ _ 2 1 (some ⟨gO, 0, none⟩) nC cO _ from by first | exact HO.out.apart hg (fun g e => by injection e with e; omega) | exact (HO.out.drew).apart hg (fun g e => by injection e with e; omega))
              replace HB := Lib.hid (show Below w11.heap.size w11 wJ from by first | exact below_next' HB.out hpz hg | exact below_next' HB.out.drew hpz hg)
              have hcvJ : wJ.cell? ⟨gO, I, none⟩ = some (.int .i64 (X : Int)) := by
                rw [HO.out.cellAt I (by omega)]
                simp [ints, HX.out]
              clear hd8 hg hr0 hr1
              refine hK.out _ _ (trivial) (fun hHeld => ?_)
              clear hK K
              (try simp only [Act.put, List.setIfInBounds_toArray, List.set_cons_zero, List.set_cons_succ])
              refine wpAnyH_take (i := 8) (oi := ?oix8_9) (v := ?vx8_9) ?hix8_9 (by kernel_rfl) (by kernel_rfl) (by kernel_rfl) ?hQx8_9 ?hyx8_9 (by assumption) ?hrx8_9
              case hix8_9 => (simp only [List.getElem?_toArray, List.getElem?_cons_succ, List.getElem?_cons_zero]; rfl)
              case hQx8_9 => exact fun _ _ _ h => h
              case hyx8_9 => (refine Or.inl ⟨by rfl, ?_⟩; intro w hSw; (try dsimp only at hSw); (go_simp <;> with_reducible rfl))
              (try simp only [Act.put, List.setIfInBounds_toArray, List.set_cons_zero, List.set_cons_succ])
              refine wpAnyH_take (i := 9) (oi := ?oix9_10) (v := ?vx9_10) ?hix9_10 (by kernel_rfl) (by kernel_rfl) (by kernel_rfl) ?hQx9_10 ?hyx9_10 (by assumption) ?hrx9_10
              case hix9_10 => (simp only [List.getElem?_toArray, List.getElem?_cons_succ, List.getElem?_cons_zero]; rfl)
              case hQx9_10 => exact fun _ _ _ h => h
              case hyx9_10 => (refine Or.inl ⟨by rfl, ?_⟩; intro w hSw; (try dsimp only at hSw); (go_simp <;> with_reducible rfl))
              (try simp only [Act.put, List.setIfInBounds_toArray, List.set_cons_zero, List.set_cons_succ])
              refine wpAnyH_take (i := 10) (oi := ?oix10_11) (v := ?vx10_11) ?hix10_11 (by kernel_rfl) (by kernel_rfl) (by kernel_rfl) ?hQx10_11 ?hyx10_11 (by assumption) ?hrx10_11
              case hix10_11 => (simp only [List.getElem?_toArray, List.getElem?_cons_succ, List.getElem?_cons_zero]; rfl)
              case hQx10_11 => exact fun _ _ _ h => h
              case hyx10_11 => (refine Or.inl ⟨by rfl, ?_⟩; intro w hSw; (try dsimp only at hSw); (go_simp <;> with_reducible rfl))
              (try simp only [Act.put, List.setIfInBounds_toArray, List.set_cons_zero, List.set_cons_succ])
              refine wpAnyH_take (i := 11) (oi := ?oix11_12) (v := ?vx11_12) ?hix11_12 (by kernel_rfl) (by kernel_rfl) (by kernel_rfl) ?hQx11_12 ?hyx11_12 (by assumption) ?hrx11_12
              case hix11_12 => (simp only [List.getElem?_toArray, List.getElem?_cons_succ, List.getElem?_cons_zero]; rfl)
              case hQx11_12 => exact fun _ _ _ h => h
              case hyx11_12 => (refine Or.inl ⟨by rfl, ?_⟩; intro w hSw; (try dsimp only at hSw); (go_simp <;> with_reducible rfl))
              (try simp only [Act.put, List.setIfInBounds_toArray, List.set_cons_zero, List.set_cons_succ])
              refine wpAnyH_ready (rs := [12]) (by kernel_rfl) (by simp) ?_
              refine AllReadyH.cons (o := ?oix12_13) ?hix12_13 ?hax12_13 ?hnx12_13
              case hix12_13 => (simp only [List.getElem?_toArray, List.getElem?_cons_succ, List.getElem?_cons_zero]; rfl)
              case hax12_13 =>
                intro K hK
                have hfz := HO.out.frozenAt I
                have hcv2 : wJ.cell? ⟨gO, I, none⟩ = some (.int .i64 (X : Int)) := by
                  rw [HO.out.cellAt I (by omega)]
                  simp [ints, HX.out]
                have hval : Go.bits BinOp.xor IntKind.i64 (X : Int) (IntKind.i64.wrap (2 ^ min (IntKind.u64.wrap (J : Int)).toNat 64)) = ((X ^^^ 2 ^ J : Nat) : Int) := wrong_val (by omega) hJ
                go_simp
                refine hK.out _ _ (trivial) (fun hHeld => ?_)
                clear hK K
                (try simp only [Act.put, List.setIfInBounds_toArray, List.set_cons_zero, List.set_cons_succ])
                refine wpAnyH_done (by kernel_rfl) ?_ _
                have hst := HO.out.stored I (.int .i64 ((X ^^^ 2 ^ J : Nat) : Int))
                have hcw := check_wrong HZ.out HX.out hJ
                have e1 : (ints cs).set I (.int .i64 ((X ^^^ 2 ^ J : Nat) : Int)) = ints (cs.set I ((X ^^^ 2 ^ J : Nat) : Int)) := by simp [ints, List.map_set]
                rw [e1] at hst
                clear e1
                have r_W := hst.1.row
                have BZ := below_next' HB.out (by omega) hst.2
                obtain ⟨w20, hw20⟩ : ∃ w20, wJ.setCell ⟨gO, I, none⟩ (.int .i64 ((X ^^^ 2 ^ J : Nat) : Int)) = w20 := ⟨_, rfl⟩
                rw [hw20] at r_W BZ
                clear hst HO HB HX HD hcv hcvJ HOK
                obtain ⟨mw, hm1, hm2⟩ := hcw
                have hm3 : (mw == (frameCheck cs).1) = false := by simpa using hm2
                rw [hw20]
                clear hw20
                go_wp2_with fail
                go_at_call 30
                refine (frameCheck_impl _ _ _ _ _ r_W (by omega)).mono ?_
                rintro e w21 ⟨rfl, hb⟩
                rw [hm1]
                replace BZ := BZ.trans (hb.mono BZ.size)
                clear hb r_W hm1 hm2 HZ
                obtain ⟨B, rF, K, r_A, rC⟩ := HS.out
                replace B := B.trans (BZ.mono B.size)
                replace rF := rF.below BZ (Nat.le_refl _)
                replace K := Lib.hid (K.out.belowSelf BZ)
                replace r_A := r_A.below BZ (Nat.le_refl _)
                clear HS BZ rC
                cases hf : frameOk k m fs
                · rw [frameBits_no hf]
                  clear hf
                  go_wp2
                  go_ret
                  exact ⟨rfl, B⟩
                · have hrb := readFrame_frame hf
                  have hb2 : (frameBits k m fs).2 = 0 := by rw [frameBits_yes hf]
                  rw [hb2]
                  clear hb2 hf
                  obtain ⟨ocA1, ocA2⟩ := cp_A.out
                  go_wp2_with fail
                  go_at_call 19
                  refine (readFrame_impl _ _ _ _ _ r_A (by omega) ocA1 ocA2).mono ?_
                  intro e w22 hd
                  obtain ⟨a_Z, n_Z, c_Z, rfl, o_Z, hb⟩ := hd
                  replace B := B.trans (hb.mono B.size)
                  replace rF := rF.below hb (Nat.le_refl _)
                  replace r_A := r_A.below hb (Nat.le_refl _)
                  replace K := Lib.hid (K.out.belowSelf hb)
                  have r_Z := o_Z.row
                  clear hb o_Z
                  rw [hrb] at r_Z ⊢
                  clear hrb
                  replace r_Z : Row w22 1 a_Z n_Z (ints fs) := r_Z
                  obtain rfl : nF = n_Z := by have h1 := r_Z.len; have h2 := rF.len; omega
                  obtain ⟨XK4, hXK4⟩ : ∃ X, w22.heap.size = X := ⟨_, rfl⟩
                  replace B := B.alloc B.size (.cells #[.int .i64 k, .int .i64 m, .slice a_Z nF c_Z] 28)
                  replace rF := rF.alloc (.cells #[.int .i64 k, .int .i64 m, .slice a_Z nF c_Z] 28)
                  replace r_A := r_A.alloc (.cells #[.int .i64 k, .int .i64 m, .slice a_Z nF c_Z] 28)
                  replace K := Lib.hid (K.out.alloc (.cells #[.int .i64 k, .int .i64 m, .slice a_Z nF c_Z] 28))
                  replace r_Z := r_Z.alloc (.cells #[.int .i64 k, .int .i64 m, .slice a_Z nF c_Z] 28)
                  have K4 := Lib.hid (Blk.new' w22 28 #[.int .i64 k, .int .i64 m, .slice a_Z nF c_Z] (g := XK4) hXK4.symm)
                  dsimp only
                  have q0 : (w22.alloc (.cells #[.int .i64 k, .int .i64 m, .slice a_Z nF c_Z] 28)).cell? ⟨XK, 0, none⟩ = some (.int .i64 k) := K.out.cell 0
                  have q1 : (w22.alloc (.cells #[.int .i64 k, .int .i64 m, .slice a_Z nF c_Z] 28)).cell? ⟨XK, 1, none⟩ = some (.int .i64 m) := K.out.cell 1
                  have q2 : (w22.alloc (.cells #[.int .i64 k, .int .i64 m, .slice a_Z nF c_Z] 28)).cell? ⟨XK, 2, none⟩ = some (.slice aF nF cF) := K.out.cell 2
                  go_wp2_with fail
                  go_at_call 33
                  refine (likeFrames_same _ _ _ _ _ _ _ _ _ r_Z rF (by omega)).mono ?_
                  rintro e w23 ⟨rfl, hb⟩
                  replace B := B.trans (hb.mono B.size)
                  replace rF := rF.below hb (Nat.le_refl _)
                  replace r_A := r_A.below hb (Nat.le_refl _)
                  replace K := Lib.hid (K.out.belowSelf hb)
                  replace r_Z := r_Z.below hb (Nat.le_refl _)
                  replace K4 := Lib.hid (K4.out.belowSelf hb)
                  clear hb q0 q1 q2
                  go_wp2
                  go_ret
                  exact ⟨rfl, B⟩
              case hnx12_13 =>
                exact AllReadyH.nil
            case hnx7_8 =>
              exact AllReadyH.nil
          case hnx5_7 =>
            refine AllReadyH.cons (o := ?oix7_14) ?hix7_14 ?hax7_14 ?hnx7_14
            case hix7_14 => (simp only [List.getElem?_toArray, List.getElem?_cons_succ, List.getElem?_cons_zero]; rfl)
            case hax7_14 =>
              intro K hK
              go_simp
              go_at_call 37
              refine (below_any _ 8 _ (by first | exact HD.out | exact HD.out.drew) (by omega)).mono ?_
              rintro e wJ ⟨r8, rfl, hr0, hr1, hd8, hg⟩
              obtain ⟨J, rfl⟩ := Int.eq_ofNat_of_zero_le hr0
              have hJ : J < 8 := by omega
              replace HO := Lib.hid (show Own wJ _ _ 2 1 (some ⟨gO, 0, none⟩) nC cO _ from by first | exact HO.out.apart hg (fun g e => by injection e with e; omega) | exact (HO.out.drew).apart hg (fun g e => by injection e with e; omega))
              replace HB := Lib.hid (show Below w11.heap.size w11 wJ from by first | exact below_next' HB.out hpz hg | exact below_next' HB.out.drew hpz hg)
              have hcvJ : wJ.cell? ⟨gO, I, none⟩ = some (.int .i64 (X : Int)) := by
                rw [HO.out.cellAt I (by omega)]
                simp [ints, HX.out]
              clear hd8 hg hr0 hr1
              refine hK.out _ _ (trivial) (fun hHeld => ?_)
              clear hK K
              (try simp only [Act.put, List.setIfInBounds_toArray, List.set_cons_zero, List.set_cons_succ])
              refine wpAnyH_take (i := 8) (oi := ?oix8_15) (v := ?vx8_15) ?hix8_15 (by kernel_rfl) (by kernel_rfl) (by kernel_rfl) ?hQx8_15 ?hyx8_15 (by assumption) ?hrx8_15
              case hix8_15 => (simp only [List.getElem?_toArray, List.getElem?_cons_succ, List.getElem?_cons_zero]; rfl)
              case hQx8_15 => exact fun _ _ _ h => h
              case hyx8_15 => (refine Or.inl ⟨by rfl, ?_⟩; intro w hSw; (try dsimp only at hSw); (go_simp <;> with_reducible rfl))
              (try simp only [Act.put, List.setIfInBounds_toArray, List.set_cons_zero, List.set_cons_succ])
              refine wpAnyH_take (i := 9) (oi := ?oix9_16) (v := ?vx9_16) ?hix9_16 (by kernel_rfl) (by kernel_rfl) (by kernel_rfl) ?hQx9_16 ?hyx9_16 (by assumption) ?hrx9_16
              case hix9_16 => (simp only [List.getElem?_toArray, List.getElem?_cons_succ, List.getElem?_cons_zero]; rfl)
              case hQx9_16 => exact fun _ _ _ h => h
              case hyx9_16 => (refine Or.inl ⟨by rfl, ?_⟩; intro w hSw; (try dsimp only at hSw); (go_simp <;> with_reducible rfl))
              (try simp only [Act.put, List.setIfInBounds_toArray, List.set_cons_zero, List.set_cons_succ])
              refine wpAnyH_ready (rs := [5]) (by kernel_rfl) (by simp) ?_
              refine AllReadyH.cons (o := ?oix5_17) ?hix5_17 ?hax5_17 ?hnx5_17
              case hix5_17 => (simp only [List.getElem?_toArray, List.getElem?_cons_succ, List.getElem?_cons_zero]; rfl)
              case hax5_17 =>
                intro K hK
                go_simp
                skip
                refine hK.out _ _ (trivial) (fun hHeld => ?_)
                clear hK K
                (try simp only [Act.put, List.setIfInBounds_toArray, List.set_cons_zero, List.set_cons_succ])
                refine wpAnyH_take (i := 10) (oi := ?oix10_18) (v := ?vx10_18) ?hix10_18 (by kernel_rfl) (by kernel_rfl) (by kernel_rfl) ?hQx10_18 ?hyx10_18 (by assumption) ?hrx10_18
                case hix10_18 => (simp only [List.getElem?_toArray, List.getElem?_cons_succ, List.getElem?_cons_zero]; rfl)
                case hQx10_18 => exact fun _ _ _ h => h
                case hyx10_18 => (refine Or.inl ⟨by rfl, ?_⟩; intro w hSw; (try dsimp only at hSw); (go_simp <;> with_reducible rfl))
                (try simp only [Act.put, List.setIfInBounds_toArray, List.set_cons_zero, List.set_cons_succ])
                refine wpAnyH_take (i := 11) (oi := ?oix11_19) (v := ?vx11_19) ?hix11_19 (by kernel_rfl) (by kernel_rfl) (by kernel_rfl) ?hQx11_19 ?hyx11_19 (by assumption) ?hrx11_19
                case hix11_19 => (simp only [List.getElem?_toArray, List.getElem?_cons_succ, List.getElem?_cons_zero]; rfl)
                case hQx11_19 => exact fun _ _ _ h => h
                case hyx11_19 => (refine Or.inl ⟨by rfl, ?_⟩; intro w hSw; (try dsimp only at hSw); (go_simp <;> with_reducible rfl))
                (try simp only [Act.put, List.setIfInBounds_toArray, List.set_cons_zero, List.set_cons_succ])
                refine wpAnyH_ready (rs := [12]) (by kernel_rfl) (by simp) ?_
                refine AllReadyH.cons (o := ?oix12_20) ?hix12_20 ?hax12_20 ?hnx12_20
                case hix12_20 => (simp only [List.getElem?_toArray, List.getElem?_cons_succ, List.getElem?_cons_zero]; rfl)
                case hax12_20 =>
                  intro K hK
                  have hfz := HO.out.frozenAt I
                  have hcv2 : wJ.cell? ⟨gO, I, none⟩ = some (.int .i64 (X : Int)) := by
                    rw [HO.out.cellAt I (by omega)]
                    simp [ints, HX.out]
                  have hval : Go.bits BinOp.xor IntKind.i64 (X : Int) (IntKind.i64.wrap (2 ^ min (IntKind.u64.wrap (J : Int)).toNat 64)) = ((X ^^^ 2 ^ J : Nat) : Int) := wrong_val (by omega) hJ
                  go_simp
                  refine hK.out _ _ (trivial) (fun hHeld => ?_)
                  clear hK K
                  (try simp only [Act.put, List.setIfInBounds_toArray, List.set_cons_zero, List.set_cons_succ])
                  refine wpAnyH_done (by kernel_rfl) ?_ _
                  have hst := HO.out.stored I (.int .i64 ((X ^^^ 2 ^ J : Nat) : Int))
                  have hcw := check_wrong HZ.out HX.out hJ
                  have e1 : (ints cs).set I (.int .i64 ((X ^^^ 2 ^ J : Nat) : Int)) = ints (cs.set I ((X ^^^ 2 ^ J : Nat) : Int)) := by simp [ints, List.map_set]
                  rw [e1] at hst
                  clear e1
                  have r_W := hst.1.row
                  have BZ := below_next' HB.out (by omega) hst.2
                  obtain ⟨w20, hw20⟩ : ∃ w20, wJ.setCell ⟨gO, I, none⟩ (.int .i64 ((X ^^^ 2 ^ J : Nat) : Int)) = w20 := ⟨_, rfl⟩
                  rw [hw20] at r_W BZ
                  clear hst HO HB HX HD hcv hcvJ HOK
                  obtain ⟨mw, hm1, hm2⟩ := hcw
                  have hm3 : (mw == (frameCheck cs).1) = false := by simpa using hm2
                  rw [hw20]
                  clear hw20
                  go_wp2_with fail
                  go_at_call 30
                  refine (frameCheck_impl _ _ _ _ _ r_W (by omega)).mono ?_
                  rintro e w21 ⟨rfl, hb⟩
                  rw [hm1]
                  replace BZ := BZ.trans (hb.mono BZ.size)
                  clear hb r_W hm1 hm2 HZ
                  obtain ⟨B, rF, K, r_A, rC⟩ := HS.out
                  replace B := B.trans (BZ.mono B.size)
                  replace rF := rF.below BZ (Nat.le_refl _)
                  replace K := Lib.hid (K.out.belowSelf BZ)
                  replace r_A := r_A.below BZ (Nat.le_refl _)
                  clear HS BZ rC
                  cases hf : frameOk k m fs
                  · rw [frameBits_no hf]
                    clear hf
                    go_wp2
                    go_ret
                    exact ⟨rfl, B⟩
                  · have hrb := readFrame_frame hf
                    have hb2 : (frameBits k m fs).2 = 0 := by rw [frameBits_yes hf]
                    rw [hb2]
                    clear hb2 hf
                    obtain ⟨ocA1, ocA2⟩ := cp_A.out
                    go_wp2_with fail
                    go_at_call 19
                    refine (readFrame_impl _ _ _ _ _ r_A (by omega) ocA1 ocA2).mono ?_
                    intro e w22 hd
                    obtain ⟨a_Z, n_Z, c_Z, rfl, o_Z, hb⟩ := hd
                    replace B := B.trans (hb.mono B.size)
                    replace rF := rF.below hb (Nat.le_refl _)
                    replace r_A := r_A.below hb (Nat.le_refl _)
                    replace K := Lib.hid (K.out.belowSelf hb)
                    have r_Z := o_Z.row
                    clear hb o_Z
                    rw [hrb] at r_Z ⊢
                    clear hrb
                    replace r_Z : Row w22 1 a_Z n_Z (ints fs) := r_Z
                    obtain rfl : nF = n_Z := by have h1 := r_Z.len; have h2 := rF.len; omega
                    obtain ⟨XK4, hXK4⟩ : ∃ X, w22.heap.size = X := ⟨_, rfl⟩
                    replace B := B.alloc B.size (.cells #[.int .i64 k, .int .i64 m, .slice a_Z nF c_Z] 28)
                    replace rF := rF.alloc (.cells #[.int .i64 k, .int .i64 m, .slice a_Z nF c_Z] 28)
                    replace r_A := r_A.alloc (.cells #[.int .i64 k, .int .i64 m, .slice a_Z nF c_Z] 28)
                    replace K := Lib.hid (K.out.alloc (.cells #[.int .i64 k, .int .i64 m, .slice a_Z nF c_Z] 28))
                    replace r_Z := r_Z.alloc (.cells #[.int .i64 k, .int .i64 m, .slice a_Z nF c_Z] 28)
                    have K4 := Lib.hid (Blk.new' w22 28 #[.int .i64 k, .int .i64 m, .slice a_Z nF c_Z] (g := XK4) hXK4.symm)
                    dsimp only
                    have q0 : (w22.alloc (.cells #[.int .i64 k, .int .i64 m, .slice a_Z nF c_Z] 28)).cell? ⟨XK, 0, none⟩ = some (.int .i64 k) := K.out.cell 0
                    have q1 : (w22.alloc (.cells #[.int .i64 k, .int .i64 m, .slice a_Z nF c_Z] 28)).cell? ⟨XK, 1, none⟩ = some (.int .i64 m) := K.out.cell 1
                    have q2 : (w22.alloc (.cells #[.int .i64 k, .int .i64 m, .slice a_Z nF c_Z] 28)).cell? ⟨XK, 2, none⟩ = some (.slice aF nF cF) := K.out.cell 2
                    go_wp2_with fail
                    go_at_call 33
                    refine (likeFrames_same _ _ _ _ _ _ _ _ _ r_Z rF (by omega)).mono ?_
                    rintro e w23 ⟨rfl, hb⟩
                    replace B := B.trans (hb.mono B.size)
                    replace rF := rF.below hb (Nat.le_refl _)
                    replace r_A := r_A.below hb (Nat.le_refl _)
                    replace K := Lib.hid (K.out.belowSelf hb)
                    replace r_Z := r_Z.below hb (Nat.le_refl _)
                    replace K4 := Lib.hid (K4.out.belowSelf hb)
                    clear hb q0 q1 q2
                    go_wp2
                    go_ret
                    exact ⟨rfl, B⟩
                case hnx12_20 =>
                  exact AllReadyH.nil
              case hnx5_17 =>
                exact AllReadyH.nil
            case hnx7_14 =>
              exact AllReadyH.nil
        · have hc0I : ¬ (0 : Int) < (nC : Int) := by omega
          rw [hz]
          clear hz
          clear rC
          cases hf : frameOk k m fs
          · rw [frameBits_no hf]
            clear hf
            go_wp2
            go_ret
            exact ⟨rfl, B⟩
          · have hrb := readFrame_frame hf
            have hb2 : (frameBits k m fs).2 = 0 := by rw [frameBits_yes hf]
            rw [hb2]
            clear hb2 hf
            obtain ⟨ocA1, ocA2⟩ := cp_A.out
            go_wp2_with fail
            go_at_call 19
            refine (readFrame_impl _ _ _ _ _ r_A (by omega) ocA1 ocA2).mono ?_
            intro e w12 hd
            obtain ⟨a_Z, n_Z, c_Z, rfl, o_Z, hb⟩ := hd
            replace B := B.trans (hb.mono B.size)
            replace rF := rF.below hb (Nat.le_refl _)
            replace K := Lib.hid (K.out.belowSelf hb)
            replace r_A := r_A.below hb (Nat.le_refl _)
            have r_Z := o_Z.row
            clear hb o_Z
            rw [hrb] at r_Z ⊢
            clear hrb
            replace r_Z : Row w12 1 a_Z n_Z (ints fs) := r_Z
            obtain rfl : nF = n_Z := by have h1 := r_Z.len; have h2 := rF.len; omega
            obtain ⟨XK4, hXK4⟩ : ∃ X, w12.heap.size = X := ⟨_, rfl⟩
            replace B := B.alloc B.size (.cells #[.int .i64 k, .int .i64 m, .slice a_Z nF c_Z] 28)
            replace rF := rF.alloc (.cells #[.int .i64 k, .int .i64 m, .slice a_Z nF c_Z] 28)
            replace K := Lib.hid (K.out.alloc (.cells #[.int .i64 k, .int .i64 m, .slice a_Z nF c_Z] 28))
            replace r_A := r_A.alloc (.cells #[.int .i64 k, .int .i64 m, .slice a_Z nF c_Z] 28)
            replace r_Z := r_Z.alloc (.cells #[.int .i64 k, .int .i64 m, .slice a_Z nF c_Z] 28)
            have K4 := Lib.hid (Blk.new' w12 28 #[.int .i64 k, .int .i64 m, .slice a_Z nF c_Z] (g := XK4) hXK4.symm)
            dsimp only
            have q0 : (w12.alloc (.cells #[.int .i64 k, .int .i64 m, .slice a_Z nF c_Z] 28)).cell? ⟨XK, 0, none⟩ = some (.int .i64 k) := K.out.cell 0
            have q1 : (w12.alloc (.cells #[.int .i64 k, .int .i64 m, .slice a_Z nF c_Z] 28)).cell? ⟨XK, 1, none⟩ = some (.int .i64 m) := K.out.cell 1
            have q2 : (w12.alloc (.cells #[.int .i64 k, .int .i64 m, .slice a_Z nF c_Z] 28)).cell? ⟨XK, 2, none⟩ = some (.slice aF nF cF) := K.out.cell 2
            go_wp2_with fail
            go_at_call 33
            refine (likeFrames_same _ _ _ _ _ _ _ _ _ r_Z rF (by omega)).mono ?_
            rintro e w13 ⟨rfl, hb⟩
            replace B := B.trans (hb.mono B.size)
            replace rF := rF.below hb (Nat.le_refl _)
            replace K := Lib.hid (K.out.belowSelf hb)
            replace r_A := r_A.below hb (Nat.le_refl _)
            replace r_Z := r_Z.below hb (Nat.le_refl _)
            replace K4 := Lib.hid (K4.out.belowSelf hb)
            clear hb q0 q1 q2
            go_wp2
            go_ret
            exact ⟨rfl, B⟩
      · have hzf : ((frameCheck cs).2 == 0) = false := by simpa using hz
        clear hz
        clear rC
        cases hf : frameOk k m fs
        · rw [frameBits_no hf]
          clear hf
          go_wp2
          go_ret
          exact ⟨rfl, B⟩
        · have hrb := readFrame_frame hf
          have hb2 : (frameBits k m fs).2 = 0 := by rw [frameBits_yes hf]
          rw [hb2]
          clear hb2 hf
          obtain ⟨ocA1, ocA2⟩ := cp_A.out
          go_wp2_with fail
          go_at_call 19
          refine (readFrame_impl _ _ _ _ _ r_A (by omega) ocA1 ocA2).mono ?_
          intro e w12 hd
          obtain ⟨a_Z, n_Z, c_Z, rfl, o_Z, hb⟩ := hd
          replace B := B.trans (hb.mono B.size)
          replace rF := rF.below hb (Nat.le_refl _)
          replace K := Lib.hid (K.out.belowSelf hb)
          replace r_A := r_A.below hb (Nat.le_refl _)
          have r_Z := o_Z.row
          clear hb o_Z
          rw [hrb] at r_Z ⊢
          clear hrb
          replace r_Z : Row w12 1 a_Z n_Z (ints fs) := r_Z
          obtain rfl : nF = n_Z := by have h1 := r_Z.len; have h2 := rF.len; omega
          obtain ⟨XK4, hXK4⟩ : ∃ X, w12.heap.size = X := ⟨_, rfl⟩
          replace B := B.alloc B.size (.cells #[.int .i64 k, .int .i64 m, .slice a_Z nF c_Z] 28)
          replace rF := rF.alloc (.cells #[.int .i64 k, .int .i64 m, .slice a_Z nF c_Z] 28)
          replace K := Lib.hid (K.out.alloc (.cells #[.int .i64 k, .int .i64 m, .slice a_Z nF c_Z] 28))
          replace r_A := r_A.alloc (.cells #[.int .i64 k, .int .i64 m, .slice a_Z nF c_Z] 28)
          replace r_Z := r_Z.alloc (.cells #[.int .i64 k, .int .i64 m, .slice a_Z nF c_Z] 28)
          have K4 := Lib.hid (Blk.new' w12 28 #[.int .i64 k, .int .i64 m, .slice a_Z nF c_Z] (g := XK4) hXK4.symm)
          dsimp only
          have q0 : (w12.alloc (.cells #[.int .i64 k, .int .i64 m, .slice a_Z nF c_Z] 28)).cell? ⟨XK, 0, none⟩ = some (.int .i64 k) := K.out.cell 0
          have q1 : (w12.alloc (.cells #[.int .i64 k, .int .i64 m, .slice a_Z nF c_Z] 28)).cell? ⟨XK, 1, none⟩ = some (.int .i64 m) := K.out.cell 1
          have q2 : (w12.alloc (.cells #[.int .i64 k, .int .i64 m, .slice a_Z nF c_Z] 28)).cell? ⟨XK, 2, none⟩ = some (.slice aF nF cF) := K.out.cell 2
          go_wp2_with fail
          go_at_call 33
          refine (likeFrames_same _ _ _ _ _ _ _ _ _ r_Z rF (by omega)).mono ?_
          rintro e w13 ⟨rfl, hb⟩
          replace B := B.trans (hb.mono B.size)
          replace rF := rF.below hb (Nat.le_refl _)
          replace K := Lib.hid (K.out.belowSelf hb)
          replace r_A := r_A.below hb (Nat.le_refl _)
          replace r_Z := r_Z.below hb (Nat.le_refl _)
          replace K4 := Lib.hid (K4.out.belowSelf hb)
          clear hb q0 q1 q2
          go_wp2
          go_ret
          exact ⟨rfl, B⟩

end Go.Proofs.Ytmljcbfpennjkaa.fnFrames
