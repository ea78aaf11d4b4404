/- The walk of FnSpikes: it returns true and writes nothing that was there. -/
import Derived.Test.YtcbehnlpefjhdaaRows
import Derived.Test.YtcbehnlpefjhdaaDrawIndex
import Derived.Test.YtcbehnlpefjhdaaLike
import Derived.Test.YtcbehnlpefjhdaaPSpikes
import Derived.Test.YtcbehnlpefjhdaaDeepF
import Derived.Test.YtcbehnlpefjhdaaShoalF
import Derived.Test.YtcbehnlpefjhdaaMargin
import Derived.Test.YtcbehnlpefjhdaaNear
import Derived.Test.YtcbehnlpefjhdaaOpenY
import Derived.Test.YtcbehnlpefjhdaaSpikeRule
import Derived.WalkKit
import Derived.Handy
namespace Go.Proofs.Ytcbehnlpefjhdaa.fnSpikes
open Go.RowKit
set_option maxRecDepth 100000
set_option linter.unusedVariables false
set_option linter.unusedVariables false

set_option maxRecDepth 100000 in
set_option maxHeartbeats 25600000 in
theorem walk (a0 : Option Addr) (n0 c0 : Nat) (bs : List Nat) (w : World) (f0 : Bytes w a0 n0 bs) :
    Calls Try.prog 3 #[.slice a0 n0 c0] w fun e w' => e = .returned (.bool true) ∧ Below w.heap.size w w' := by
  by_cases hbig : (4096 : Int) < (n0 : Int)
  · go_enter Try.func3, Try.ntmps3
    go_wp2_with (go_at_call 5; refine (big_any _ _ _ _ f0.2.1).mono ?_; rintro e w' ⟨rfl, rfl⟩)
    go_ret
    exact ⟨rfl, Below.refl _ _⟩
  have HC := Lib.hid (f0.code (by omega))
  have hbg := f0.2.1
  clear f0
  go_enter Try.func3, Try.ntmps3
  go_wp2_with (go_at_call 5; refine (big_any _ _ _ _ hbg).mono ?_; rintro e w' ⟨rfl, rfl⟩)
  clear hbig hbg
  have B := Below.refl w.heap.size w
  go_at_call 6
  refine (drawDeepSpikes_any _ _ _ _ _ (HC.out.below B (Nat.le_refl _))).mono ?_
  intro e w1 hd
  obtain ⟨aL, nL, cL, ls, rr, ll, mm, rfl, rL, hL, hb⟩ := hd
  replace B := B.trans (hb.mono B.size)
  clear hb
  obtain ⟨XK, hXK⟩ : ∃ X, w1.heap.size = X := ⟨_, rfl⟩
  replace B := B.alloc B.size (.cells #[.int .i64 rr, .int .i64 ll, .int .i64 mm] 26)
  replace rL := rL.alloc4 (.cells #[.int .i64 rr, .int .i64 ll, .int .i64 mm] 26)
  have K := Lib.hid (Blk.new' w1 26 #[.int .i64 rr, .int .i64 ll, .int .i64 mm] (g := XK) hXK.symm)
  go_wp2_with fail
  go_at_call 7
  refine (deepSpikes_impl _ _ _ _ _ _ _ _ rL (by omega)).mono ?_
  rintro e w2 ⟨a_D, n_D, c_D, rfl, o_D, hb⟩
  replace B := B.trans (hb.mono B.size)
  replace rL := rL.below4 hb (Nat.le_refl _)
  replace K := Lib.hid (K.out.belowSelf hb)
  have r_D := o_D.row
  clear hb o_D
  clear hXK
  have q0 : w2.cell? ⟨XK, 0, none⟩ = some (.int .i64 rr) := K.out.cell 0
  have q1 : w2.cell? ⟨XK, 1, none⟩ = some (.int .i64 ll) := K.out.cell 1
  have q2 : w2.cell? ⟨XK, 2, none⟩ = some (.int .i64 mm) := K.out.cell 2
  go_wp2_with fail
  go_at_call 8
  refine (deepSpikes_spec _ _ _ _ _ _ _ _ rL (by omega)).mono ?_
  rintro e w3 ⟨a_M, n_M, c_M, rfl, o_M, hb⟩
  replace B := B.trans (hb.mono B.size)
  replace rL := rL.below4 hb (Nat.le_refl _)
  replace K := Lib.hid (K.out.belowSelf hb)
  replace r_D := r_D.below hb (Nat.le_refl _)
  have r_M := o_M.row
  clear hb o_M
  clear q0 q1 q2
  obtain rfl : n_M = n_D := by have := r_D.len; have := r_M.len; omega
  have hnM : n_M ≤ 201 := by have := r_M.len; have := spikesOf_len true ls rr ll mm; have := rL.len4; omega
  have q0 : w3.cell? ⟨XK, 0, none⟩ = some (.int .i64 rr) := K.out.cell 0
  have q1 : w3.cell? ⟨XK, 1, none⟩ = some (.int .i64 ll) := K.out.cell 1
  have q2 : w3.cell? ⟨XK, 2, none⟩ = some (.int .i64 mm) := K.out.cell 2
  go_wp2_with fail
  go_at_call 9
  refine (shoalSpikes_impl _ _ _ _ _ _ _ _ rL (by omega)).mono ?_
  rintro e w4 ⟨a_S, n_S, c_S, rfl, o_S, hb⟩
  replace B := B.trans (hb.mono B.size)
  replace rL := rL.below4 hb (Nat.le_refl _)
  replace K := Lib.hid (K.out.belowSelf hb)
  replace r_D := r_D.below hb (Nat.le_refl _)
  replace r_M := r_M.below hb (Nat.le_refl _)
  have r_S := o_S.row
  clear hb o_S
  clear q0 q1 q2
  have q0 : w4.cell? ⟨XK, 0, none⟩ = some (.int .i64 rr) := K.out.cell 0
  have q1 : w4.cell? ⟨XK, 1, none⟩ = some (.int .i64 ll) := K.out.cell 1
  have q2 : w4.cell? ⟨XK, 2, none⟩ = some (.int .i64 mm) := K.out.cell 2
  go_wp2_with fail
  go_at_call 10
  refine (shoalSpikes_spec _ _ _ _ _ _ _ _ rL (by omega)).mono ?_
  rintro e w5 ⟨a_T, n_T, c_T, rfl, o_T, hb⟩
  replace B := B.trans (hb.mono B.size)
  replace rL := rL.below4 hb (Nat.le_refl _)
  replace K := Lib.hid (K.out.belowSelf hb)
  replace r_D := r_D.below hb (Nat.le_refl _)
  replace r_M := r_M.below hb (Nat.le_refl _)
  replace r_S := r_S.below hb (Nat.le_refl _)
  have r_T := o_T.row
  clear hb o_T
  clear q0 q1 q2
  obtain rfl : n_T = n_S := by have := r_S.len; have := r_T.len; omega
  have hnT : n_T ≤ 201 := by have := r_T.len; have := spikesOf_len false ls rr ll mm; have := rL.len4; omega
  go_wp2_with fail
  go_at_call 11
  refine (drawSpikeMargin_any _ _ _ _ _ (HC.out.below B (Nat.le_refl _))).mono ?_
  intro e w6 hd
  obtain ⟨aE, nE, cE, es, r2, l2, m2, ii, rfl, rE, hE, hb⟩ := hd
  replace B := B.trans (hb.mono B.size)
  replace rL := rL.below4 hb (Nat.le_refl _)
  replace K := Lib.hid (K.out.belowSelf hb)
  replace r_D := r_D.below hb (Nat.le_refl _)
  replace r_M := r_M.below hb (Nat.le_refl _)
  replace r_S := r_S.below hb (Nat.le_refl _)
  replace r_T := r_T.below hb (Nat.le_refl _)
  clear hb
  obtain ⟨XK2, hXK2⟩ : ∃ X, w6.heap.size = X := ⟨_, rfl⟩
  replace B := B.alloc B.size (.cells #[.int .i64 r2, .int .i64 l2, .int .i64 m2] 26)
  replace rL := rL.alloc4 (.cells #[.int .i64 r2, .int .i64 l2, .int .i64 m2] 26)
  replace K := Lib.hid (K.out.alloc (.cells #[.int .i64 r2, .int .i64 l2, .int .i64 m2] 26))
  replace r_D := r_D.alloc (.cells #[.int .i64 r2, .int .i64 l2, .int .i64 m2] 26)
  replace r_M := r_M.alloc (.cells #[.int .i64 r2, .int .i64 l2, .int .i64 m2] 26)
  replace r_S := r_S.alloc (.cells #[.int .i64 r2, .int .i64 l2, .int .i64 m2] 26)
  replace r_T := r_T.alloc (.cells #[.int .i64 r2, .int .i64 l2, .int .i64 m2] 26)
  replace rE := rE.alloc4 (.cells #[.int .i64 r2, .int .i64 l2, .int .i64 m2] 26)
  have K2 := Lib.hid (Blk.new' w6 26 #[.int .i64 r2, .int .i64 l2, .int .i64 m2] (g := XK2) hXK2.symm)
  go_wp2_with fail
  go_at_call 12
  refine (spikeMargin_impl _ _ _ _ _ _ _ _ _ rE (by omega)).mono ?_
  rintro e w7 ⟨rfl, hb⟩
  replace B := B.trans (hb.mono B.size)
  replace rL := rL.below4 hb (Nat.le_refl _)
  replace K := Lib.hid (K.out.belowSelf hb)
  replace r_D := r_D.below hb (Nat.le_refl _)
  replace r_M := r_M.below hb (Nat.le_refl _)
  replace r_S := r_S.below hb (Nat.le_refl _)
  replace r_T := r_T.below hb (Nat.le_refl _)
  replace rE := rE.below4 hb (Nat.le_refl _)
  replace K2 := Lib.hid (K2.out.belowSelf hb)
  clear hb
  clear hXK2
  have q0 : w7.cell? ⟨XK2, 0, none⟩ = some (.int .i64 r2) := K2.out.cell 0
  have q1 : w7.cell? ⟨XK2, 1, none⟩ = some (.int .i64 l2) := K2.out.cell 1
  have q2 : w7.cell? ⟨XK2, 2, none⟩ = some (.int .i64 m2) := K2.out.cell 2
  go_wp2_with fail
  go_at_call 13
  refine (spikeMargin_spec _ _ _ _ _ _ _ _ _ rE (by omega)).mono ?_
  rintro e w8 ⟨rfl, hb⟩
  replace B := B.trans (hb.mono B.size)
  replace rL := rL.below4 hb (Nat.le_refl _)
  replace K := Lib.hid (K.out.belowSelf hb)
  replace r_D := r_D.below hb (Nat.le_refl _)
  replace r_M := r_M.below hb (Nat.le_refl _)
  replace r_S := r_S.below hb (Nat.le_refl _)
  replace r_T := r_T.below hb (Nat.le_refl _)
  replace rE := rE.below4 hb (Nat.le_refl _)
  replace K2 := Lib.hid (K2.out.belowSelf hb)
  clear hb q0 q1 q2
  have q0 : w8.cell? ⟨XK2, 0, none⟩ = some (.int .i64 r2) := K2.out.cell 0
  have q1 : w8.cell? ⟨XK2, 1, none⟩ = some (.int .i64 l2) := K2.out.cell 1
  have q2 : w8.cell? ⟨XK2, 2, none⟩ = some (.int .i64 m2) := K2.out.cell 2
  go_wp2_with fail
  go_at_call 14
  refine (neighboursOf_impl _ _ _ _ _ _ _ _ _ rE (by omega)).mono ?_
  rintro e w9 ⟨a_N, n_N, c_N, rfl, o_N, hb⟩
  replace B := B.trans (hb.mono B.size)
  replace rL := rL.below4 hb (Nat.le_refl _)
  replace K := Lib.hid (K.out.belowSelf hb)
  replace r_D := r_D.below hb (Nat.le_refl _)
  replace r_M := r_M.below hb (Nat.le_refl _)
  replace r_S := r_S.below hb (Nat.le_refl _)
  replace r_T := r_T.below hb (Nat.le_refl _)
  replace rE := rE.below4 hb (Nat.le_refl _)
  replace K2 := Lib.hid (K2.out.belowSelf hb)
  have r_N := o_N.row
  clear hb o_N
  clear q0 q1 q2
  have q0 : w9.cell? ⟨XK2, 0, none⟩ = some (.int .i64 r2) := K2.out.cell 0
  have q1 : w9.cell? ⟨XK2, 1, none⟩ = some (.int .i64 l2) := K2.out.cell 1
  have q2 : w9.cell? ⟨XK2, 2, none⟩ = some (.int .i64 m2) := K2.out.cell 2
  go_wp2_with fail
  go_at_call 15
  refine (neighboursOf_spec _ _ _ _ _ _ _ _ _ rE (by omega)).mono ?_
  rintro e w10 ⟨a_P, n_P, c_P, rfl, o_P, hb⟩
  replace B := B.trans (hb.mono B.size)
  replace rL := rL.below4 hb (Nat.le_refl _)
  replace K := Lib.hid (K.out.belowSelf hb)
  replace r_D := r_D.below hb (Nat.le_refl _)
  replace r_M := r_M.below hb (Nat.le_refl _)
  replace r_S := r_S.below hb (Nat.le_refl _)
  replace r_T := r_T.below hb (Nat.le_refl _)
  replace rE := rE.below4 hb (Nat.le_refl _)
  replace K2 := Lib.hid (K2.out.belowSelf hb)
  replace r_N := r_N.below hb (Nat.le_refl _)
  have r_P := o_P.row
  clear hb o_P
  clear q0 q1 q2
  obtain rfl : n_P = n_N := by have := r_N.len; have := r_P.len; omega
  have hnP : n_P ≤ 201 := by have := r_P.len; have := neighboursOf_len es r2 l2 m2 ii; have := rE.len4; omega
  have e0 : ((spikesOf true ls rr ll mm).2 != (spikesOf true ls rr ll mm).2) = false := by simp
  have e1 : ((spikesOf false ls rr ll mm).2 != (spikesOf false ls rr ll mm).2) = false := by simp
  have e2 : ((spikeMargin es r2 l2 m2 ii).2 != (spikeMargin es r2 l2 m2 ii).2) = false := by simp
  have e3 : ((spikeMargin es r2 l2 m2 ii).1 != (spikeMargin es r2 l2 m2 ii).1) = false := by simp
  have e4 : ((neighboursOf es r2 l2 m2 ii).2 != (neighboursOf es r2 l2 m2 ii).2) = false := by simp
  have e5 : (spikeRuleOk rr ll mm != spikeRuleOk rr ll mm) = false := by simp
  go_upto_region 13 with (fail)
  go_cut [144] (fun v wx => v = .bool false ∧ Below w.heap.size w wx ∧ Hid (Row wx 4 aL nL (frs ls)) ∧ Hid (Blk wx XK 26 #[.int .i64 rr, .int .i64 ll, .int .i64 mm]) ∧ Hid (Row wx 1 a_D n_M (ints ((spikesOf true ls rr ll mm).1))) ∧ Hid (Row wx 1 a_M n_M (ints ((spikesOf true ls rr ll mm).1))) ∧ Hid (Row wx 1 a_S n_T (ints ((spikesOf false ls rr ll mm).1))) ∧ Hid (Row wx 1 a_T n_T (ints ((spikesOf false ls rr ll mm).1))) ∧ Hid (Row wx 4 aE nE (frs es)) ∧ Hid (Blk wx XK2 26 #[.int .i64 r2, .int .i64 l2, .int .i64 m2]) ∧ Hid (Row wx 1 a_N n_P (ints ((neighboursOf es r2 l2 m2 ii).1))) ∧ Hid (Row wx 1 a_P n_P (ints ((neighboursOf es r2 l2 m2 ii).1))))
  case first => as_aux_lemma =>
    go_wp2_with fail
    replace B := B.drew
    replace rL := rL.drew
    replace K := Lib.hid K.out.drew
    replace r_D := r_D.drew
    replace r_M := r_M.drew
    replace r_S := r_S.drew
    replace r_T := r_T.drew
    replace rE := rE.drew
    replace K2 := Lib.hid K2.out.drew
    replace r_N := r_N.drew
    replace r_P := r_P.drew
    go_region_held3 (fun w' => w'.cell? ⟨XK, 0, none⟩ = some (.int .i64 rr) ∧ w'.cell? ⟨XK, 1, none⟩ = some (.int .i64 ll) ∧ w'.cell? ⟨XK, 2, none⟩ = some (.int .i64 mm)) (exact ⟨K.out.cell 0, K.out.cell 1, K.out.cell 2⟩) (first | (go_at_call_of 16 (Value.slice a_D n_M c_D); (with_reducible refine (likeInts_same _ _ _ _ _ _ _ r_D r_M (by omega)).mono ?_); rintro e w11 ⟨rfl, hb⟩; replace B := B.trans (hb.mono B.size); replace rL := rL.below4 hb (Nat.le_refl _); replace K := Lib.hid (K.out.belowSelf hb); replace r_D := r_D.below hb (Nat.le_refl _); replace r_M := r_M.below hb (Nat.le_refl _); replace r_S := r_S.below hb (Nat.le_refl _); replace r_T := r_T.below hb (Nat.le_refl _); replace rE := rE.below4 hb (Nat.le_refl _); replace K2 := Lib.hid (K2.out.belowSelf hb); replace r_N := r_N.below hb (Nat.le_refl _); replace r_P := r_P.below hb (Nat.le_refl _); clear hb) | (go_at_call_of 16 (Value.slice a_S n_T c_S); (with_reducible refine (likeInts_same _ _ _ _ _ _ _ r_S r_T (by omega)).mono ?_); rintro e w12 ⟨rfl, hb⟩; replace B := B.trans (hb.mono B.size); replace rL := rL.below4 hb (Nat.le_refl _); replace K := Lib.hid (K.out.belowSelf hb); replace r_D := r_D.below hb (Nat.le_refl _); replace r_M := r_M.below hb (Nat.le_refl _); replace r_S := r_S.below hb (Nat.le_refl _); replace r_T := r_T.below hb (Nat.le_refl _); replace rE := rE.below4 hb (Nat.le_refl _); replace K2 := Lib.hid (K2.out.belowSelf hb); replace r_N := r_N.below hb (Nat.le_refl _); replace r_P := r_P.below hb (Nat.le_refl _); clear hb) | (go_at_call_of 16 (Value.slice a_N n_P c_N); (with_reducible refine (likeInts_same _ _ _ _ _ _ _ r_N r_P (by omega)).mono ?_); rintro e w13 ⟨rfl, hb⟩; replace B := B.trans (hb.mono B.size); replace rL := rL.below4 hb (Nat.le_refl _); replace K := Lib.hid (K.out.belowSelf hb); replace r_D := r_D.below hb (Nat.le_refl _); replace r_M := r_M.below hb (Nat.le_refl _); replace r_S := r_S.below hb (Nat.le_refl _); replace r_T := r_T.below hb (Nat.le_refl _); replace rE := rE.below4 hb (Nat.le_refl _); replace K2 := Lib.hid (K2.out.belowSelf hb); replace r_N := r_N.below hb (Nat.le_refl _); replace r_P := r_P.below hb (Nat.le_refl _); clear hb) | (go_at_call 17; refine (isSpikeRule_impl _ _ _ _).mono ?_; rintro e w14 ⟨rfl, hb⟩; replace B := B.trans (hb.mono B.size); replace rL := rL.below4 hb (Nat.le_refl _); replace K := Lib.hid (K.out.belowSelf hb); replace r_D := r_D.below hb (Nat.le_refl _); replace r_M := r_M.below hb (Nat.le_refl _); replace r_S := r_S.below hb (Nat.le_refl _); replace r_T := r_T.below hb (Nat.le_refl _); replace rE := rE.below4 hb (Nat.le_refl _); replace K2 := Lib.hid (K2.out.belowSelf hb); replace r_N := r_N.below hb (Nat.le_refl _); replace r_P := r_P.below hb (Nat.le_refl _); clear hb) | (go_at_call 18; refine (isSpikeRule_spec _ _ _ _).mono ?_; rintro e w15 ⟨rfl, hb⟩; replace B := B.trans (hb.mono B.size); replace rL := rL.below4 hb (Nat.le_refl _); replace K := Lib.hid (K.out.belowSelf hb); replace r_D := r_D.below hb (Nat.le_refl _); replace r_M := r_M.below hb (Nat.le_refl _); replace r_S := r_S.below hb (Nat.le_refl _); replace r_T := r_T.below hb (Nat.le_refl _); replace rE := rE.below4 hb (Nat.le_refl _); replace K2 := Lib.hid (K2.out.belowSelf hb); replace r_N := r_N.below hb (Nat.le_refl _); replace r_P := r_P.below hb (Nat.le_refl _); clear hb))
    all_goals (go_wp2_with fail; go_meet; exact ⟨rfl, B, Lib.hid rL, K, Lib.hid r_D, Lib.hid r_M, Lib.hid r_S, Lib.hid r_T, Lib.hid rE, K2, Lib.hid r_N, Lib.hid r_P⟩)
  case rest => as_aux_lemma =>
    clear B rL K r_D r_M r_S r_T rE K2 r_N r_P
    obtain ⟨rfl, B, rL, K, r_D, r_M, r_S, r_T, rE, K2, r_N, r_P⟩ := hcut
    replace rL := rL.out
    replace r_D := r_D.out
    replace r_M := r_M.out
    replace r_S := r_S.out
    replace r_T := r_T.out
    replace rE := rE.out
    replace r_N := r_N.out
    replace r_P := r_P.out
    obtain ⟨w11, rfl⟩ : ∃ w11 : World, w11 = wc := ⟨_, rfl⟩
    clear e0 e1 e2 e3 e4 e5
    clear r_T r_P
    obtain ⟨mg, hmg1⟩ : ∃ mg, (spikeMargin es r2 l2 m2 ii).1 = mg := ⟨_, rfl⟩
    obtain ⟨zc, hzc1⟩ : ∃ zc, (spikeMargin es r2 l2 m2 ii).2 = zc := ⟨_, rfl⟩
    rw [hmg1, hzc1]
    have hmg := Lib.hid hmg1
    have hzc := Lib.hid hzc1
    clear hmg1 hzc1
    go_upto_if 146 with (fail)
    go_cut [24, 25] (fun _ _ wx => Below w.heap.size w wx ∧ Hid (Row wx 4 aL nL (frs ls)) ∧ Hid (Blk wx XK 26 #[.int .i64 rr, .int .i64 ll, .int .i64 mm]) ∧ Hid (Row wx 1 a_D n_M (ints ((spikesOf true ls rr ll mm).1))) ∧ Hid (Row wx 1 a_M n_M (ints ((spikesOf true ls rr ll mm).1))) ∧ Hid (Row wx 1 a_S n_T (ints ((spikesOf false ls rr ll mm).1))))
    case first => as_aux_lemma =>
      by_cases hz : zc = 0
      · subst hz
        have hms := margin_spike hzc.out
        have hlN := Lib.hid r_N.len
        have q0 : w11.cell? ⟨XK2, 0, none⟩ = some (.int .i64 r2) := K2.out.cell 0
        have q1 : w11.cell? ⟨XK2, 1, none⟩ = some (.int .i64 l2) := K2.out.cell 1
        have q2 : w11.cell? ⟨XK2, 2, none⟩ = some (.int .i64 m2) := K2.out.cell 2
        go_wp2_with fail
        go_at_call 7
        refine (deepSpikes_impl _ _ _ _ _ _ _ _ rE (by omega)).mono ?_
        rintro e w12 ⟨a_V, n_V, c_V, rfl, o_V, hb⟩
        replace B := B.trans (hb.mono B.size)
        replace rL := rL.below4 hb (Nat.le_refl _)
        replace K := Lib.hid (K.out.belowSelf hb)
        replace r_D := r_D.below hb (Nat.le_refl _)
        replace r_M := r_M.below hb (Nat.le_refl _)
        replace r_S := r_S.below hb (Nat.le_refl _)
        replace rE := rE.below4 hb (Nat.le_refl _)
        replace K2 := Lib.hid (K2.out.belowSelf hb)
        replace r_N := r_N.below hb (Nat.le_refl _)
        have r_V := o_V.row
        clear hb o_V
        clear q0 q1 q2
        rw [hms.1]
        have hnV : n_V ≤ 201 := by have := r_V.len; have := spikesOf_len true es r2 l2 m2; have := rE.len4; omega
        rw [show ((neighboursOf es r2 l2 m2 ii).1.length : Int) = (n_P : Int) by rw [hlN.out]] at hms
        rw [hmg.out] at hms
        obtain ⟨P, hP⟩ : ∃ P, (decide (l2 ≤ (n_P : Int)) && decide (m2 ≤ mg)) = P := ⟨_, rfl⟩
        have hms2 := hms.2
        rw [hP] at hms2
        clear hms
        have hH := Lib.hid (fun (w' : World) (hr : Row w' 1 a_V n_V (ints (spikesOf true es r2 l2 m2).1)) => (hms2 ▸ hasInt_any a_V n_V c_V (spikesOf true es r2 l2 m2).1 ii w' hr (by omega) : Calls Try.prog 19 #[.slice a_V n_V c_V, .int .i64 ii] w' fun e w'' => e = .returned (.bool P) ∧ w' = w''))
        have hRV := Lib.hid r_V
        clear hms2
        have q1 : w12.cell? ⟨XK2, 1, none⟩ = some (.int .i64 l2) := K2.out.cell 1
        have q2 : w12.cell? ⟨XK2, 2, none⟩ = some (.int .i64 m2) := K2.out.cell 2
        by_cases h1 : l2 ≤ (n_P : Int)
        · by_cases h2 : m2 ≤ mg
          · obtain rfl : P = true := by rw [← hP]; simp [h1, h2]
            clear hP
            go_wp2_with fail
            go_quiet ((go_at_call 19; first | exact quiet_eq (hH.out _ (hRV.out.drewN _)) | exact quiet_eq' (hH.out _ (hRV.out.drewN _))))
            clear q1 q2 hH hRV
            go_wp2_with fail
            go_meet
            exact ⟨bdn B _, Lib.hid (rL.drewN _), Lib.hid (K.out.drewN _), Lib.hid (r_D.drewN _), Lib.hid (r_M.drewN _), Lib.hid (r_S.drewN _)⟩
          · obtain rfl : P = false := by rw [← hP]; simp [h2]
            clear hP
            have d2 : decide (m2 ≤ mg) = false := by simpa using h2
            go_wp2_with fail
            go_quiet ((go_at_call 19; first | exact quiet_eq (hH.out _ (hRV.out.drewN _)) | exact quiet_eq' (hH.out _ (hRV.out.drewN _))))
            clear q1 q2 hH hRV
            go_wp2_with fail
            go_meet
            exact ⟨bdn B _, Lib.hid (rL.drewN _), Lib.hid (K.out.drewN _), Lib.hid (r_D.drewN _), Lib.hid (r_M.drewN _), Lib.hid (r_S.drewN _)⟩
        · obtain rfl : P = false := by rw [← hP]; simp [h1]
          clear hP
          have d1 : decide (l2 ≤ (n_P : Int)) = false := by simpa using h1
          go_wp2_with fail
          go_quiet ((go_at_call 19; first | exact quiet_eq (hH.out _ (hRV.out.drewN _)) | exact quiet_eq' (hH.out _ (hRV.out.drewN _))))
          clear q1 q2 hH hRV
          go_wp2_with fail
          go_meet
          exact ⟨bdn B _, Lib.hid (rL.drewN _), Lib.hid (K.out.drewN _), Lib.hid (r_D.drewN _), Lib.hid (r_M.drewN _), Lib.hid (r_S.drewN _)⟩
      · have hzf : (zc == 0) = false := by simpa using hz
        clear hz
        go_wp2_with fail
        go_meet
        exact ⟨B, Lib.hid rL, K, Lib.hid r_D, Lib.hid r_M, Lib.hid r_S⟩
    case rest => as_aux_lemma =>
      clear B rL K r_D r_M r_S
      obtain ⟨B, rL, K, r_D, r_M, r_S⟩ := hcut
      replace rL := rL.out
      replace r_D := r_D.out
      replace r_M := r_M.out
      replace r_S := r_S.out
      obtain ⟨w12, rfl⟩ : ∃ w12 : World, w12 = wc := ⟨_, rfl⟩
      by_cases hb0 : (spikesOf true ls rr ll mm).2 = 0
      · have hdn := Lib.hid (fun k hk => deep_near (ss := ls) (r := rr) (l := ll) (m := mm) (k := k) hb0 hk)
        rw [hb0]
        clear hb0
        go_wp2
        go_loopw [26] (fun i wr => ∃ k : Nat, k ≤ n_M ∧ i = .int .i64 k ∧ Below w.heap.size w wr ∧ Hid (Row wr 4 aL nL (frs ls)) ∧ Hid (Blk wr XK 26 #[.int .i64 rr, .int .i64 ll, .int .i64 mm]) ∧ Hid (Row wr 1 a_D n_M (ints ((spikesOf true ls rr ll mm).1))) ∧ Hid (Row wr 1 a_M n_M (ints ((spikesOf true ls rr ll mm).1))) ∧ Hid (Row wr 1 a_S n_T (ints ((spikesOf false ls rr ll mm).1)))) (fun i _ => n_M - (intOf i).toNat)
        case atStart => first | exact ⟨0, Nat.zero_le _, rfl, B, Lib.hid rL, K, Lib.hid r_D, Lib.hid r_M, Lib.hid r_S⟩ | exact ⟨0, Nat.zero_le _, rfl, bdn B _, Lib.hid (rL.drewN _), Lib.hid (K.out.drewN _), Lib.hid (r_D.drewN _), Lib.hid (r_M.drewN _), Lib.hid (r_S.drewN _)⟩
        case round => as_aux_lemma =>
          clear B rL K r_D r_M r_S
          obtain ⟨k, hk, rfl, B, rL, K, r_D, r_M, r_S⟩ := hrel
          replace rL := rL.out
          replace r_D := r_D.out
          replace r_M := r_M.out
          replace r_S := r_S.out
          by_cases hlt : k < n_M
          · have hkI : (k : Int) < (n_M : Int) := by omega
            obtain ⟨b, off, x, hab, -, hx⟩ := r_M.at_ hlt
            subst hab
            have hd := Lib.hid (hdn.out x (List.mem_of_getElem? hx.out))
            obtain ⟨w13, rfl⟩ : ∃ w13 : World, w13 = wr := ⟨_, rfl⟩
            have hqm := Lib.hid (r_M.get_ hx.out)
            go_wp2_with fail
            replace B := B.drew
            replace rL := rL.drew
            replace K := Lib.hid K.out.drew
            replace r_D := r_D.drew
            replace r_M := r_M.drew
            replace r_S := r_S.drew
            replace hqm := Lib.hid (cell_drew hqm.out)
            go_region_held3 (fun w' => w'.cell? ⟨XK, 0, none⟩ = some (.int .i64 rr) ∧ w'.cell? ⟨XK, 1, none⟩ = some (.int .i64 ll) ∧ w'.cell? ⟨XK, 2, none⟩ = some (.int .i64 mm) ∧ w'.cell? ⟨b, off + k, none⟩ = some (.int .i64 x)) (exact ⟨K.out.cell 0, K.out.cell 1, K.out.cell 2, hqm.out⟩) (first | (go_at_call 14; refine (neighboursOf_impl _ _ _ _ _ _ _ _ _ rL (by omega)).mono ?_; rintro e w14 ⟨a_A, n_A, c_A, rfl, o_A, hb⟩; replace B := B.trans (hb.mono B.size); replace rL := rL.below4 hb (Nat.le_refl _); replace K := Lib.hid (K.out.belowSelf hb); replace r_D := r_D.below hb (Nat.le_refl _); replace r_M := r_M.below hb (Nat.le_refl _); replace r_S := r_S.below hb (Nat.le_refl _); replace hqm := Lib.hid (Below.cellSelf hb hqm.out); have r_A := o_A.row; clear hb o_A))
            clear hqm
            have hqm := Lib.hid (r_M.get_ hx.out)
            go_wp2_with fail
            replace B := B.drew
            replace rL := rL.drew
            replace K := Lib.hid K.out.drew
            replace r_D := r_D.drew
            replace r_M := r_M.drew
            replace r_S := r_S.drew
            replace r_A := r_A.drew
            replace hqm := Lib.hid (cell_drew hqm.out)
            go_region_held3 (fun w' => w'.cell? ⟨XK, 0, none⟩ = some (.int .i64 rr) ∧ w'.cell? ⟨XK, 1, none⟩ = some (.int .i64 ll) ∧ w'.cell? ⟨XK, 2, none⟩ = some (.int .i64 mm) ∧ w'.cell? ⟨b, off + k, none⟩ = some (.int .i64 x)) (exact ⟨K.out.cell 0, K.out.cell 1, K.out.cell 2, hqm.out⟩) (first | (go_at_call 15; refine (neighboursOf_spec _ _ _ _ _ _ _ _ _ rL (by omega)).mono ?_; rintro e w15 ⟨a_C, n_C, c_C, rfl, o_C, hb⟩; replace B := B.trans (hb.mono B.size); replace rL := rL.below4 hb (Nat.le_refl _); replace K := Lib.hid (K.out.belowSelf hb); replace r_D := r_D.below hb (Nat.le_refl _); replace r_M := r_M.below hb (Nat.le_refl _); replace r_S := r_S.below hb (Nat.le_refl _); replace r_A := r_A.below hb (Nat.le_refl _); replace hqm := Lib.hid (Below.cellSelf hb hqm.out); have r_C := o_C.row; clear hb o_C))
            clear hqm
            obtain rfl : n_C = n_A := by have := r_A.len; have := r_C.len; omega
            have hnC : n_C ≤ 201 := by have := r_C.len; have := neighboursOf_len ls rr ll mm x; have := rL.len4; omega
            have hn0 : 0 < n_C := by have := r_C.len; have := hd.out.2.1; omega
            rw [hd.out.1]
            go_wp2_with fail
            go_at_call 16
            refine (likeInts_same _ _ _ _ _ _ _ r_A r_C (by omega)).mono ?_
            rintro e w16 ⟨rfl, hb⟩
            replace B := B.trans (hb.mono B.size)
            replace rL := rL.below4 hb (Nat.le_refl _)
            replace K := Lib.hid (K.out.belowSelf hb)
            replace r_D := r_D.below hb (Nat.le_refl _)
            replace r_M := r_M.below hb (Nat.le_refl _)
            replace r_S := r_S.below hb (Nat.le_refl _)
            replace r_A := r_A.below hb (Nat.le_refl _)
            replace r_C := r_C.below hb (Nat.le_refl _)
            clear hb
            clear r_C
            have hcz : ((n_C : Int) == 0) = false := by simp; omega
            have qm := r_M.get_ hx.out
            have hH := Lib.hid (hd.out.2.2.1 ▸ hasInt_any a_S n_T c_S (spikesOf false ls rr ll mm).1 x w16 r_S (by omega))
            go_wp2_with (go_at_call 19; refine (hH.out).mono ?_; rintro e w' ⟨rfl, rfl⟩)
            clear qm hcz hH
            go_loopw [31] (fun i wi => ∃ j : Nat, j ≤ n_C ∧ i = .int .i64 j ∧ wi = w16) (fun i _ => n_C - (intOf i).toNat)
            case atStart => exact ⟨0, Nat.zero_le _, rfl, rfl⟩
            case round => as_aux_lemma =>
              obtain ⟨j, hj, rfl, rfl⟩ := hrel
              by_cases hjlt : j < n_C
              · have hjI : (j : Int) < (n_C : Int) := by omega
                obtain ⟨b2, off2, y, hab2, hcy, hy⟩ := r_A.at_ hjlt
                subst hab2
                have hH := Lib.hid ((hd.out.2.2.2 y (List.mem_of_getElem? hy.out)) ▸ hasInt_any a_D n_M c_D (spikesOf true ls rr ll mm).1 y _ r_D (by omega))
                go_wp2_with (go_at_call 19; refine (hH.out).mono ?_; rintro e w' ⟨rfl, rfl⟩)
                go_roundw
                case rel => exact ⟨j + 1, by omega, by go_num, by first | rfl | trivial⟩
                case measure => simp [intOf]; omega
              · go_wp2
                go_roundw
                case rel => exact ⟨k + 1, by omega, by go_num, B, Lib.hid rL, K, Lib.hid r_D, Lib.hid r_M, Lib.hid r_S⟩
                case measure => simp [intOf]; omega
          · go_wp2
            go_ret
            exact ⟨rfl, B⟩
      · have hbf : ((spikesOf true ls rr ll mm).2 == 0) = false := by simpa using hb0
        clear hb0
        go_wp2
        go_loopw [26] (fun i wr => i = .int .i64 0 ∧ Below w.heap.size w wr) (fun _ _ => 0)
        case atStart => first | exact ⟨rfl, B⟩ | exact ⟨rfl, bdn B _⟩
        case round => as_aux_lemma =>
          clear B
          obtain ⟨rfl, B⟩ := hrel
          go_wp2
          go_ret
          exact ⟨rfl, B⟩

end Go.Proofs.Ytcbehnlpefjhdaa.fnSpikes
