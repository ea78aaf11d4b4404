/- The walk of FnStuffed: it returns true and writes nothing that was there. -/
import Derived.Test.YtgaiegdheccegaaRows
import Derived.Test.YtgaiegdheccegaaFStuffed
import Derived.WalkKit
import Derived.Handy
namespace Go.Proofs.Ytgaiegdheccegaa.fnStuffed
open Go.RowKit
set_option maxRecDepth 100000
set_option linter.unusedVariables false
set_option linter.unusedVariables false

set_option maxRecDepth 100000 in
set_option maxHeartbeats 6400000 in
theorem walk (a0 : Option Addr) (n0 c0 : Nat) (bs : List Nat) (w : World) (f0 : Bytes w a0 n0 bs) :
    Calls Try.prog 6 #[.slice a0 n0 c0] w fun e w' => e = .returned (.bool true) ∧ Below w.heap.size w w' := by
  by_cases hbig : (4096 : Int) < (n0 : Int)
  · go_enter Try.func6, Try.ntmps6
    go_wp2_with (go_at_call 27; refine (big_any _ _ _ _ f0.2.1).mono ?_; rintro e w' ⟨rfl, rfl⟩)
    go_ret
    exact ⟨rfl, Below.refl _ _⟩
  have hC := f0.code (by omega)
  go_enter Try.func6, Try.ntmps6
  go_wp2_with (go_at_call 27; refine (big_any _ _ _ _ f0.2.1).mono ?_; rintro e w' ⟨rfl, rfl⟩)
  go_at_call 28
  refine (drawStuffBits_any _ _ _ _ _ hC).mono ?_
  intro e w1 hd
  obtain ⟨a, m, c, ys, rfl, r1, hm, B⟩ := hd
  have HC := Lib.hid hC
  have hml := Lib.hid r1.len
  clear hC f0 hbig
  go_wp2_with fail
  go_at_call 29
  refine (stuffBits_impl _ _ _ _ _ r1 (by omega)).mono ?_
  rintro e w2 ⟨aS, nS, cS, rfl, o2, hb⟩
  replace B := B.trans (hb.mono B.size)
  replace r1 := r1.below hb (Nat.le_refl _)
  have rS := o2.row
  clear hb o2
  go_wp2_with fail
  go_at_call 30
  refine (stuffBits_spec _ _ _ _ _ r1 (by omega)).mono ?_
  rintro e w3 ⟨aM, nM, cM, rfl, o3, hb⟩
  replace B := B.trans (hb.mono B.size)
  replace r1 := r1.below hb (Nat.le_refl _)
  replace rS := rS.below hb (Nat.le_refl _)
  have rM := o3.row
  obtain rfl : nM = nS := by have := rS.len; have := rM.len; omega
  have hnS : nM ≤ 1200 := by have := rS.len; have := stuffBits_len ys; omega
  clear hb o3
  go_wp2_with fail
  go_at_call 31
  refine (drawUnstuffBits_any _ _ _ _ _ (HC.out.below B (Nat.le_refl _))).mono ?_
  intro e w4 hd
  obtain ⟨aO, nO, cO, zs, rfl, rO, hO, hb⟩ := hd
  replace B := B.trans (hb.mono B.size)
  replace r1 := r1.below hb (Nat.le_refl _)
  replace rS := rS.below hb (Nat.le_refl _)
  replace rM := rM.below hb (Nat.le_refl _)
  clear hb HC
  go_wp2_with fail
  go_at_call 32
  refine (unstuffBits_impl _ _ _ _ _ rO (by omega)).mono ?_
  rintro e w5 ⟨aU, nU, cU, rfl, o5, hb⟩
  replace B := B.trans (hb.mono B.size)
  replace r1 := r1.below hb (Nat.le_refl _)
  replace rS := rS.below hb (Nat.le_refl _)
  replace rM := rM.below hb (Nat.le_refl _)
  replace rO := rO.below hb (Nat.le_refl _)
  have rU := o5.row
  clear hb o5
  go_wp2_with fail
  go_at_call 33
  refine (unstuffBits_spec _ _ _ _ _ rO (by omega)).mono ?_
  rintro e w6 ⟨aR, nR, cR, rfl, o6, hb⟩
  replace B := B.trans (hb.mono B.size)
  replace r1 := r1.below hb (Nat.le_refl _)
  replace rS := rS.below hb (Nat.le_refl _)
  replace rM := rM.below hb (Nat.le_refl _)
  replace rO := rO.below hb (Nat.le_refl _)
  replace rU := rU.below hb (Nat.le_refl _)
  have rR := o6.row
  obtain rfl : nR = nU := by have := rU.len; have := rR.len; omega
  have hnU : nR ≤ 1200 := by have := rU.len; have := unstuffBits_len zs; omega
  clear hb o6
  have e1 : ((stuffBits ys).2 != (stuffBits ys).2) = false := by simp
  have e2 : ((unstuffBits zs).2 != (unstuffBits zs).2) = false := by simp
  go_wp2_with fail
  go_at_call 34
  refine (likeInts_same _ _ _ _ _ _ _ rS rM (by omega)).mono ?_
  rintro e w7 ⟨rfl, hb⟩
  replace B := B.trans (hb.mono B.size)
  replace r1 := r1.below hb (Nat.le_refl _)
  replace rS := rS.below hb (Nat.le_refl _)
  replace rO := rO.below hb (Nat.le_refl _)
  replace rU := rU.below hb (Nat.le_refl _)
  replace rR := rR.below hb (Nat.le_refl _)
  clear hb rM
  go_wp2_with fail
  go_at_call 34
  refine (likeInts_same _ _ _ _ _ _ _ rU rR (by omega)).mono ?_
  rintro e w8 ⟨rfl, hb⟩
  replace B := B.trans (hb.mono B.size)
  replace r1 := r1.below hb (Nat.le_refl _)
  replace rS := rS.below hb (Nat.le_refl _)
  replace rO := rO.below hb (Nat.le_refl _)
  replace rU := rU.below hb (Nat.le_refl _)
  clear hb rR e1 e2
  by_cases hz : (unstuffBits zs).2 = 0
  · have hag := Lib.hid (stuff_again hz)
    have e3 : ((unstuffBits zs).2 == 0) = true := by simpa using hz
    clear hz
    go_wp2_with fail
    go_at_call 29
    refine (stuffBits_impl _ _ _ _ _ rU (by omega)).mono ?_
    rintro e w9 ⟨aA, nA, cA, rfl, o9, hb⟩
    replace B := B.trans (hb.mono B.size)
    replace r1 := r1.below hb (Nat.le_refl _)
    replace rS := rS.below hb (Nat.le_refl _)
    replace rO := rO.below hb (Nat.le_refl _)
    have rA := o9.row
    rw [hag.out] at rA ⊢
    replace rA : Row w9 1 aA nA (ints zs) := rA
    obtain rfl : nA = nO := by have := rA.len; have := rO.len; omega
    clear hb o9 rU
    go_wp2_with fail
    go_at_call 34
    refine (likeInts_same _ _ _ _ _ _ _ rA rO (by omega)).mono ?_
    rintro e w10 ⟨rfl, hb⟩
    replace B := B.trans (hb.mono B.size)
    replace r1 := r1.below hb (Nat.le_refl _)
    replace rS := rS.below hb (Nat.le_refl _)
    clear hb rA rO e3 hag
    by_cases hs0 : (stuffBits ys).2 = 0
    · have e4 : ((stuffBits ys).2 != 0) = false := by simpa using hs0
      obtain ⟨run, hrun, hr5⟩ := run_five hs0
      have hub := Lib.hid (unstuff_back hs0)
      replace hrun := Lib.hid hrun
      clear hs0
      go_wp2_with fail
      go_at_call 32
      refine (unstuffBits_impl _ _ _ _ _ rS (by omega)).mono ?_
      rintro e wb ⟨aB, nB, cB, rfl, ob, hb⟩
      replace B := B.trans (hb.mono B.size)
      replace r1 := r1.below hb (Nat.le_refl _)
      replace rS := rS.below hb (Nat.le_refl _)
      have rB := ob.row
      rw [hub.out] at rB ⊢
      replace rB : Row wb 1 aB nB (ints ys) := rB
      obtain rfl : nB = m := by have := rB.len; have := r1.len; omega
      clear hb ob hub
      go_wp2_with fail
      go_at_call 35
      refine (longestRun_impl _ _ _ _ _ rS (by omega)).mono ?_
      rintro e wc ⟨rfl, hb⟩
      rw [hrun.out]
      replace B := B.trans (hb.mono B.size)
      replace r1 := r1.below hb (Nat.le_refl _)
      replace rB := rB.below hb (Nat.le_refl _)
      clear hb rS hrun
      go_wp2_with fail
      go_at_call 34
      refine (likeInts_same _ _ _ _ _ _ _ rB r1 (by omega)).mono ?_
      rintro e wd ⟨rfl, hb⟩
      replace B := B.trans (hb.mono B.size)
      have hd : decide (run ≤ 5) = true := by simpa using hr5
      clear hb r1 rB
      go_wp2
      go_ret
      exact ⟨rfl, B⟩
    · have e4 : ((stuffBits ys).2 != 0) = true := by simpa using hs0
      clear hs0
      go_wp2
      go_ret
      exact ⟨rfl, B⟩
  · have e3 : ((unstuffBits zs).2 == 0) = false := by simpa using hz
    clear hz rU rO
    by_cases hs0 : (stuffBits ys).2 = 0
    · have e4 : ((stuffBits ys).2 != 0) = false := by simpa using hs0
      obtain ⟨run, hrun, hr5⟩ := run_five hs0
      have hub := Lib.hid (unstuff_back hs0)
      replace hrun := Lib.hid hrun
      clear hs0
      go_wp2_with fail
      go_at_call 32
      refine (unstuffBits_impl _ _ _ _ _ rS (by omega)).mono ?_
      rintro e wb ⟨aB, nB, cB, rfl, ob, hb⟩
      replace B := B.trans (hb.mono B.size)
      replace r1 := r1.below hb (Nat.le_refl _)
      replace rS := rS.below hb (Nat.le_refl _)
      have rB := ob.row
      rw [hub.out] at rB ⊢
      replace rB : Row wb 1 aB nB (ints ys) := rB
      obtain rfl : nB = m := by have := rB.len; have := r1.len; omega
      clear hb ob hub
      go_wp2_with fail
      go_at_call 35
      refine (longestRun_impl _ _ _ _ _ rS (by omega)).mono ?_
      rintro e wc ⟨rfl, hb⟩
      rw [hrun.out]
      replace B := B.trans (hb.mono B.size)
      replace r1 := r1.below hb (Nat.le_refl _)
      replace rB := rB.below hb (Nat.le_refl _)
      clear hb rS hrun
      go_wp2_with fail
      go_at_call 34
      refine (likeInts_same _ _ _ _ _ _ _ rB r1 (by omega)).mono ?_
      rintro e wd ⟨rfl, hb⟩
      replace B := B.trans (hb.mono B.size)
      have hd : decide (run ≤ 5) = true := by simpa using hr5
      clear hb r1 rB
      go_wp2
      go_ret
      exact ⟨rfl, B⟩
    · have e4 : ((stuffBits ys).2 != 0) = true := by simpa using hs0
      clear hs0
      go_wp2
      go_ret
      exact ⟨rfl, B⟩

end Go.Proofs.Ytgaiegdheccegaa.fnStuffed
