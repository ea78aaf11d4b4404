/- The walk of FnBursts: it returns true and writes nothing that was there. -/
import Derived.Test.YtpnhfdppndcpnaaRows
import Derived.Test.YtpnhfdppndcpnaaPBurst
import Derived.Test.YtpnhfdppndcpnaaDrawBurst
import Derived.Test.YtpnhfdppndcpnaaLongRun
import Derived.Test.YtpnhfdppndcpnaaLeastD
import Derived.Test.YtpnhfdppndcpnaaOpenY
import Derived.WalkKit
import Derived.Handy
namespace Go.Proofs.Ytpnhfdppndcpnaa.fnBursts
open Go.RowKit
set_option maxRecDepth 100000
set_option linter.unusedVariables false
set_option linter.unusedVariables false

set_option maxRecDepth 100000 in
set_option maxHeartbeats 12800000 in
theorem walk (a0 : Option Addr) (n0 c0 : Nat) (bs : List Nat) (w : World) (f0 : Bytes w a0 n0 bs) :
    Calls Try.prog 4 #[.slice a0 n0 c0] w fun e w' => e = .returned (.bool true) ∧ Below w.heap.size w w' := by
  by_cases hbig : (4096 : Int) < (n0 : Int)
  · go_enter Try.func4, Try.ntmps4
    go_wp2_with (go_at_call 10; refine (big_any _ _ _ _ f0.2.1).mono ?_; rintro e w' ⟨rfl, rfl⟩)
    go_ret
    exact ⟨rfl, Below.refl _ _⟩
  have HC := Lib.hid (f0.code (by omega))
  have hbg := f0.2.1
  clear f0
  go_enter Try.func4, Try.ntmps4
  go_wp2_with (go_at_call 10; refine (big_any _ _ _ _ hbg).mono ?_; rintro e w' ⟨rfl, rfl⟩)
  clear hbig hbg
  have B := Below.refl w.heap.size w
  go_at_call 11
  refine (drawBurstPlaces_any _ _ _ _ _ (HC.out.below B (Nat.le_refl _))).mono ?_
  intro e w1 hd
  obtain ⟨r, c, f, l, rfl, hr, hc, hf, hl, hb⟩ := hd
  replace B := B.trans (hb.mono B.size)
  clear hb
  have If : I64 f := by unfold I64; omega
  have Il : I64 l := by unfold I64; omega
  go_wp2_with fail
  go_at_call 6
  refine (burstPlaces_impl _ _ _ _ _ If Il).mono ?_
  rintro e w2 ⟨a_V, n_V, c_V, rfl, o_V, hb⟩
  replace B := B.trans (hb.mono B.size)
  have r_V := o_V.row
  clear hb o_V
  go_wp2_with fail
  go_at_call 5
  refine (burstPlaces_spec _ _ _ _ _ If Il).mono ?_
  rintro e w3 ⟨a_X, n_X, c_X, rfl, o_X, hb⟩
  replace B := B.trans (hb.mono B.size)
  replace r_V := r_V.below hb (Nat.le_refl _)
  have r_X := o_X.row
  clear hb o_X
  obtain rfl : n_V = n_X := by have := r_V.len; have := r_X.len; omega
  have hnV : n_V ≤ 1200 := by have := r_V.len; have := burstPlaces_len r c f l; simp [ints] at *; omega
  go_wp2_with fail
  go_at_call 12
  refine (drawLeastDistance_any _ _ _ _ _ (HC.out.below B (Nat.le_refl _))).mono ?_
  intro e w4 hd
  obtain ⟨aY, nY, cY, ys, rfl, rY, hY, hb⟩ := hd
  replace B := B.trans (hb.mono B.size)
  replace r_V := r_V.below hb (Nat.le_refl _)
  replace r_X := r_X.below hb (Nat.le_refl _)
  clear hb
  go_wp2_with fail
  go_at_call 13
  refine (leastDistance_impl _ _ _ _ _ rY (by omega)).mono ?_
  rintro e w5 ⟨rfl, hb⟩
  replace B := B.trans (hb.mono B.size)
  replace r_V := r_V.below hb (Nat.le_refl _)
  replace r_X := r_X.below hb (Nat.le_refl _)
  replace rY := rY.below hb (Nat.le_refl _)
  clear hb
  go_wp2_with fail
  go_at_call 14
  refine (leastDistance_spec _ _ _ _ _ rY (by omega)).mono ?_
  rintro e w6 ⟨rfl, hb⟩
  replace B := B.trans (hb.mono B.size)
  replace r_V := r_V.below hb (Nat.le_refl _)
  replace r_X := r_X.below hb (Nat.le_refl _)
  replace rY := rY.below hb (Nat.le_refl _)
  clear hb
  clear rY
  go_wp2_with fail
  go_at_call 15
  refine (drawRowFill_any _ _ _ _ _ (HC.out.below B (Nat.le_refl _))).mono ?_
  rintro e w7 ⟨⟨x, y, rfl⟩, hb⟩
  replace B := B.trans (hb.mono B.size)
  replace r_V := r_V.below hb (Nat.le_refl _)
  replace r_X := r_X.below hb (Nat.le_refl _)
  clear hb
  go_wp2_with fail
  go_at_call 16
  refine (rowFill_impl _ _ _).mono ?_
  rintro e w8 ⟨rfl, hb⟩
  replace B := B.trans (hb.mono B.size)
  replace r_V := r_V.below hb (Nat.le_refl _)
  replace r_X := r_X.below hb (Nat.le_refl _)
  clear hb
  go_wp2_with fail
  go_at_call 17
  refine (rowFill_spec _ _ _).mono ?_
  rintro e w9 ⟨rfl, hb⟩
  replace B := B.trans (hb.mono B.size)
  replace r_V := r_V.below hb (Nat.le_refl _)
  replace r_X := r_X.below hb (Nat.le_refl _)
  clear hb
  go_wp2_with fail
  go_at_call 18
  refine (drawLongestRun_any _ _ _ _ _ (HC.out.below B (Nat.le_refl _))).mono ?_
  intro e w10 hd
  obtain ⟨aZ, nZ, cZ, zs, rfl, rZ, hZ, hb⟩ := hd
  replace B := B.trans (hb.mono B.size)
  replace r_V := r_V.below hb (Nat.le_refl _)
  replace r_X := r_X.below hb (Nat.le_refl _)
  clear hb
  go_wp2_with fail
  go_at_call 19
  refine (longestRun_impl _ _ _ _ _ rZ (by omega)).mono ?_
  rintro e w11 ⟨rfl, hb⟩
  replace B := B.trans (hb.mono B.size)
  replace r_V := r_V.below hb (Nat.le_refl _)
  replace r_X := r_X.below hb (Nat.le_refl _)
  replace rZ := rZ.below hb (Nat.le_refl _)
  clear hb
  go_wp2_with fail
  go_at_call 20
  refine (longestRun_spec _ _ _ _ _ rZ (by omega)).mono ?_
  rintro e w12 ⟨rfl, hb⟩
  replace B := B.trans (hb.mono B.size)
  replace r_V := r_V.below hb (Nat.le_refl _)
  replace r_X := r_X.below hb (Nat.le_refl _)
  replace rZ := rZ.below hb (Nat.le_refl _)
  clear hb
  clear rZ
  have e0 : ((burstPlaces r c f l).2 != (burstPlaces r c f l).2) = false := by simp
  have e1 : ((leastDistance ys).2 != (leastDistance ys).2) = false := by simp
  have e2 : ((leastDistance ys).1 != (leastDistance ys).1) = false := by simp
  have e3 : ((rowFill x y).2 != (rowFill x y).2) = false := by simp
  have e4 : ((rowFill x y).1 != (rowFill x y).1) = false := by simp
  have e5 : ((longestRun zs).2 != (longestRun zs).2) = false := by simp
  have e6 : ((longestRun zs).1 != (longestRun zs).1) = false := by simp
  go_wp2_with fail
  go_at_call 21
  refine (likeInts_same _ _ _ _ _ _ _ r_V r_X (by omega)).mono ?_
  rintro e w13 ⟨rfl, hb⟩
  replace B := B.trans (hb.mono B.size)
  replace r_V := r_V.below hb (Nat.le_refl _)
  replace r_X := r_X.below hb (Nat.le_refl _)
  clear hb
  clear r_X
  have hrf := @rowFill_facts x y
  generalize (rowFill x y).2 = ze at *
  generalize (rowFill x y).1 = F at *
  clear If Il
  by_cases hz : ze = 0
  · subst hz
    obtain ⟨⟨_, _⟩, ⟨_, _⟩, hm, _, _⟩ := hrf rfl
    have hyz : (y == 0) = false := by simp; omega
    have hm1 : ((x + F) % y != 0) = false := by simp [hm]
    have hm2 : ¬ y ≤ F := by omega
    clear hm hrf
    clear e1 e2 e3 e4 e5 e6
    cases hb : burstOk r c f l
    · rw [burst_no hb] at e0 ⊢
      clear r_V
      go_wp2
      go_ret
      exact ⟨rfl, B⟩
    · have hz : (burstPlaces r c f l).2 = 0 := by rw [burst_yes hb]
      rw [hz] at e0 ⊢
      clear hz e0
      by_cases h2 : l < 2
      · go_wp2
        go_ret
        exact ⟨rfl, B⟩
      by_cases h3 : r < l
      · go_wp2
        go_ret
        exact ⟨rfl, B⟩
      obtain ⟨d, hd1, hd2, hd3⟩ := burst_facts hb (by omega) (by omega)
      obtain rfl : l = (n_V : Int) := by have := r_V.len; omega
      have HD := Lib.hid hd1
      clear hd1 hd3 hb
      go_wp2_with fail
      go_at_call 13
      refine (leastDistance_impl _ _ _ _ _ r_V (by omega)).mono ?_
      rintro e w14 ⟨rfl, hb⟩
      replace B := B.trans (hb.mono B.size)
      replace r_V := r_V.below hb (Nat.le_refl _)
      clear hb
      rw [HD.out]
      clear r_V
      go_wp2
      go_ret
      exact ⟨by first | rfl | (simp; omega), B⟩
  · have hz1 : (ze == 0) = false := by simpa using hz
    clear hz hrf
    clear e1 e2 e3 e4 e5 e6
    cases hb : burstOk r c f l
    · rw [burst_no hb] at e0 ⊢
      clear r_V
      go_wp2
      go_ret
      exact ⟨rfl, B⟩
    · have hz : (burstPlaces r c f l).2 = 0 := by rw [burst_yes hb]
      rw [hz] at e0 ⊢
      clear hz e0
      by_cases h2 : l < 2
      · go_wp2
        go_ret
        exact ⟨rfl, B⟩
      by_cases h3 : r < l
      · go_wp2
        go_ret
        exact ⟨rfl, B⟩
      obtain ⟨d, hd1, hd2, hd3⟩ := burst_facts hb (by omega) (by omega)
      obtain rfl : l = (n_V : Int) := by have := r_V.len; omega
      have HD := Lib.hid hd1
      clear hd1 hd3 hb
      go_wp2_with fail
      go_at_call 13
      refine (leastDistance_impl _ _ _ _ _ r_V (by omega)).mono ?_
      rintro e w14 ⟨rfl, hb⟩
      replace B := B.trans (hb.mono B.size)
      replace r_V := r_V.below hb (Nat.le_refl _)
      clear hb
      rw [HD.out]
      clear r_V
      go_wp2
      go_ret
      exact ⟨by first | rfl | (simp; omega), B⟩

end Go.Proofs.Ytpnhfdppndcpnaa.fnBursts
