/- The walk of FnInterleaved: it returns true and writes nothing that was there. -/
import Derived.Test.YtbkoahikdjbdcaaRows
import Derived.Test.YtbkoahikdjbdcaaFInter
import Derived.Test.YtbkoahikdjbdcaaDrawInter
import Derived.WalkKit
import Derived.Handy
namespace Go.Proofs.Ytbkoahikdjbdcaa.fnInterleaved
open Go.RowKit
set_option maxRecDepth 100000
set_option linter.unusedVariables false
set_option linter.unusedVariables false

set_option maxRecDepth 100000 in
set_option maxHeartbeats 6400000 in
theorem walk (a0 : Option Addr) (n0 c0 : Nat) (bs : List Nat) (w : World) (f0 : Bytes w a0 n0 bs) :
    Calls Try.prog 3 #[.slice a0 n0 c0] w fun e w' => e = .returned (.bool true) ∧ Below w.heap.size w w' := by
  by_cases hbig : (4096 : Int) < (n0 : Int)
  · go_enter Try.func3, Try.ntmps3
    go_wp2_with (go_at_call 6; refine (big_any _ _ _ _ f0.2.1).mono ?_; rintro e w' ⟨rfl, rfl⟩)
    go_ret
    exact ⟨rfl, Below.refl _ _⟩
  have HC := Lib.hid (f0.code (by omega))
  have hbg := f0.2.1
  clear f0
  go_enter Try.func3, Try.ntmps3
  go_wp2_with (go_at_call 6; refine (big_any _ _ _ _ hbg).mono ?_; rintro e w' ⟨rfl, rfl⟩)
  clear hbig hbg
  go_at_call 7
  refine (drawInterleaveBits_any _ _ _ _ _ (HC.out)).mono ?_
  intro e w1 hd
  obtain ⟨a, m, c, ys, R, C, rfl, r1, hm, hR, hC, hb⟩ := hd
  have B := hb
  clear hb
  have hml := Lib.hid r1.len
  have hq := mul_41 hR hC
  go_wp2_with fail
  go_at_call 8
  refine (interleaveBits_impl _ _ _ _ _ _ _ r1 (by omega)).mono ?_
  rintro e w2 ⟨a_X, n_X, c_X, rfl, o_X, hb⟩
  replace B := B.trans (hb.mono B.size)
  replace r1 := r1.below hb (Nat.le_refl _)
  have r_X := o_X.row
  clear hb o_X
  go_wp2_with fail
  go_at_call 9
  refine (interleaveBits_spec _ _ _ _ _ _ _ r1 (by omega)).mono ?_
  rintro e w3 ⟨a_M, n_M, c_M, rfl, o_M, hb⟩
  replace B := B.trans (hb.mono B.size)
  replace r1 := r1.below hb (Nat.le_refl _)
  replace r_X := r_X.below hb (Nat.le_refl _)
  have r_M := o_M.row
  clear hb o_M
  obtain rfl : n_M = n_X := by have := r_X.len; have := r_M.len; omega
  have hnX : n_M ≤ 1200 := by have := r_X.len; have := interleaveBits_len ys R C; omega
  go_wp2_with fail
  go_at_call 10
  refine (drawSortBits_any _ _ _ _ _ (HC.out.below B (Nat.le_refl _))).mono ?_
  intro e w4 hd
  obtain ⟨aO, nO, cO, zs, R2, C2, rfl, rO, hO, hR2, hC2, hb⟩ := hd
  replace B := B.trans (hb.mono B.size)
  replace r1 := r1.below hb (Nat.le_refl _)
  replace r_X := r_X.below hb (Nat.le_refl _)
  replace r_M := r_M.below hb (Nat.le_refl _)
  clear hb
  go_wp2_with fail
  go_at_call 11
  refine (sortBits_impl _ _ _ _ _ _ _ rO (by omega)).mono ?_
  rintro e w5 ⟨a_Y, n_Y, c_Y, rfl, o_Y, hb⟩
  replace B := B.trans (hb.mono B.size)
  replace r1 := r1.below hb (Nat.le_refl _)
  replace r_X := r_X.below hb (Nat.le_refl _)
  replace r_M := r_M.below hb (Nat.le_refl _)
  replace rO := rO.below hb (Nat.le_refl _)
  have r_Y := o_Y.row
  clear hb o_Y
  go_wp2_with fail
  go_at_call 12
  refine (sortBits_spec _ _ _ _ _ _ _ rO (by omega)).mono ?_
  rintro e w6 ⟨a_Z, n_Z, c_Z, rfl, o_Z, hb⟩
  replace B := B.trans (hb.mono B.size)
  replace r1 := r1.below hb (Nat.le_refl _)
  replace r_X := r_X.below hb (Nat.le_refl _)
  replace r_M := r_M.below hb (Nat.le_refl _)
  replace rO := rO.below hb (Nat.le_refl _)
  replace r_Y := r_Y.below hb (Nat.le_refl _)
  have r_Z := o_Z.row
  clear hb o_Z
  obtain rfl : n_Z = n_Y := by have := r_Y.len; have := r_Z.len; omega
  have hnY : n_Z ≤ 1200 := by have := r_Y.len; have := sortBits_len zs R2 C2; omega
  clear rO
  go_wp2_with fail
  go_at_call 13
  refine (drawPlacesFrom_any _ _ _ _ _ (HC.out.below B (Nat.le_refl _))).mono ?_
  intro e w7 hd
  obtain ⟨⟨R3, C3, rfl⟩, hb⟩ := hd
  replace B := B.trans (hb.mono B.size)
  replace r1 := r1.below hb (Nat.le_refl _)
  replace r_X := r_X.below hb (Nat.le_refl _)
  replace r_M := r_M.below hb (Nat.le_refl _)
  replace r_Y := r_Y.below hb (Nat.le_refl _)
  replace r_Z := r_Z.below hb (Nat.le_refl _)
  clear hb
  go_wp2_with fail
  go_at_call 14
  refine (placesFrom_impl _ _ _).mono ?_
  rintro e w8 ⟨a_P, n_P, c_P, rfl, o_P, hb⟩
  replace B := B.trans (hb.mono B.size)
  replace r1 := r1.below hb (Nat.le_refl _)
  replace r_X := r_X.below hb (Nat.le_refl _)
  replace r_M := r_M.below hb (Nat.le_refl _)
  replace r_Y := r_Y.below hb (Nat.le_refl _)
  replace r_Z := r_Z.below hb (Nat.le_refl _)
  have r_P := o_P.row
  clear hb o_P
  go_wp2_with fail
  go_at_call 15
  refine (placesFrom_spec _ _ _).mono ?_
  rintro e w9 ⟨a_Q, n_Q, c_Q, rfl, o_Q, hb⟩
  replace B := B.trans (hb.mono B.size)
  replace r1 := r1.below hb (Nat.le_refl _)
  replace r_X := r_X.below hb (Nat.le_refl _)
  replace r_M := r_M.below hb (Nat.le_refl _)
  replace r_Y := r_Y.below hb (Nat.le_refl _)
  replace r_Z := r_Z.below hb (Nat.le_refl _)
  replace r_P := r_P.below hb (Nat.le_refl _)
  have r_Q := o_Q.row
  clear hb o_Q
  obtain rfl : n_Q = n_P := by have := r_P.len; have := r_Q.len; omega
  have hnP : n_Q ≤ 1600 := by have := r_P.len; have := placesFrom_len R3 C3; omega
  have e1 : ((interleaveBits ys R C).2 != (interleaveBits ys R C).2) = false := by simp
  have e2 : ((sortBits zs R2 C2).2 != (sortBits zs R2 C2).2) = false := by simp
  have e3 : ((placesFrom R3 C3).2 != (placesFrom R3 C3).2) = false := by simp
  go_wp2_with fail
  go_at_call 16
  refine (likeInts_same _ _ _ _ _ _ _ r_X r_M (by omega)).mono ?_
  rintro e w10 ⟨rfl, hb⟩
  replace B := B.trans (hb.mono B.size)
  replace r1 := r1.below hb (Nat.le_refl _)
  replace r_X := r_X.below hb (Nat.le_refl _)
  replace r_M := r_M.below hb (Nat.le_refl _)
  replace r_Y := r_Y.below hb (Nat.le_refl _)
  replace r_Z := r_Z.below hb (Nat.le_refl _)
  replace r_P := r_P.below hb (Nat.le_refl _)
  replace r_Q := r_Q.below hb (Nat.le_refl _)
  clear hb
  clear r_M
  go_wp2_with fail
  go_at_call 16
  refine (likeInts_same _ _ _ _ _ _ _ r_Y r_Z (by omega)).mono ?_
  rintro e w11 ⟨rfl, hb⟩
  replace B := B.trans (hb.mono B.size)
  replace r1 := r1.below hb (Nat.le_refl _)
  replace r_X := r_X.below hb (Nat.le_refl _)
  replace r_Y := r_Y.below hb (Nat.le_refl _)
  replace r_Z := r_Z.below hb (Nat.le_refl _)
  replace r_P := r_P.below hb (Nat.le_refl _)
  replace r_Q := r_Q.below hb (Nat.le_refl _)
  clear hb
  clear r_Y r_Z
  go_wp2_with fail
  go_at_call 16
  refine (likeInts_same _ _ _ _ _ _ _ r_P r_Q (by omega)).mono ?_
  rintro e w12 ⟨rfl, hb⟩
  replace B := B.trans (hb.mono B.size)
  replace r1 := r1.below hb (Nat.le_refl _)
  replace r_X := r_X.below hb (Nat.le_refl _)
  replace r_P := r_P.below hb (Nat.le_refl _)
  replace r_Q := r_Q.below hb (Nat.le_refl _)
  clear hb
  clear r_P r_Q
  clear e1 e2 e3
  by_cases hz : tabCode ys R C = 0
  · obtain ⟨g1, g2, g3, g4, g5⟩ := inter_facts hz
    have hcode : (interleaveBits ys R C).2 = 0 := by simp [interleaveBits, hz]
    rw [hcode]
    have hpf := Lib.hid (placesFrom_yes g2)
    have hso := Lib.hid g1
    have hpl := Lib.hid g3
    have hil := Lib.hid g4
    have hel := Lib.hid g5
    clear hz hcode g1 g2 g3 g4 g5
    obtain rfl : n_M = m := by have := r_X.len; have := hil.out; have := hml.out; omega
    go_wp2_with fail
    go_at_call 11
    refine (sortBits_impl _ _ _ _ _ _ _ r_X (by omega)).mono ?_
    rintro e w13 ⟨a_B, n_B, c_B, rfl, o_B, hb⟩
    replace B := B.trans (hb.mono B.size)
    replace r1 := r1.below hb (Nat.le_refl _)
    replace r_X := r_X.below hb (Nat.le_refl _)
    have r_B := o_B.row
    clear hb o_B
    rw [hso.out] at r_B ⊢
    replace r_B : Row w13 1 a_B n_B (ints ys) := r_B
    obtain rfl : n_B = n_M := by have := r_B.len; have := hml.out; omega
    go_wp2_with fail
    go_at_call 14
    refine (placesFrom_impl _ _ _).mono ?_
    rintro e w14 ⟨a_F, n_F, c_F, rfl, o_F, hb⟩
    replace B := B.trans (hb.mono B.size)
    replace r1 := r1.below hb (Nat.le_refl _)
    replace r_X := r_X.below hb (Nat.le_refl _)
    replace r_B := r_B.below hb (Nat.le_refl _)
    have r_F := o_F.row
    clear hb o_F
    rw [hpf.out] at r_F ⊢
    replace r_F : Row w14 1 a_F n_F (ints (placesL R C)) := r_F
    obtain rfl : n_F = n_B := by have := r_F.len; have := hpl.out; have := hml.out; omega
    have e4 : ((n_F : Int) != (n_F : Int)) = false := by simp
    go_wp2_with fail
    go_at_call 16
    refine (likeInts_same _ _ _ _ _ _ _ r_B r1 (by omega)).mono ?_
    rintro e w15 ⟨rfl, hb⟩
    replace B := B.trans (hb.mono B.size)
    replace r1 := r1.below hb (Nat.le_refl _)
    replace r_X := r_X.below hb (Nat.le_refl _)
    replace r_B := r_B.below hb (Nat.le_refl _)
    replace r_F := r_F.below hb (Nat.le_refl _)
    clear hb
    clear r_B
    go_wp2_with fail
    go_at_call 15
    refine (placesFrom_spec _ _ _).mono ?_
    rintro e w16 ⟨a_O, n_O, c_O, rfl, o_O, hb⟩
    replace B := B.trans (hb.mono B.size)
    replace r1 := r1.below hb (Nat.le_refl _)
    replace r_X := r_X.below hb (Nat.le_refl _)
    replace r_F := r_F.below hb (Nat.le_refl _)
    have r_O := o_O.row
    clear hb o_O
    rw [hpf.out] at r_O ⊢
    replace r_O : Row w16 1 a_O n_O (ints (placesL R C)) := r_O
    obtain rfl : n_O = n_F := by have := r_O.len; have := r_F.len; omega
    clear e4
    go_wp2
    go_loopw [29] (fun i wr => ∃ k : Nat, k ≤ n_O ∧ i = .int .i64 k ∧ Below w16.heap.size w16 wr) (fun i _ => n_O - (intOf i).toNat)
    case atStart => exact ⟨0, Nat.zero_le _, rfl, Below.refl _ _⟩
    case round =>
      obtain ⟨k, hk, rfl, hbel⟩ := hrel
      by_cases hlt : k < n_O
      · obtain ⟨q, x, h1, h2, h3, h4⟩ := hel.out k (by have := hml.out; omega)
        obtain ⟨b1, off1, x1, rfl, hc1, hx1⟩ := (r_X.below hbel (Nat.le_refl _)).at_ hlt
        obtain ⟨b2, off2, x2, rfl, hc2, hx2⟩ := (r_O.below hbel (Nat.le_refl _)).at_ hlt
        have hqm : q < n_O := by have := hml.out; omega
        obtain ⟨b3, off3, x3, rfl, hc3, hx3⟩ := (r1.below hbel (Nat.le_refl _)).at_ hqm
        obtain rfl : x1 = x := by have := hx1.out; rw [h4] at this; injection this with this; exact this.symm
        obtain rfl : x2 = (q : Int) := by have := hx2.out; rw [h1] at this; injection this with this; exact this.symm
        obtain rfl : x3 = x1 := by have := hx3.out; rw [h3] at this; injection this with this; exact this.symm
        have hkI : (k : Int) < (n_O : Int) := by omega
        have hqI : (q : Int) < (n_O : Int) := by omega
        clear h1 h2 h3 h4 hx1 hx2 hx3
        go_wp2_with fail
        go_quiet (fail)
        go_wp2
        go_roundw
        case rel => exact ⟨k + 1, by omega, by go_num, bdn hbel _⟩
        case measure => simp [intOf] <;> omega
      · go_wp2_with fail
        go_at_call 16
        refine (likeInts_same _ _ _ _ _ _ _ (r_F.below hbel (Nat.le_refl _)) (r_O.below hbel (Nat.le_refl _)) (by omega)).mono ?_
        rintro e wz ⟨rfl, hb⟩
        go_wp2
        go_ret
        exact ⟨rfl, (B.trans (hbel.mono B.size)).trans (hb.mono (B.trans (hbel.mono B.size)).size)⟩
  · have e4 : ((interleaveBits ys R C).2 != 0) = true := by simp [interleaveBits, hz]
    clear hz
    go_wp2
    go_ret
    exact ⟨rfl, B⟩

end Go.Proofs.Ytbkoahikdjbdcaa.fnInterleaved
