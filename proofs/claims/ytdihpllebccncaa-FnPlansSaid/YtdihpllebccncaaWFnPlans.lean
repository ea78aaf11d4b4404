/- The walk of FnPlans: it returns true and writes nothing that was there. -/
import Derived.Test.YtdihpllebccncaaRows
import Derived.Test.YtdihpllebccncaaDrawPlan
import Derived.Test.YtdihpllebccncaaPPlans
import Derived.Test.YtdihpllebccncaaSpansOf
import Derived.Test.YtdihpllebccncaaOpenY
import Derived.WalkKit
import Derived.Handy
namespace Go.Proofs.Ytdihpllebccncaa.fnPlans
open Go.RowKit
set_option maxRecDepth 100000
set_option linter.unusedVariables false
set_option linter.unusedVariables false

set_option maxRecDepth 100000 in
set_option maxHeartbeats 12800000 in
theorem walk (a0 : Option Addr) (n0 c0 : Nat) (bs : List Nat) (w : World) (f0 : Bytes w a0 n0 bs) :
    Calls Try.prog 5 #[.slice a0 n0 c0] w fun e w' => e = .returned (.bool true) ∧ Below w.heap.size w w' := by
  by_cases hbig : (4096 : Int) < (n0 : Int)
  · go_enter Try.func5, Try.ntmps5
    go_wp2_with (go_at_call 18; refine (big_any _ _ _ _ f0.2.1).mono ?_; rintro e w' ⟨rfl, rfl⟩)
    go_ret
    exact ⟨rfl, Below.refl _ _⟩
  have HC := Lib.hid (f0.code (by omega))
  have hbg := f0.2.1
  clear f0
  go_enter Try.func5, Try.ntmps5
  go_wp2_with (go_at_call 18; refine (big_any _ _ _ _ hbg).mono ?_; rintro e w' ⟨rfl, rfl⟩)
  clear hbig hbg
  have B := Below.refl w.heap.size w
  go_at_call 19
  refine (drawEvenPlan_any _ _ _ _ _ (HC.out.below B (Nat.le_refl _))).mono ?_
  intro e w1 hd
  obtain ⟨Wd, hf, ov, rfl, hb⟩ := hd
  replace B := B.trans (hb.mono B.size)
  clear hb
  go_wp2_with fail
  go_at_call 20
  refine (evenPlan_impl _ _ _ _).mono ?_
  rintro e w2 ⟨a_A, n_A, c_A, rfl, o_A, hb⟩
  replace B := B.trans (hb.mono B.size)
  have r_A := o_A.row
  clear hb o_A
  go_wp2_with fail
  go_at_call 21
  refine (evenPlan_spec _ _ _ _).mono ?_
  rintro e w3 ⟨a_B, n_B, c_B, rfl, o_B, hb⟩
  replace B := B.trans (hb.mono B.size)
  replace r_A := r_A.below hb (Nat.le_refl _)
  have r_B := o_B.row
  clear hb o_B
  obtain rfl : n_A = n_B := by have := r_A.len; have := r_B.len; omega
  have hnA : n_A ≤ 60 := by have := r_A.len; have := evenPlan_len Wd hf ov; omega
  go_wp2_with fail
  go_at_call 22
  refine (drawSpansOf_any _ _ _ _ _ (HC.out.below B (Nat.le_refl _))).mono ?_
  intro e w4 hd
  obtain ⟨aD, nD, cD, ds, st, nu, de, rfl, rD, hD, hb⟩ := hd
  replace B := B.trans (hb.mono B.size)
  replace r_A := r_A.below hb (Nat.le_refl _)
  replace r_B := r_B.below hb (Nat.le_refl _)
  clear hb
  go_wp2_with fail
  go_at_call 23
  refine (spansOf_impl _ _ _ _ _ _ _ _ rD (by omega)).mono ?_
  rintro e w5 ⟨a_S, n_S, c_S, rfl, o_S, hb⟩
  replace B := B.trans (hb.mono B.size)
  replace r_A := r_A.below hb (Nat.le_refl _)
  replace r_B := r_B.below hb (Nat.le_refl _)
  replace rD := rD.below hb (Nat.le_refl _)
  have r_S := o_S.row
  clear hb o_S
  go_wp2_with fail
  go_at_call 24
  refine (spansOf_spec _ _ _ _ _ _ _ _ rD (by omega)).mono ?_
  rintro e w6 ⟨a_T, n_T, c_T, rfl, o_T, hb⟩
  replace B := B.trans (hb.mono B.size)
  replace r_A := r_A.below hb (Nat.le_refl _)
  replace r_B := r_B.below hb (Nat.le_refl _)
  replace rD := rD.below hb (Nat.le_refl _)
  replace r_S := r_S.below2 hb (Nat.le_refl _)
  have r_T := o_T.row
  clear hb o_T
  obtain rfl : n_S = n_T := by have := r_S.len2; have := r_T.len2; omega
  have hnS : n_S ≤ 60 := by have := r_S.len2; have := spansOf_len ds st nu de; omega
  have e0 : ((spansOf ds st nu de).2 != (spansOf ds st nu de).2) = false := by simp
  have e1 : ((evenPlan Wd hf ov).2 != (evenPlan Wd hf ov).2) = false := by simp
  go_wp2_with fail
  go_at_call 25
  refine (likeOwnSpan_same _ _ _ _ _ _ _ r_S r_T (by omega)).mono ?_
  rintro e w7 ⟨rfl, hb⟩
  replace B := B.trans (hb.mono B.size)
  replace r_A := r_A.below hb (Nat.le_refl _)
  replace r_B := r_B.below hb (Nat.le_refl _)
  replace rD := rD.below hb (Nat.le_refl _)
  replace r_S := r_S.below2 hb (Nat.le_refl _)
  replace r_T := r_T.below2 hb (Nat.le_refl _)
  clear hb
  clear r_T
  go_wp2_with fail
  go_at_call 24
  refine (spansOf_spec _ _ _ _ _ _ _ _ rD (by omega)).mono ?_
  rintro e w8 ⟨a_V, n_V, c_V, rfl, o_V, hb⟩
  replace B := B.trans (hb.mono B.size)
  replace r_A := r_A.below hb (Nat.le_refl _)
  replace r_B := r_B.below hb (Nat.le_refl _)
  replace rD := rD.below hb (Nat.le_refl _)
  replace r_S := r_S.below2 hb (Nat.le_refl _)
  have r_V := o_V.row
  clear hb o_V
  obtain rfl : n_S = n_V := by have := r_S.len2; have := r_V.len2; omega
  have e2 : ((n_S : Int) != (n_S : Int)) = false := by simp
  go_wp2_with fail
  go_at_call 26
  refine (likeInts_same _ _ _ _ _ _ _ r_A r_B (by omega)).mono ?_
  rintro e w9 ⟨rfl, hb⟩
  replace B := B.trans (hb.mono B.size)
  replace r_A := r_A.below hb (Nat.le_refl _)
  replace r_B := r_B.below hb (Nat.le_refl _)
  replace rD := rD.below hb (Nat.le_refl _)
  replace r_S := r_S.below2 hb (Nat.le_refl _)
  replace r_V := r_V.below2 hb (Nat.le_refl _)
  clear hb
  clear r_B rD
  obtain ⟨ss, hss⟩ : ∃ ss, (spansOf ds st nu de).1 = ss := ⟨_, rfl⟩
  rw [hss] at r_S r_V
  clear hss
  have HA := Lib.hid r_A
  have HS := Lib.hid r_S
  have HV := Lib.hid r_V
  clear r_A r_S r_V
  go_wp2
  go_loopw [20] (fun i wr => ∃ k : Nat, i = .int .i64 k ∧ k ≤ n_S ∧ Below w.heap.size w wr ∧ Hid (Row wr 2 a_S n_S (prs ss)) ∧ Hid (Row wr 2 a_V n_S (prs ss)) ∧ Hid (Row wr 1 a_A n_A (ints (evenPlan Wd hf ov).1))) (fun i _ => n_S - (intOf i).toNat)
  case atStart => exact ⟨0, rfl, by omega, B, HS, HV, HA⟩
  case round =>
    clear B HS HV HA
    obtain ⟨k, rfl, hk, B, HS, HV, HA⟩ := hrel
    by_cases hlt : k < n_S
    · have hkI : (k : Int) < (n_S : Int) := by omega
      obtain ⟨b, off, x, y, rfl, g0, g1, hx⟩ := HS.out.at2 hlt
      obtain ⟨b2, off2, rfl, -⟩ := HV.out.head2 hlt
      obtain ⟨g2, g3⟩ := HV.out.get2_ hx.out
      clear hx
      have ex : (x == x) = true := by simp
      have ey : (y == y) = true := by simp
      go_wp2_with fail
      go_quiet (fail)
      go_wp2
      go_roundw
      case rel => exact ⟨k + 1, by go_num, by omega, bdn B _, Lib.hid (HS.out.drewN _), Lib.hid (HV.out.drewN _), Lib.hid (HA.out.drewN _)⟩
      case measure => simp [intOf] <;> omega
    · have hkI : ¬ (k : Int) < (n_S : Int) := by omega
      clear HS HV
      by_cases hbad : (evenPlan Wd hf ov).2 = 0
      rotate_left
      · have hf2 : ((evenPlan Wd hf ov).2 != 0) = true := by simpa using hbad
        clear hbad
        go_wp2
        go_ret
        exact ⟨rfl, B⟩
      have HP := Lib.hid (plan_is hbad)
      rw [hbad]
      clear hbad
      generalize (evenPlan Wd hf ov).1 = xs at *
      obtain ⟨⟨pw1, pw2⟩, ⟨ph1, ph2⟩, po1, po2⟩ := HP.out.bd
      have hpos : 0 < n_A := by have := HP.out.pos; have := HA.out.len; omega
      obtain ⟨w20, rfl⟩ : ∃ w20 : World, w20 = wr := ⟨_, rfl⟩
      obtain ⟨H0, hH0⟩ : ∃ H0, w20.heap.size = H0 := ⟨_, rfl⟩
      have O0 := Lib.hid ((Own.lit0 w20 49 2).mono (lo' := H0) (hi' := (w20.alloc (.cells #[] 49)).heap.size) (by omega) (by simp))
      have BH0 := Lib.hid ((Below.refl w20.heap.size w20).alloc (Nat.le_refl _) (.cells #[] 49))
      have B0 := B.alloc B.size (.cells #[] 49)
      have HA0 := Lib.hid (HA.out.alloc (.cells #[] 49))
      have hwH := Lib.hid (show w.heap.size ≤ H0 by have := B.size; omega)
      rw [hH0] at BH0
      have HH := Lib.hid hH0
      clear hH0
      go_wp2
      go_loopw [21, 22] (fun o i wi => ∃ (k cp : Nat) (a' : Option Addr), i = .int .i64 k ∧ o = .slice a' k cp ∧ k ≤ n_A ∧ Hid (Own wi H0 wi.heap.size 49 2 a' k cp (prs (planSpans hf (xs.take k)))) ∧ Below w.heap.size w wi ∧ Hid (Row wi 1 a_A n_A (ints xs)) ∧ Below H0 w20 wi) (fun _ i _ => n_A - (intOf i).toNat)
      case atStart => exact ⟨0, 0, _, rfl, rfl, by omega, O0, B0, HA0, BH0.out⟩
      case round =>
        clear B0 HA0 O0 BH0
        obtain ⟨k, cp, a', rfl, rfl, hk, HO, B2, HA2, BH⟩ := hrel
        have hz := BH.size
        have hzH1 : w20.heap.size ≤ H0 := by have := HH.out; omega
        have hzH2 : H0 ≤ w20.heap.size := by have := HH.out; omega
        have hwH2 := hwH.out
        by_cases hlt : k < n_A
        · have hkI : (k : Int) < (n_A : Int) := by omega
          obtain ⟨b, off, x, rfl, hcA, hx⟩ := HA2.out.at_ hlt
          have hin := HP.out.within k x hx.out
          have hsn := Lib.hid (show prs (planSpans hf (xs.take (k + 1))) = prs (planSpans hf (xs.take k)) ++ prs [(x, hf)] by rw [planSpans_snoc hf hx.out, prs_app])
          by_cases hk0 : k = 0
          · subst hk0
            have hx0 := hx
            rw [Nat.add_zero] at hcA
            go_wp2_with (at_builtin; refine wpList_app _ rfl (.tmp 133) (.tmp 140) _ rfl Try.underlying26 info_Span rfl (by decide) rfl (HO.out.alloc _) rfl (by exact Row.litK _ (prs [(x, hf)]) _ _ 1 2 (by simp) (by rfl)) (prs_one [(x, hf)]) (by decide) (by simp only [maxLen]; omega) (by omega) (by simp; omega) ?_; intro A2 c2 w9 hown9 hb9 _; have BH9 := (BH.alloc (by omega) (.cells #[.int .i64 x, .int .i64 hf] 49)).trans hb9; have HA9 := Lib.hid (HA.out.below BH9 (by omega)); have B9 := B.trans (BH9.mono (by omega)); have hc9 := HA9.out.get_ hx0.out; rw [Nat.add_zero] at hc9)
            go_quiet (fail)
            go_wp2
            go_roundw
            case rel => exact ⟨0 + 1, c2, A2, by go_num, rfl, by omega, by rw [hsn.out]; exact hown9.drewN _, bdn B9 _, Lib.hid (HA9.out.drewN _), bdn BH9 _⟩
            case measure => simp [intOf] <;> omega
          · obtain ⟨k', rfl⟩ : ∃ k', k = k' + 1 := ⟨k - 1, by omega⟩
            clear hk0
            have hsub : ((k' + 1 : Nat) : Int) - 1 = (k' : Int) := by omega
            have hkp : (0 : Int) < ((k' + 1 : Nat) : Int) := by omega
            have hkq : (k' : Int) < (n_A : Int) := by omega
            obtain ⟨y, hy, q1, q2, q3, q4⟩ := HP.out.prev hx.out
            have HY := Lib.hid hy
            clear hy
            have d1 : decide (x ≤ y) = false := by simp; omega
            have d2 : decide (2 * hf - ov < x - y) = false := by simp; omega
            go_wp2_with (at_builtin; refine wpList_app _ rfl (.tmp 133) (.tmp 140) _ rfl Try.underlying26 info_Span rfl (by decide) rfl (HO.out.alloc _) rfl (by exact Row.litK _ (prs [(x, hf)]) _ _ 1 2 (by simp) (by rfl)) (prs_one [(x, hf)]) (by decide) (by simp only [maxLen]; omega) (by omega) (by simp; omega) ?_; intro A2 c2 w9 hown9 hb9 _; have BH9 := (BH.alloc (by omega) (.cells #[.int .i64 x, .int .i64 hf] 49)).trans hb9; have HA9 := Lib.hid (HA.out.below BH9 (by omega)); have B9 := B.trans (BH9.mono (by omega)); have hc9 := HA9.out.get_ hx.out; have hd9 := HA9.out.get_ HY.out)
            go_quiet (fail)
            go_wp2
            go_roundw
            case rel => exact ⟨k' + 1 + 1, c2, A2, by go_num, rfl, by omega, by rw [hsn.out]; exact hown9.drewN _, bdn B9 _, Lib.hid (HA9.out.drewN _), bdn BH9 _⟩
            case measure => simp [intOf] <;> omega
        · obtain rfl : k = n_A := by omega
          have hxl := HA2.out.len
          rw [List.take_of_length_le (by omega)] at HO
          have hco := Lib.hid HP.out.covers
          have hle := Lib.hid HP.out.least
          have HOr := Lib.hid HO.out.row
          clear HO BH
          go_wp2_with fail
          go_at_call 10
          refine (isCovered_impl _ _ _ _ _ _ HOr.out (by omega)).mono ?_
          rintro e w30 ⟨rfl, hb⟩
          rw [hco.out]
          replace B2 := B2.trans (hb.mono B2.size)
          clear hb HOr HA2
          by_cases h1 : k = 1
          · subst h1
            go_wp2
            go_ret
            exact ⟨rfl, B2⟩
          · have hn1 : ((k : Int) == 1) = false := by simp; omega
            have hl2 : 0 < 2 * hf - ov ∧ 2 * hf + ((k : Int) - 2) * (2 * hf - ov) < Wd := by
              rcases hle.out with h | h
              · omega
              · rwa [hxl] at h
            have hs0 : 0 ≤ ((k : Int) - 2) * (2 * hf - ov) := Int.mul_nonneg (by omega) (by omega)
            obtain ⟨hl3, hl4⟩ := hl2
            go_wp2
            go_ret
            exact ⟨rfl, B2⟩

end Go.Proofs.Ytdihpllebccncaa.fnPlans
