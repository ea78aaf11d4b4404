/- The walk of FnCleaned: it returns true and writes nothing that was there. -/
import Derived.Test.YtcbehnlpefjhdaaRows
import Derived.Test.YtcbehnlpefjhdaaDrawIndex
import Derived.Test.YtcbehnlpefjhdaaLike
import Derived.Test.YtcbehnlpefjhdaaPClean
import Derived.Test.YtcbehnlpefjhdaaKept
import Derived.Test.YtcbehnlpefjhdaaShoalSnd
import Derived.Test.YtcbehnlpefjhdaaDeepF
import Derived.Test.YtcbehnlpefjhdaaOpenY
import Derived.Test.YtcbehnlpefjhdaaSpikeRule
import Derived.WalkKit
import Derived.Handy
namespace Go.Proofs.Ytcbehnlpefjhdaa.fnCleaned
open Go.RowKit
set_option maxRecDepth 100000
set_option linter.unusedVariables false
set_option linter.unusedVariables false

set_option maxRecDepth 100000 in
set_option maxHeartbeats 25600000 in
theorem walk (a0 : Option Addr) (n0 c0 : Nat) (bs : List Nat) (w : World) (f0 : Bytes w a0 n0 bs) :
    Calls Try.prog 4 #[.slice a0 n0 c0] w fun e w' => e = .returned (.bool true) ∧ Below w.heap.size w w' := by
  by_cases hbig : (4096 : Int) < (n0 : Int)
  · go_enter Try.func4, Try.ntmps4
    go_wp2_with (go_at_call 5; refine (big_any _ _ _ _ f0.2.1).mono ?_; rintro e w' ⟨rfl, rfl⟩)
    go_ret
    exact ⟨rfl, Below.refl _ _⟩
  have HC := Lib.hid (f0.code (by omega))
  have hbg := f0.2.1
  clear f0
  go_enter Try.func4, Try.ntmps4
  go_wp2_with (go_at_call 5; refine (big_any _ _ _ _ hbg).mono ?_; rintro e w' ⟨rfl, rfl⟩)
  clear hbig hbg
  have B := Below.refl w.heap.size w
  go_at_call 20
  refine (drawCleanSoundings_any _ _ _ _ _ (HC.out.below B (Nat.le_refl _))).mono ?_
  intro e w1 hd
  obtain ⟨aL, nL, cL, ls, rr, ll, mm, rfl, rL, hL, hb⟩ := hd
  replace B := B.trans (hb.mono B.size)
  clear hb
  obtain ⟨XK, hXK⟩ : ∃ X, w1.heap.size = X := ⟨_, rfl⟩
  replace B := B.alloc B.size (.cells #[.int .i64 rr, .int .i64 ll, .int .i64 mm] 26)
  replace rL := rL.alloc4 (.cells #[.int .i64 rr, .int .i64 ll, .int .i64 mm] 26)
  have K := Lib.hid (Blk.new' w1 26 #[.int .i64 rr, .int .i64 ll, .int .i64 mm] (g := XK) hXK.symm)
  go_wp2_with fail
  go_at_call 21
  refine (cleanSoundings_impl _ _ _ _ _ _ _ _ rL (by omega)).mono ?_
  rintro e w2 ⟨a_X, n_X, c_X, rfl, o_X, hb⟩
  replace B := B.trans (hb.mono B.size)
  replace rL := rL.below4 hb (Nat.le_refl _)
  replace K := Lib.hid (K.out.belowSelf hb)
  have r_X := o_X.row
  clear hb o_X
  clear hXK
  have q0 : w2.cell? ⟨XK, 0, none⟩ = some (.int .i64 rr) := K.out.cell 0
  have q1 : w2.cell? ⟨XK, 1, none⟩ = some (.int .i64 ll) := K.out.cell 1
  have q2 : w2.cell? ⟨XK, 2, none⟩ = some (.int .i64 mm) := K.out.cell 2
  go_wp2_with fail
  go_at_call 22
  refine (cleanSoundings_spec _ _ _ _ _ _ _ _ rL (by omega)).mono ?_
  rintro e w3 ⟨a_M, n_M, c_M, rfl, o_M, hb⟩
  replace B := B.trans (hb.mono B.size)
  replace rL := rL.below4 hb (Nat.le_refl _)
  replace K := Lib.hid (K.out.belowSelf hb)
  replace r_X := r_X.below4 hb (Nat.le_refl _)
  have r_M := o_M.row
  clear hb o_M
  clear q0 q1 q2
  obtain rfl : n_M = n_X := by have := r_X.len4; have := r_M.len4; omega
  have hnM : n_M ≤ 201 := by have := r_M.len4; have := cleanSoundings_len ls rr ll mm; have := rL.len4; omega
  have q0 : w3.cell? ⟨XK, 0, none⟩ = some (.int .i64 rr) := K.out.cell 0
  have q1 : w3.cell? ⟨XK, 1, none⟩ = some (.int .i64 ll) := K.out.cell 1
  have q2 : w3.cell? ⟨XK, 2, none⟩ = some (.int .i64 mm) := K.out.cell 2
  go_wp2_with fail
  go_at_call 23
  refine (cleanOnce_impl _ _ _ _ _ _ _ _ rL (by omega)).mono ?_
  rintro e w4 ⟨a_O, n_O, c_O, rfl, o_O, hb⟩
  replace B := B.trans (hb.mono B.size)
  replace rL := rL.below4 hb (Nat.le_refl _)
  replace K := Lib.hid (K.out.belowSelf hb)
  replace r_X := r_X.below4 hb (Nat.le_refl _)
  replace r_M := r_M.below4 hb (Nat.le_refl _)
  have r_O := o_O.row
  clear hb o_O
  clear q0 q1 q2
  have q0 : w4.cell? ⟨XK, 0, none⟩ = some (.int .i64 rr) := K.out.cell 0
  have q1 : w4.cell? ⟨XK, 1, none⟩ = some (.int .i64 ll) := K.out.cell 1
  have q2 : w4.cell? ⟨XK, 2, none⟩ = some (.int .i64 mm) := K.out.cell 2
  go_wp2_with fail
  go_at_call 24
  refine (cleanOnce_spec _ _ _ _ _ _ _ _ rL (by omega)).mono ?_
  rintro e w5 ⟨a_P, n_P, c_P, rfl, o_P, hb⟩
  replace B := B.trans (hb.mono B.size)
  replace rL := rL.below4 hb (Nat.le_refl _)
  replace K := Lib.hid (K.out.belowSelf hb)
  replace r_X := r_X.below4 hb (Nat.le_refl _)
  replace r_M := r_M.below4 hb (Nat.le_refl _)
  replace r_O := r_O.below4 hb (Nat.le_refl _)
  have r_P := o_P.row
  clear hb o_P
  clear q0 q1 q2
  obtain rfl : n_P = n_O := by have := r_O.len4; have := r_P.len4; omega
  have hnP : n_P ≤ 201 := by have := r_P.len4; have := cleanOnce_len ls rr ll mm; have := rL.len4; omega
  have q0 : w5.cell? ⟨XK, 0, none⟩ = some (.int .i64 rr) := K.out.cell 0
  have q1 : w5.cell? ⟨XK, 1, none⟩ = some (.int .i64 ll) := K.out.cell 1
  have q2 : w5.cell? ⟨XK, 2, none⟩ = some (.int .i64 mm) := K.out.cell 2
  go_wp2_with fail
  go_at_call 25
  refine (keptSoundings_impl _ _ _ _ _ _ _ _ rL (by omega)).mono ?_
  rintro e w6 ⟨a_E, n_E, c_E, rfl, o_E, hb⟩
  replace B := B.trans (hb.mono B.size)
  replace rL := rL.below4 hb (Nat.le_refl _)
  replace K := Lib.hid (K.out.belowSelf hb)
  replace r_X := r_X.below4 hb (Nat.le_refl _)
  replace r_M := r_M.below4 hb (Nat.le_refl _)
  replace r_O := r_O.below4 hb (Nat.le_refl _)
  replace r_P := r_P.below4 hb (Nat.le_refl _)
  have r_E := o_E.row
  clear hb o_E
  clear q0 q1 q2
  have q0 : w6.cell? ⟨XK, 0, none⟩ = some (.int .i64 rr) := K.out.cell 0
  have q1 : w6.cell? ⟨XK, 1, none⟩ = some (.int .i64 ll) := K.out.cell 1
  have q2 : w6.cell? ⟨XK, 2, none⟩ = some (.int .i64 mm) := K.out.cell 2
  go_wp2_with fail
  go_at_call 26
  refine (keptSoundings_spec _ _ _ _ _ _ _ _ rL (by omega)).mono ?_
  rintro e w7 ⟨a_F, n_F, c_F, rfl, o_F, hb⟩
  replace B := B.trans (hb.mono B.size)
  replace rL := rL.below4 hb (Nat.le_refl _)
  replace K := Lib.hid (K.out.belowSelf hb)
  replace r_X := r_X.below4 hb (Nat.le_refl _)
  replace r_M := r_M.below4 hb (Nat.le_refl _)
  replace r_O := r_O.below4 hb (Nat.le_refl _)
  replace r_P := r_P.below4 hb (Nat.le_refl _)
  replace r_E := r_E.below hb (Nat.le_refl _)
  have r_F := o_F.row
  clear hb o_F
  clear q0 q1 q2
  obtain rfl : n_F = n_E := by have := r_E.len; have := r_F.len; omega
  have hnF : n_F ≤ 201 := by have := r_F.len; have := keptSoundings_len ls rr ll mm; have := rL.len4; omega
  have e0 : ((cleanSoundings ls rr ll mm).2.2 != (cleanSoundings ls rr ll mm).2.2) = false := by simp
  have e1 : ((cleanSoundings ls rr ll mm).2.1 != (cleanSoundings ls rr ll mm).2.1) = false := by simp
  have e2 : ((cleanOnce ls rr ll mm).2 != (cleanOnce ls rr ll mm).2) = false := by simp
  have e3 : ((keptSoundings ls rr ll mm).2 != (keptSoundings ls rr ll mm).2) = false := by simp
  go_wp2_with fail
  go_at_call 27
  refine (likeSoundings_same _ _ _ _ _ _ _ r_X r_M (by omega)).mono ?_
  rintro e w8 ⟨rfl, hb⟩
  replace B := B.trans (hb.mono B.size)
  replace rL := rL.below4 hb (Nat.le_refl _)
  replace K := Lib.hid (K.out.belowSelf hb)
  replace r_X := r_X.below4 hb (Nat.le_refl _)
  replace r_M := r_M.below4 hb (Nat.le_refl _)
  replace r_O := r_O.below4 hb (Nat.le_refl _)
  replace r_P := r_P.below4 hb (Nat.le_refl _)
  replace r_E := r_E.below hb (Nat.le_refl _)
  replace r_F := r_F.below hb (Nat.le_refl _)
  clear hb
  clear r_M
  go_wp2_with fail
  go_at_call 27
  refine (likeSoundings_same _ _ _ _ _ _ _ r_O r_P (by omega)).mono ?_
  rintro e w9 ⟨rfl, hb⟩
  replace B := B.trans (hb.mono B.size)
  replace rL := rL.below4 hb (Nat.le_refl _)
  replace K := Lib.hid (K.out.belowSelf hb)
  replace r_X := r_X.below4 hb (Nat.le_refl _)
  replace r_O := r_O.below4 hb (Nat.le_refl _)
  replace r_P := r_P.below4 hb (Nat.le_refl _)
  replace r_E := r_E.below hb (Nat.le_refl _)
  replace r_F := r_F.below hb (Nat.le_refl _)
  clear hb
  clear r_P r_O
  go_wp2_with fail
  go_at_call 16
  refine (likeInts_same _ _ _ _ _ _ _ r_E r_F (by omega)).mono ?_
  rintro e w10 ⟨rfl, hb⟩
  replace B := B.trans (hb.mono B.size)
  replace rL := rL.below4 hb (Nat.le_refl _)
  replace K := Lib.hid (K.out.belowSelf hb)
  replace r_X := r_X.below4 hb (Nat.le_refl _)
  replace r_E := r_E.below hb (Nat.le_refl _)
  replace r_F := r_F.below hb (Nat.le_refl _)
  clear hb
  clear e0 e1 e2 e3
  by_cases hr : ruleC ls rr ll mm = 0
  · have cf := clean_facts hr
    have hcs : cleanSoundings ls rr ll mm = (chosen ls (cleanL ls rr ll mm).1, (cleanL ls rr ll mm).2, 0) := by rw [cleanSoundings, if_pos hr]
    have hks : keptSoundings ls rr ll mm = ((cleanL ls rr ll mm).1, 0) := by rw [keptSoundings, if_pos hr]
    have HR := Lib.hid hr
    clear hr
    rw [hcs] at r_X ⊢
    rw [hks] at r_E r_F
    clear hcs hks
    obtain ⟨ks, hks⟩ : ∃ ks, (cleanL ls rr ll mm).1 = ks := ⟨_, rfl⟩
    obtain ⟨rd, hrd⟩ : ∃ rd, (cleanL ls rr ll mm).2 = rd := ⟨_, rfl⟩
    have hss := Lib.hid (fun h0 => clean_shoal HR.out h0)
    rw [hks, hrd] at cf
    dsimp only at r_X r_E r_F ⊢
    rw [hks] at r_X r_E r_F
    rw [hrd]
    obtain ⟨hsp, hrd0, hrd1, hrd2, hidx, hok⟩ := cf
    have hsp2 := Lib.hid hsp
    have hidx2 := Lib.hid hidx
    have hok2 := Lib.hid hok
    have hks2 := Lib.hid hks
    have hlk : ks.length = n_F := r_F.len
    have hll : ls.length = nL := rL.len4
    have hlX : (chosen ls ks).length = n_M := r_X.len4
    rw [chosen_length] at hlX
    obtain rfl : n_F = n_M := by omega
    have hn5 : n_F ≤ nL := by omega
    have hle : rd ≤ (nL : Int) - (n_F : Int) := by omega
    have hgt : ¬ ((nL : Int) - (n_F : Int) < rd) := by omega
    have hor : (n_F = nL ∧ rd = 0) ∨ (n_F ≠ nL ∧ 1 ≤ rd) := by omega
    have HLK := Lib.hid hlk
    have HLL := Lib.hid hll
    clear hsp hidx hok hks hrd hlk hll hlX hrd2 hrd1
    have q0 : w10.cell? ⟨XK, 0, none⟩ = some (.int .i64 rr) := K.out.cell 0
    have q1 : w10.cell? ⟨XK, 1, none⟩ = some (.int .i64 ll) := K.out.cell 1
    have q2 : w10.cell? ⟨XK, 2, none⟩ = some (.int .i64 mm) := K.out.cell 2
    go_wp2_with fail
    go_at_call 7
    refine (deepSpikes_impl _ _ _ _ _ _ _ _ r_X (by omega)).mono ?_
    rintro e w11 ⟨a_V, n_V, c_V, rfl, o_V, hb⟩
    replace B := B.trans (hb.mono B.size)
    replace rL := rL.below4 hb (Nat.le_refl _)
    replace K := Lib.hid (K.out.belowSelf hb)
    replace r_X := r_X.below4 hb (Nat.le_refl _)
    replace r_E := r_E.below hb (Nat.le_refl _)
    replace r_F := r_F.below hb (Nat.le_refl _)
    have r_V := o_V.row
    clear hb o_V
    clear q0 q1 q2
    rw [hsp2.out] at r_V ⊢
    obtain rfl : n_V = 0 := by have h := r_V.len; simpa using h.symm
    clear r_V K
    have x1 : ((n_F : Int) != (n_F : Int)) = false := by simp
    rcases hor with ⟨h1, h2⟩ | ⟨h1, h2⟩
    · have x2 : (rd == 0) = true := by simpa using h2
      have x3 : ((n_F : Int) == (nL : Int)) = true := by simp; omega
      clear h1 h2
      go_wp2
      clear x2 x3
      clear hgt hle x1
      go_loopw [21] (fun i wr => ∃ k : Nat, k ≤ n_F ∧ i = .int .i64 k ∧ Below w11.heap.size w11 wr) (fun i _ => n_F - (intOf i).toNat)
      case atStart => exact ⟨0, Nat.zero_le _, rfl, Below.refl _ _⟩
      case round => as_aux_lemma =>
        obtain ⟨k, hk, rfl, hbel⟩ := hrel
        replace B := B.trans (hbel.mono B.size)
        replace rL := rL.below4 hbel (Nat.le_refl _)
        replace r_X := r_X.below4 hbel (Nat.le_refl _)
        replace r_E := r_E.below hbel (Nat.le_refl _)
        replace r_F := r_F.below hbel (Nat.le_refl _)
        by_cases hlt : k < n_F
        · obtain ⟨bF, oF, v, hab, hcv, hv⟩ := r_F.at_ hlt
          subst hab
          obtain ⟨j, rfl, hj⟩ := hidx2.out.get hv.out
          rw [HLL.out] at hj
          obtain ⟨bL, oL, x, y, z, u, hab, ⟨c0, c1, c2, c3⟩, hx⟩ := rL.at4 hj
          subst hab
          obtain ⟨bX, oX, x2, y2, z2, u2, hab, ⟨d0, d1, d2, d3⟩, hx2⟩ := r_X.at4 hlt
          subst hab
          obtain ⟨rfl, rfl, rfl, rfl⟩ : x2 = x ∧ y2 = y ∧ z2 = z ∧ u2 = u := by
            have h := hx2.out
            rw [chosen_get hv.out, Int.toNat_natCast, at4_get hx.out] at h
            simp only [Option.some.injEq, Prod.mk.injEq] at h
            obtain ⟨h1, h2, h3, h4⟩ := h
            exact ⟨h1.symm, h2.symm, h3.symm, h4.symm⟩
          have hkI : (k : Int) < (n_F : Int) := by omega
          have hjI : (j : Int) < (nL : Int) := by omega
          clear hx hx2 hv
          go_wp2_with fail
          go_quiet (fail)
          go_wp2
          go_roundw
          case rel => exact ⟨k + 1, by omega, by go_num, bdn hbel _⟩
          case measure => simp [intOf] <;> omega
        · clear hbel
          obtain ⟨w12, rfl⟩ : ∃ w12 : World, w12 = wr := ⟨_, rfl⟩
          clear r_F
          go_wp2_with fail
          go_at_call 28
          refine (shoalestOf_impl _ _ _ _ _ rL (by omega)).mono ?_
          rintro e w13 ⟨rfl, hb⟩
          replace B := B.trans (hb.mono B.size)
          replace rL := rL.below4 hb (Nat.le_refl _)
          replace r_X := r_X.below4 hb (Nat.le_refl _)
          replace r_E := r_E.below hb (Nat.le_refl _)
          clear hb
          go_wp2_with fail
          go_at_call 28
          refine (shoalestOf_impl _ _ _ _ _ r_X (by omega)).mono ?_
          rintro e w14 ⟨rfl, hb⟩
          replace B := B.trans (hb.mono B.size)
          replace rL := rL.below4 hb (Nat.le_refl _)
          replace r_X := r_X.below4 hb (Nat.le_refl _)
          replace r_E := r_E.below hb (Nat.le_refl _)
          clear hb
          by_cases h0 : nL = 0
          · rw [shoalOf_none (rule_of HR.out).1 (by have := HLL.out; omega)]
            go_wp2_with fail
            go_quiet (fail)
            go_wp2
            go_ret
            exact ⟨rfl, bdn B _⟩
          · obtain ⟨hs1, hs2, hs3⟩ := hss.out (by have := HLL.out; omega)
            rw [hks2.out] at hs1 hs2 hs3
            rw [HLK.out] at hs2
            rw [shoalOf_yes (rule_of HR.out).1 (by have := HLL.out; omega), shoalOf_yes hok2.out (by rw [chosen_length]; have := HLK.out; omega)]
            have hS := shoalF_lt ls ls.length (by have := HLL.out; omega)
            have hR := shoalF_lt (chosen ls ks) (chosen ls ks).length (by rw [chosen_length]; have := HLK.out; omega)
            obtain ⟨S, hSe⟩ : ∃ S, shoalF ls ls.length = S := ⟨_, rfl⟩
            obtain ⟨R, hRe⟩ : ∃ R, shoalF (chosen ls ks) (chosen ls ks).length = R := ⟨_, rfl⟩
            rw [hSe] at hs1 hs3 hS ⊢
            rw [hRe] at hs3 hR ⊢
            rw [HLL.out] at hS
            rw [chosen_length, HLK.out] at hR
            clear hSe hRe
            obtain ⟨bL, oL, x, y, z, u, hab, ⟨c0, c1, c2, c3⟩, hx⟩ := rL.at4 hS
            subst hab
            obtain ⟨bX, oX, x2, y2, z2, u2, hab, ⟨d0, d1, d2, d3⟩, hx2⟩ := r_X.at4 hR
            subst hab
            rw [at4_get hx.out, at4_get hx2.out] at hs3
            have b1 := sndOk_bd (sndsOk_get (rule_of HR.out).1 hx.out)
            have b2 := sndOk_bd (sndsOk_get hok2.out hx2.out)
            have hlow : z2 - u2 = z - u := hs3
            obtain ⟨lo, hlo⟩ : ∃ lo, z - u = lo := ⟨_, rfl⟩
            have hw1 : IntKind.i64.wrap (z - u) = lo := by rw [IntKind.wrap_i64]; omega
            have hw2 : IntKind.i64.wrap (z2 - u2) = lo := by rw [IntKind.wrap_i64]; omega
            have hSI : (S : Int) < (nL : Int) := by omega
            have hRI : (R : Int) < (n_F : Int) := by omega
            have hR0 : (0 : Int) ≤ (R : Int) := by omega
            have hH := Lib.hid (fun (w' : World) (hr : Row w' 1 a_E n_F (ints ks)) => ((decide_eq_true hs1) ▸ hasInt_any a_E n_F c_E ks (S : Int) w' hr (by omega) : Calls Try.prog 19 #[.slice a_E n_F c_E, .int .i64 (S : Int)] w' fun e w'' => e = .returned (.bool true) ∧ w' = w''))
            have hRE := Lib.hid r_E
            clear hs1 hs2 hs3 hlow hlo hx hx2 b1 b2 hss
            go_wp2_with fail
            go_quiet ((go_at_call 19; first | exact quiet_eq (hH.out _ (hRE.out.drewN _)) | exact quiet_eq' (hH.out _ (hRE.out.drewN _))))
            go_wp2
            go_ret
            exact ⟨rfl, bdn B _⟩
    · have x2 : (rd == 0) = false := by simp; omega
      have x3 : ((n_F : Int) == (nL : Int)) = false := by simp; omega
      clear h1 h2
      go_wp2
      clear x2 x3
      clear hgt hle x1
      go_loopw [21] (fun i wr => ∃ k : Nat, k ≤ n_F ∧ i = .int .i64 k ∧ Below w11.heap.size w11 wr) (fun i _ => n_F - (intOf i).toNat)
      case atStart => exact ⟨0, Nat.zero_le _, rfl, Below.refl _ _⟩
      case round => as_aux_lemma =>
        obtain ⟨k, hk, rfl, hbel⟩ := hrel
        replace B := B.trans (hbel.mono B.size)
        replace rL := rL.below4 hbel (Nat.le_refl _)
        replace r_X := r_X.below4 hbel (Nat.le_refl _)
        replace r_E := r_E.below hbel (Nat.le_refl _)
        replace r_F := r_F.below hbel (Nat.le_refl _)
        by_cases hlt : k < n_F
        · obtain ⟨bF, oF, v, hab, hcv, hv⟩ := r_F.at_ hlt
          subst hab
          obtain ⟨j, rfl, hj⟩ := hidx2.out.get hv.out
          rw [HLL.out] at hj
          obtain ⟨bL, oL, x, y, z, u, hab, ⟨c0, c1, c2, c3⟩, hx⟩ := rL.at4 hj
          subst hab
          obtain ⟨bX, oX, x2, y2, z2, u2, hab, ⟨d0, d1, d2, d3⟩, hx2⟩ := r_X.at4 hlt
          subst hab
          obtain ⟨rfl, rfl, rfl, rfl⟩ : x2 = x ∧ y2 = y ∧ z2 = z ∧ u2 = u := by
            have h := hx2.out
            rw [chosen_get hv.out, Int.toNat_natCast, at4_get hx.out] at h
            simp only [Option.some.injEq, Prod.mk.injEq] at h
            obtain ⟨h1, h2, h3, h4⟩ := h
            exact ⟨h1.symm, h2.symm, h3.symm, h4.symm⟩
          have hkI : (k : Int) < (n_F : Int) := by omega
          have hjI : (j : Int) < (nL : Int) := by omega
          clear hx hx2 hv
          go_wp2_with fail
          go_quiet (fail)
          go_wp2
          go_roundw
          case rel => exact ⟨k + 1, by omega, by go_num, bdn hbel _⟩
          case measure => simp [intOf] <;> omega
        · clear hbel
          obtain ⟨w12, rfl⟩ : ∃ w12 : World, w12 = wr := ⟨_, rfl⟩
          clear r_F
          go_wp2_with fail
          go_at_call 28
          refine (shoalestOf_impl _ _ _ _ _ rL (by omega)).mono ?_
          rintro e w13 ⟨rfl, hb⟩
          replace B := B.trans (hb.mono B.size)
          replace rL := rL.below4 hb (Nat.le_refl _)
          replace r_X := r_X.below4 hb (Nat.le_refl _)
          replace r_E := r_E.below hb (Nat.le_refl _)
          clear hb
          go_wp2_with fail
          go_at_call 28
          refine (shoalestOf_impl _ _ _ _ _ r_X (by omega)).mono ?_
          rintro e w14 ⟨rfl, hb⟩
          replace B := B.trans (hb.mono B.size)
          replace rL := rL.below4 hb (Nat.le_refl _)
          replace r_X := r_X.below4 hb (Nat.le_refl _)
          replace r_E := r_E.below hb (Nat.le_refl _)
          clear hb
          by_cases h0 : nL = 0
          · rw [shoalOf_none (rule_of HR.out).1 (by have := HLL.out; omega)]
            go_wp2_with fail
            go_quiet (fail)
            go_wp2
            go_ret
            exact ⟨rfl, bdn B _⟩
          · obtain ⟨hs1, hs2, hs3⟩ := hss.out (by have := HLL.out; omega)
            rw [hks2.out] at hs1 hs2 hs3
            rw [HLK.out] at hs2
            rw [shoalOf_yes (rule_of HR.out).1 (by have := HLL.out; omega), shoalOf_yes hok2.out (by rw [chosen_length]; have := HLK.out; omega)]
            have hS := shoalF_lt ls ls.length (by have := HLL.out; omega)
            have hR := shoalF_lt (chosen ls ks) (chosen ls ks).length (by rw [chosen_length]; have := HLK.out; omega)
            obtain ⟨S, hSe⟩ : ∃ S, shoalF ls ls.length = S := ⟨_, rfl⟩
            obtain ⟨R, hRe⟩ : ∃ R, shoalF (chosen ls ks) (chosen ls ks).length = R := ⟨_, rfl⟩
            rw [hSe] at hs1 hs3 hS ⊢
            rw [hRe] at hs3 hR ⊢
            rw [HLL.out] at hS
            rw [chosen_length, HLK.out] at hR
            clear hSe hRe
            obtain ⟨bL, oL, x, y, z, u, hab, ⟨c0, c1, c2, c3⟩, hx⟩ := rL.at4 hS
            subst hab
            obtain ⟨bX, oX, x2, y2, z2, u2, hab, ⟨d0, d1, d2, d3⟩, hx2⟩ := r_X.at4 hR
            subst hab
            rw [at4_get hx.out, at4_get hx2.out] at hs3
            have b1 := sndOk_bd (sndsOk_get (rule_of HR.out).1 hx.out)
            have b2 := sndOk_bd (sndsOk_get hok2.out hx2.out)
            have hlow : z2 - u2 = z - u := hs3
            obtain ⟨lo, hlo⟩ : ∃ lo, z - u = lo := ⟨_, rfl⟩
            have hw1 : IntKind.i64.wrap (z - u) = lo := by rw [IntKind.wrap_i64]; omega
            have hw2 : IntKind.i64.wrap (z2 - u2) = lo := by rw [IntKind.wrap_i64]; omega
            have hSI : (S : Int) < (nL : Int) := by omega
            have hRI : (R : Int) < (n_F : Int) := by omega
            have hR0 : (0 : Int) ≤ (R : Int) := by omega
            have hH := Lib.hid (fun (w' : World) (hr : Row w' 1 a_E n_F (ints ks)) => ((decide_eq_true hs1) ▸ hasInt_any a_E n_F c_E ks (S : Int) w' hr (by omega) : Calls Try.prog 19 #[.slice a_E n_F c_E, .int .i64 (S : Int)] w' fun e w'' => e = .returned (.bool true) ∧ w' = w''))
            have hRE := Lib.hid r_E
            clear hs1 hs2 hs3 hlow hlo hx hx2 b1 b2 hss
            go_wp2_with fail
            go_quiet ((go_at_call 19; first | exact quiet_eq (hH.out _ (hRE.out.drewN _)) | exact quiet_eq' (hH.out _ (hRE.out.drewN _))))
            go_wp2
            go_ret
            exact ⟨rfl, bdn B _⟩
  · have hcs : cleanSoundings ls rr ll mm = ([], 0, 1) := by rw [cleanSoundings, if_neg hr]
    rw [hcs]
    clear hr hcs
    go_wp2
    go_ret
    exact ⟨rfl, B⟩

end Go.Proofs.Ytcbehnlpefjhdaa.fnCleaned
