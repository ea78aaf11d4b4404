/- The walk of FnDistances: it returns true and writes nothing that was there. -/
import Derived.Test.YtbdlihocnpppaaaRows
import Derived.Test.YtbdlihocnpppaaaCount
import Derived.Test.YtbdlihocnpppaaaPDist
import Derived.Test.YtbdlihocnpppaaaDrawDist
import Derived.Test.YtbdlihocnpppaaaSum
import Derived.Test.YtbdlihocnpppaaaDrawCode
import Derived.Test.YtbdlihocnpppaaaDice
import Derived.Test.YtbdlihocnpppaaaOpenY
import Derived.WalkKit
import Derived.Handy
namespace Go.Proofs.Ytbdlihocnpppaaa.fnDistances
open Go.RowKit
set_option maxRecDepth 100000
set_option linter.unusedVariables false
set_option linter.unusedVariables false

set_option maxRecDepth 100000 in
set_option maxHeartbeats 12800000 in
theorem walk (a0 : Option Addr) (n0 c0 : Nat) (bs : List Nat) (w : World) (f0 : Bytes w a0 n0 bs) :
    Calls Try.prog 3 #[.slice a0 n0 c0] w fun e w' => e = .returned (.bool true) ∧ Below w.heap.size w w' := by
  by_cases hbig : (4096 : Int) < (n0 : Int)
  · go_enter Try.func3, Try.ntmps3
    go_wp2_with (go_at_call 4; refine (big_any _ _ _ _ f0.2.1).mono ?_; rintro e w' ⟨rfl, rfl⟩)
    go_ret
    exact ⟨rfl, Below.refl _ _⟩
  have HC := Lib.hid (f0.code (by omega))
  have hbg := f0.2.1
  clear f0
  go_enter Try.func3, Try.ntmps3
  go_wp2_with (go_at_call 4; refine (big_any _ _ _ _ hbg).mono ?_; rintro e w' ⟨rfl, rfl⟩)
  clear hbig hbg
  go_at_call 5
  refine (drawCodeDistance_any _ _ _ _ _ (HC.out)).mono ?_
  intro e w1 hd
  obtain ⟨aA, nA, cA, as1, aB, nB, cB, bs2, rfl, rA, rB, hA, hB, hb⟩ := hd
  have B := hb
  clear hb
  go_wp2_with fail
  go_at_call 6
  refine (codeDistance_impl _ _ _ _ _ _ _ _ _ rA rB (by omega) (by omega)).mono ?_
  rintro e w2 ⟨rfl, hb⟩
  replace B := B.trans (hb.mono B.size)
  replace rA := rA.below hb (Nat.le_refl _)
  replace rB := rB.below hb (Nat.le_refl _)
  clear hb
  go_wp2_with fail
  go_at_call 7
  refine (codeDistance_spec _ _ _ _ _ _ _ _ _ rA rB (by omega) (by omega)).mono ?_
  rintro e w3 ⟨rfl, hb⟩
  replace B := B.trans (hb.mono B.size)
  replace rA := rA.below hb (Nat.le_refl _)
  replace rB := rB.below hb (Nat.le_refl _)
  clear hb
  clear rA rB
  go_wp2_with fail
  go_at_call 8
  refine (drawCountWeights_any _ _ _ _ _ (HC.out.below B (Nat.le_refl _))).mono ?_
  intro e w4 hd
  obtain ⟨K, rfl, hK0, hK1, hb⟩ := hd
  replace B := B.trans (hb.mono B.size)
  clear hb
  go_wp2_with fail
  go_at_call 9
  refine (countWeights_impl _ _).mono ?_
  rintro e w5 ⟨a_W, n_W, c_W, rfl, o_W, hb⟩
  replace B := B.trans (hb.mono B.size)
  have r_W := o_W.row
  have hdW := Lib.hid o_W.head
  clear hb o_W
  go_wp2_with fail
  go_at_call 10
  refine (countWeights_spec _ _).mono ?_
  rintro e w6 ⟨a_V, n_V, c_V, rfl, o_V, hb⟩
  replace B := B.trans (hb.mono B.size)
  replace r_W := r_W.below hb (Nat.le_refl _)
  have r_V := o_V.row
  clear hb o_V
  obtain rfl : n_V = n_W := by have := r_W.len; have := r_V.len; omega
  have hnW : n_V ≤ 25 := by have := r_W.len; have := countWeights_len K; simp [ints] at *; omega
  go_wp2_with fail
  go_at_call 11
  refine (drawEncodeBits_any _ _ _ _ _ (HC.out.below B (Nat.le_refl _))).mono ?_
  intro e w7 hd
  obtain ⟨aM, nM, cM, ms, rfl, rM, hM, hb⟩ := hd
  replace B := B.trans (hb.mono B.size)
  replace r_W := r_W.below hb (Nat.le_refl _)
  replace r_V := r_V.below hb (Nat.le_refl _)
  clear hb
  have e1 : ((codeDistance as1 bs2).2 != (codeDistance as1 bs2).2) = false := by simp
  have e1b : ((codeDistance as1 bs2).1 != (codeDistance as1 bs2).1) = false := by simp
  have e2 : ((countWeights K).2 != (countWeights K).2) = false := by simp
  go_wp2_with fail
  go_at_call 12
  refine (likeInts_same _ _ _ _ _ _ _ r_W r_V (by omega)).mono ?_
  rintro e w8 ⟨rfl, hb⟩
  replace B := B.trans (hb.mono B.size)
  replace r_W := r_W.below hb (Nat.le_refl _)
  replace r_V := r_V.below hb (Nat.le_refl _)
  replace rM := rM.below hb (Nat.le_refl _)
  clear hb
  clear r_V
  clear e1 e1b e2
  cases hk : inR 0 10 K
  · rw [countWeights_no hk]
    clear r_W
    clear hdW hk
    go_wp2_with fail
    go_quiet (fail)
    go_wp2_with fail
    rcases encodeBits_cases ms with he | ⟨hok, he⟩
    · have hc : (encodeBits ms).2 = 1 := by rw [he]
      go_wp2_with fail
      go_at_call 14
      refine (encodeBits_impl _ _ _ _ _ (rM.drewN _) (by omega)).mono ?_
      rintro e w9 ⟨a_C, n_C, c_C, rfl, o_C, hb⟩
      replace B := (bdn B _).trans (hb.mono (bdn B _).size)
      replace rM := (rM.drewN _).below hb (Nat.le_refl _)
      have r_C := o_C.row
      clear hb o_C
      rw [hc]
      clear he
      go_wp2_with (first | (go_at_call 15; refine (freeDistance_impl _).mono ?_; rintro e w' ⟨rfl, rfl⟩) | (go_at_call 16; refine (freeDistance_spec _).mono ?_; rintro e w' ⟨rfl, rfl⟩))
      go_ret
      exact ⟨rfl, B⟩
    · have hc : (encodeBits ms).2 = 0 := by rw [he]
      have hcl : (encodeBits ms).1 = encL ms := by rw [he]
      go_wp2_with fail
      go_at_call 14
      refine (encodeBits_impl _ _ _ _ _ (rM.drewN _) (by omega)).mono ?_
      rintro e w9 ⟨a_C, n_C, c_C, rfl, o_C, hb⟩
      replace B := (bdn B _).trans (hb.mono (bdn B _).size)
      replace rM := (rM.drewN _).below hb (Nat.le_refl _)
      have r_C := o_C.row
      clear hb o_C
      rw [hc]
      rw [hcl] at r_C
      clear he hc hcl
      have hml := Lib.hid (show ms.length = nM by have := rM.len; simpa [ints] using this)
      have hM3 : nM ≤ 300 := by have : (nM : Int) ≤ 300 := listOk_le hok rM.len; omega
      obtain rfl : n_C = 2 * (nM + 2) := by have := r_C.len; have := encL_len ms; have := hml.out; simp [ints] at *; omega
      by_cases hm0 : nM = 0
      · subst hm0
        clear hok
        go_wp2_with (first | (go_at_call 15; refine (freeDistance_impl _).mono ?_; rintro e w' ⟨rfl, rfl⟩) | (go_at_call 16; refine (freeDistance_spec _).mono ?_; rintro e w' ⟨rfl, rfl⟩))
        go_ret
        exact ⟨rfl, B⟩
      · have hm1 : 0 < nM := by omega
        have hm2 : ((nM : Int) == 0) = false := by simp; omega
        have HOK := Lib.hid hok
        clear hok hm0
        have hBs0 := B.size
        have hlM := Lib.hid (rM.lt (by omega))
        have hlC := Lib.hid (r_C.lt (by omega))
        go_wp2_with (at_builtin; refine wpList_app0 _ rfl (.tmp 124) (.tmp 125) _ rfl Try.underlying24 info_i64 rfl (by decide) (by rfl) (Own.lit0 _ _ _) (by simp) (by rfl) (rM.alloc _) (ints_one _) (by simp only [maxLen]; omega) (by omega) (by simp) ?_; intro aO cO wO oO hbO hgO)
        rw [show 0 + nM = nM by omega, List.nil_append] at oO
        have hbO2 := ((Below.refl _ w9).alloc (Nat.le_refl _) _).trans hbO
        replace B := B.trans (hbO2.mono B.size)
        replace rM := rM.below hbO2 (Nat.le_refl _)
        replace r_C := r_C.below hbO2 (Nat.le_refl _)
        have hsO := hbO2.size
        clear hbO hgO hbO2
        have hBs := B.size
        go_wp2_with fail
        go_at_call 17
        refine (roll_any _ _ _ _ 2702 _ (HC.out.below B (Nat.le_refl _)) (by omega)).mono ?_
        rintro e wR ⟨p, rfl, hp, hd, hb⟩
        have hpV : wO.heap.size ≤ p := by omega
        clear hp
        replace B := B.trans (hb.mono B.size)
        replace rM := rM.below hb (Nat.le_refl _)
        replace r_C := r_C.below hb (Nat.le_refl _)
        replace oO := oO.below hb (.inr (Nat.le_refl _))
        have HD := Lib.hid hd
        have hsR := hb.size
        clear hb hd
        go_wp2_with fail
        go_at_call 18
        refine (below_any _ _ _ HD.out (by omega)).mono ?_
        rintro e wI ⟨r, rfl, hr0, hr1, -, hg⟩
        replace B := below_next' B (by omega) hg
        obtain ⟨I, rfl⟩ := Int.eq_ofNat_of_zero_le hr0
        have hIM : I < nM := by omega
        obtain ⟨gO, rfl, hgO1, -, hgO3⟩ := oO.head hm1
        have oI := oO.apart hg (fun g e => by injection e with e; omega)
        replace rM := rM.apart1 (by omega) hg (fun h0 b off e => by have := hlM.out h0 b off e; omega)
        replace r_C := r_C.apart1 (by omega) hg (fun h0 b off e => by have := hlC.out h0 b off e; omega)
        obtain ⟨x, hx⟩ : ∃ x, ms[I]? = some x := ⟨_, List.getElem?_eq_getElem (by have := hml.out; omega)⟩
        have hxb := (Bits.of HOK.out).get hx
        have hcv : wI.cell? ⟨gO, I, none⟩ = some (.int .i64 x) := by
          rw [oI.cellAt I (by omega)]
          simp [ints, hx]
        have hfz := oI.frozenAt I
        have hst := oI.stored I (.int .i64 (1 - x))
        have e1 : (ints ms).set I (.int .i64 (1 - x)) = ints (ms.set I (1 - x)) := by simp [ints, List.map_set]
        rw [e1] at hst
        have r_O := Lib.hid hst.1.row
        have r_C2 := Lib.hid (r_C.apart1 (by omega) hst.2 (fun h0 b off e => by have := hlC.out h0 b off e; omega))
        have B2 := Lib.hid (below_next' B (by omega) hst.2)
        have hdu := Lib.hid (dist_unit hx HOK.out)
        clear rM r_C hlM hlC HOK hst e1 oI oO hx hg B HD
        go_wp2_with fail
        have r_P := r_O.out
        have r_C := r_C2.out
        have B := B2.out
        clear r_O r_C2 B2 hcv hfz
        go_at_call 14
        refine (encodeBits_impl _ _ _ _ _ r_P (by omega)).mono ?_
        rintro e wE ⟨a_E, n_E, c_E, rfl, o_E, hb⟩
        replace B := B.trans (hb.mono B.size)
        replace r_C := r_C.below hb (Nat.le_refl _)
        have r_E := o_E.row
        clear hb o_E r_P
        rw [hdu.out.2] at r_E ⊢
        replace r_E : Row wE 1 a_E n_E (ints (encL (ms.set I (1 - x)))) := r_E
        have hE : n_E ≤ 1000 := by have := r_E.len; have := encL_len (ms.set I (1 - x)); have := hml.out; simp only [ints, List.length_set] at *; omega
        go_wp2_with fail
        go_at_call 6
        refine (codeDistance_impl _ _ _ _ _ _ _ _ _ r_C r_E (by omega) (by omega)).mono ?_
        rintro e wF ⟨rfl, hb⟩
        replace B := B.trans (hb.mono B.size)
        clear hb r_C r_E
        rw [hdu.out.1]
        go_wp2_with (go_at_call 15; refine (freeDistance_impl _).mono ?_; rintro e w' ⟨rfl, rfl⟩)
        go_ret
        exact ⟨rfl, B⟩
  · obtain ⟨N, rfl⟩ := Int.eq_ofNat_of_zero_le (show 0 ≤ K by simp only [inR, Bool.and_eq_true, decide_eq_true_eq] at hk; exact hk.1)
    have hN : N < 11 := by simp only [inR, Bool.and_eq_true, decide_eq_true_eq] at hk; omega
    have cf := count_facts N hN
    rw [countWeights_yes hk] at r_W ⊢
    replace r_W : Row w8 1 a_W n_V (ints (toI (countN N))) := r_W
    have hn5 : 5 ≤ n_V := by have := r_W.len; rw [toI_length, countN, cnt_length] at this; omega
    obtain ⟨gW, rfl, -, -, -⟩ := hdW.out (by omega)
    obtain ⟨M, hM⟩ : ∃ M, 2 ^ N = M := ⟨_, rfl⟩
    have hMb : M ≤ 1024 := hM ▸ pow_le_1024 (show N ≤ 10 by omega)
    have hw : wrap64 ((2 : Int) ^ N) = (M : Int) := by
      rw [show ((2 : Int) ^ N) = ((2 ^ N : Nat) : Int) by simp, hM]
      unfold wrap64
      omega
    have hsum : (toI (countN N)).sum = (M : Int) := by
      have e : ∀ l : List Nat, (toI l).sum = ((l.sum : Nat) : Int) := by
        intro l; induction l with
        | nil => rfl
        | cons a t ih => simp only [toI, List.map_cons, List.sum_cons] at ih ⊢; rw [ih]; omega
      rw [e, cf.1, hM]
    have hS := Lib.hid (fun (w' : World) (hr : Row w' 1 (some ⟨gW, 0, none⟩) n_V (ints (toI (countN N)))) => (hsum ▸ sum_any (some ⟨gW, 0, none⟩) n_V c_W _ w' hr (by omega) (Lib.hid (by
      intro x hx
      simp only [toI, List.mem_map] at hx
      obtain ⟨y, hy, rfl⟩ := hx
      have := cnt_le (bitLE N) (2 * N + 5) (2 ^ N) y hy
      omega)) : Calls Try.prog 13 #[.slice (some ⟨gW, 0, none⟩) n_V c_W] w' fun e w'' => e = .returned (.int .i64 (M : Int)) ∧ w' = w''))
    have q0 : w8.cell? ⟨gW, 0, none⟩ = some (.int .i64 1) := by
      have h := r_W.get_ (k := 0) (x := 1) (by simp [toI, cf.2.1])
      simpa using h
    have q1 : w8.cell? ⟨gW, 1, none⟩ = some (.int .i64 0) := by
      have h := r_W.get_ (k := 1) (x := 0) (by simp [toI, cf.2.2.1])
      simpa using h
    have q2 : w8.cell? ⟨gW, 2, none⟩ = some (.int .i64 0) := by
      have h := r_W.get_ (k := 2) (x := 0) (by simp [toI, cf.2.2.2.1])
      simpa using h
    have q3 : w8.cell? ⟨gW, 3, none⟩ = some (.int .i64 0) := by
      have h := r_W.get_ (k := 3) (x := 0) (by simp [toI, cf.2.2.2.2.1])
      simpa using h
    have q4 : w8.cell? ⟨gW, 4, none⟩ = some (.int .i64 0) := by
      have h := r_W.get_ (k := 4) (x := 0) (by simp [toI, cf.2.2.2.2.2])
      simpa using h
    have HW := Lib.hid hw
    have hRW := Lib.hid r_W
    clear hw hM hsum cf hk hdW
    have hw := HW.out
    go_wp2_with fail
    go_quiet ((go_at_call 13; first | exact quiet_eq (hS.out _ (hRW.out.drewN _)) | exact quiet_eq' (hS.out _ (hRW.out.drewN _))))
    clear q0 q1 q2 q3 q4 hw HW hS hRW
    clear r_W
    go_wp2_with fail
    rcases encodeBits_cases ms with he | ⟨hok, he⟩
    · have hc : (encodeBits ms).2 = 1 := by rw [he]
      go_wp2_with fail
      go_at_call 14
      refine (encodeBits_impl _ _ _ _ _ (rM.drewN _) (by omega)).mono ?_
      rintro e w9 ⟨a_C, n_C, c_C, rfl, o_C, hb⟩
      replace B := (bdn B _).trans (hb.mono (bdn B _).size)
      replace rM := (rM.drewN _).below hb (Nat.le_refl _)
      have r_C := o_C.row
      clear hb o_C
      rw [hc]
      clear he
      go_wp2_with (first | (go_at_call 15; refine (freeDistance_impl _).mono ?_; rintro e w' ⟨rfl, rfl⟩) | (go_at_call 16; refine (freeDistance_spec _).mono ?_; rintro e w' ⟨rfl, rfl⟩))
      go_ret
      exact ⟨rfl, B⟩
    · have hc : (encodeBits ms).2 = 0 := by rw [he]
      have hcl : (encodeBits ms).1 = encL ms := by rw [he]
      go_wp2_with fail
      go_at_call 14
      refine (encodeBits_impl _ _ _ _ _ (rM.drewN _) (by omega)).mono ?_
      rintro e w9 ⟨a_C, n_C, c_C, rfl, o_C, hb⟩
      replace B := (bdn B _).trans (hb.mono (bdn B _).size)
      replace rM := (rM.drewN _).below hb (Nat.le_refl _)
      have r_C := o_C.row
      clear hb o_C
      rw [hc]
      rw [hcl] at r_C
      clear he hc hcl
      have hml := Lib.hid (show ms.length = nM by have := rM.len; simpa [ints] using this)
      have hM3 : nM ≤ 300 := by have : (nM : Int) ≤ 300 := listOk_le hok rM.len; omega
      obtain rfl : n_C = 2 * (nM + 2) := by have := r_C.len; have := encL_len ms; have := hml.out; simp [ints] at *; omega
      by_cases hm0 : nM = 0
      · subst hm0
        clear hok
        go_wp2_with (first | (go_at_call 15; refine (freeDistance_impl _).mono ?_; rintro e w' ⟨rfl, rfl⟩) | (go_at_call 16; refine (freeDistance_spec _).mono ?_; rintro e w' ⟨rfl, rfl⟩))
        go_ret
        exact ⟨rfl, B⟩
      · have hm1 : 0 < nM := by omega
        have hm2 : ((nM : Int) == 0) = false := by simp; omega
        have HOK := Lib.hid hok
        clear hok hm0
        have hBs0 := B.size
        have hlM := Lib.hid (rM.lt (by omega))
        have hlC := Lib.hid (r_C.lt (by omega))
        go_wp2_with (at_builtin; refine wpList_app0 _ rfl (.tmp 124) (.tmp 125) _ rfl Try.underlying24 info_i64 rfl (by decide) (by rfl) (Own.lit0 _ _ _) (by simp) (by rfl) (rM.alloc _) (ints_one _) (by simp only [maxLen]; omega) (by omega) (by simp) ?_; intro aO cO wO oO hbO hgO)
        rw [show 0 + nM = nM by omega, List.nil_append] at oO
        have hbO2 := ((Below.refl _ w9).alloc (Nat.le_refl _) _).trans hbO
        replace B := B.trans (hbO2.mono B.size)
        replace rM := rM.below hbO2 (Nat.le_refl _)
        replace r_C := r_C.below hbO2 (Nat.le_refl _)
        have hsO := hbO2.size
        clear hbO hgO hbO2
        have hBs := B.size
        go_wp2_with fail
        go_at_call 17
        refine (roll_any _ _ _ _ 2702 _ (HC.out.below B (Nat.le_refl _)) (by omega)).mono ?_
        rintro e wR ⟨p, rfl, hp, hd, hb⟩
        have hpV : wO.heap.size ≤ p := by omega
        clear hp
        replace B := B.trans (hb.mono B.size)
        replace rM := rM.below hb (Nat.le_refl _)
        replace r_C := r_C.below hb (Nat.le_refl _)
        replace oO := oO.below hb (.inr (Nat.le_refl _))
        have HD := Lib.hid hd
        have hsR := hb.size
        clear hb hd
        go_wp2_with fail
        go_at_call 18
        refine (below_any _ _ _ HD.out (by omega)).mono ?_
        rintro e wI ⟨r, rfl, hr0, hr1, -, hg⟩
        replace B := below_next' B (by omega) hg
        obtain ⟨I, rfl⟩ := Int.eq_ofNat_of_zero_le hr0
        have hIM : I < nM := by omega
        obtain ⟨gO, rfl, hgO1, -, hgO3⟩ := oO.head hm1
        have oI := oO.apart hg (fun g e => by injection e with e; omega)
        replace rM := rM.apart1 (by omega) hg (fun h0 b off e => by have := hlM.out h0 b off e; omega)
        replace r_C := r_C.apart1 (by omega) hg (fun h0 b off e => by have := hlC.out h0 b off e; omega)
        obtain ⟨x, hx⟩ : ∃ x, ms[I]? = some x := ⟨_, List.getElem?_eq_getElem (by have := hml.out; omega)⟩
        have hxb := (Bits.of HOK.out).get hx
        have hcv : wI.cell? ⟨gO, I, none⟩ = some (.int .i64 x) := by
          rw [oI.cellAt I (by omega)]
          simp [ints, hx]
        have hfz := oI.frozenAt I
        have hst := oI.stored I (.int .i64 (1 - x))
        have e1 : (ints ms).set I (.int .i64 (1 - x)) = ints (ms.set I (1 - x)) := by simp [ints, List.map_set]
        rw [e1] at hst
        have r_O := Lib.hid hst.1.row
        have r_C2 := Lib.hid (r_C.apart1 (by omega) hst.2 (fun h0 b off e => by have := hlC.out h0 b off e; omega))
        have B2 := Lib.hid (below_next' B (by omega) hst.2)
        have hdu := Lib.hid (dist_unit hx HOK.out)
        clear rM r_C hlM hlC HOK hst e1 oI oO hx hg B HD
        go_wp2_with fail
        have r_P := r_O.out
        have r_C := r_C2.out
        have B := B2.out
        clear r_O r_C2 B2 hcv hfz
        go_at_call 14
        refine (encodeBits_impl _ _ _ _ _ r_P (by omega)).mono ?_
        rintro e wE ⟨a_E, n_E, c_E, rfl, o_E, hb⟩
        replace B := B.trans (hb.mono B.size)
        replace r_C := r_C.below hb (Nat.le_refl _)
        have r_E := o_E.row
        clear hb o_E r_P
        rw [hdu.out.2] at r_E ⊢
        replace r_E : Row wE 1 a_E n_E (ints (encL (ms.set I (1 - x)))) := r_E
        have hE : n_E ≤ 1000 := by have := r_E.len; have := encL_len (ms.set I (1 - x)); have := hml.out; simp only [ints, List.length_set] at *; omega
        go_wp2_with fail
        go_at_call 6
        refine (codeDistance_impl _ _ _ _ _ _ _ _ _ r_C r_E (by omega) (by omega)).mono ?_
        rintro e wF ⟨rfl, hb⟩
        replace B := B.trans (hb.mono B.size)
        clear hb r_C r_E
        rw [hdu.out.1]
        go_wp2_with (go_at_call 15; refine (freeDistance_impl _).mono ?_; rintro e w' ⟨rfl, rfl⟩)
        go_ret
        exact ⟨rfl, B⟩

end Go.Proofs.Ytbdlihocnpppaaa.fnDistances
