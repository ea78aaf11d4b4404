/- SpikeMargin, by both programs. -/
import Derived.Test.YtcbehnlpefjhdaaNear
namespace Go.Proofs.Ytcbehnlpefjhdaa
open Go.RowKit
set_option maxRecDepth 100000
set_option linter.unusedVariables false

theorem spikeMargin_no {ss : List I4} {r l m i c : Int} (h : indexC ss r l m i = c) (hc : c ≠ 0) : spikeMargin ss r l m i = (0, c) := by simp [spikeMargin, h, hc]
theorem spikeMargin_none {ss : List I4} {r l m i : Int} (h : indexC ss r l m i = 0) (h2 : nearL ss r i.toNat = []) : spikeMargin ss r l m i = (0, 4) := by simp [spikeMargin, h, h2]
theorem spikeMargin_some {ss : List I4} {r l m i k : Int} {t : List Int} (h : indexC ss r l m i = 0) (h2 : nearL ss r i.toNat = k :: t) : spikeMargin ss r l m i = (lowOf (at4 ss i.toNat) - mostOf ss (highOf (at4 ss k.toNat)) t - 1, 0) := by simp [spikeMargin, h, h2]

/-- The greatest upper bound so far. -/
def MoInv (ss : List I4) (ks : List Int) (j : Nat) (b : Int) : Prop := ∃ k t, ks = k :: t ∧ mostOf ss b (ks.drop j) = mostOf ss (highOf (at4 ss k.toNat)) t
theorem MoInv.start1 {ss : List I4} {k : Int} {t : List Int} : MoInv ss (k :: t) 1 (highOf (at4 ss k.toNat)) := ⟨k, t, rfl, rfl⟩
theorem MoInv.start0 {ss : List I4} {k : Int} {t : List Int} : MoInv ss (k :: t) 0 (highOf (at4 ss k.toNat)) := ⟨k, t, rfl, by simp [mostOf]⟩
theorem MoInv.step {ss : List I4} {ks : List Int} {j : Nat} {b v : Int} (h : MoInv ss ks j b) (hv : ks[j]? = some v) : MoInv ss ks (j + 1) (max b (highOf (at4 ss v.toNat))) := by
  obtain ⟨k, t, rfl, h2⟩ := h
  refine ⟨k, t, rfl, ?_⟩
  rw [← h2, drop_at hv, mostOf]
theorem MoInv.done {ss : List I4} {ks : List Int} {j n : Nat} {b : Int} (h : MoInv ss ks j b) (hl : ks.length = n) (hj : ¬ j < n) : ∃ k t, ks = k :: t ∧ mostOf ss (highOf (at4 ss k.toNat)) t = b := by
  obtain ⟨k, t, rfl, h2⟩ := h
  refine ⟨k, t, rfl, ?_⟩
  rw [← h2, List.drop_of_length_le (by omega)]
  rfl
theorem max_ite (a b : Int) : max a b = if a < b then b else a := by split <;> omega

theorem field_high (p q : Value) (w : World) : (Instr.field 59 (.agg #[p, q]) 1).run Try.prog w = .ok q w := by first | rfl | kernel_rfl
theorem field_low (p q : Value) (w : World) : (Instr.field 59 (.agg #[p, q]) 0).run Try.prog w = .ok p w := by first | rfl | kernel_rfl

set_option maxHeartbeats 3200000 in
theorem spikeMargin_impl (a : Option Addr) (n c : Nat) (xs : List I4) (r l m i : Int) (w : World) (h : Row w 4 a n (frs xs)) (hn : n ≤ 1048576) :
    Calls Try.prog 12 #[.slice a n c, .agg #[.int .i64 r, .int .i64 l, .int .i64 m], .int .i64 i] w fun e w' => e = .returned (.tuple #[.int .i64 (spikeMargin xs r l m i).1, .int .i64 (spikeMargin xs r l m i).2]) ∧ Below w.heap.size w w' := by
  have K := Lib.hid (Blk.new w 26 #[.int .i64 r, .int .i64 l, .int .i64 m])
  have B : Below w.heap.size w (w.alloc (.cells #[.int .i64 r, .int .i64 l, .int .i64 m] 26)) := (Below.refl _ _).alloc (Nat.le_refl _) _
  have hl := Lib.hid h.len4
  have q1 := field_high
  have q0 := field_low
  go_enter Try.func12, Try.ntmps12
  go_wp2_with fail
  go_at_call 37
  refine (indexCode_any _ _ _ _ _ _ _ _ _ (h.alloc4 _) hn).mono ?_
  rintro e w1 ⟨rfl, hb⟩
  replace K := Lib.hid (K.out.belowSelf hb)
  replace B := B.trans (hb.mono B.size)
  have h2 := h.below4 B (Nat.le_refl _)
  clear hb
  rcases indexC_cases xs r l m i with ⟨hc, h3, h4⟩ | ⟨cc, hc, hc0⟩
  · rw [hc]
    have hyes := Lib.hid hc; clear hc
    obtain ⟨g1, g2⟩ := h4
    obtain ⟨I, rfl⟩ := Int.eq_ofNat_of_zero_le g1
    have hi : I < n := by have := hl.out; omega
    obtain ⟨hs, hr⟩ := h3
    obtain ⟨hr, -, -⟩ := rule_bd hr
    have hn2 := sndsOk_len hs hl.out
    have HS := Lib.hid hs; clear hs
    obtain ⟨xi, yi, di, ei, hxi⟩ := snd_at hl.out hi
    obtain ⟨-, -, b1, b2⟩ := sndOk_bd (sndsOk_get HS.out hxi.out)
    obtain ⟨b, off, rfl, hbw⟩ := h.head4 hi
    have hII : (I : Int) < (n : Int) := by omega
    have k0 : w1.cell? ⟨w.heap.size, 0, none⟩ = some (.int .i64 r) := K.out.cell 0
    have k1 : w1.cell? ⟨w.heap.size, 1, none⟩ = some (.int .i64 l) := K.out.cell 1
    have k2 : w1.cell? ⟨w.heap.size, 2, none⟩ = some (.int .i64 m) := K.out.cell 2
    go_wp2_with fail
    go_at_call 38
    refine (neighbours_any _ _ _ _ _ _ _ _ _ h2 HS.out hr hi).mono ?_
    rintro e w2 ⟨aN, qN, cN, rfl, hoN, hb⟩
    replace B := B.trans (hb.mono B.size)
    have hrN := hoN.row
    have HN := Lib.hid hrN.len
    have hqN : qN ≤ 200 := by have := HN.out; have := pick_len (nearB xs r I) xs.length; have := hl.out; unfold nearL at *; omega
    clear hb hoN k0 k1 k2 K h2
    by_cases hz : qN = 0
    · have e1 : ((qN : Int) == 0) = true := by simp [hz]
      have hno := Lib.hid (spikeMargin_none hyes.out (by rw [Int.toNat_natCast]; exact List.eq_nil_of_length_eq_zero (by rw [HN.out, hz])))
      clear hz
      go_wp2
      go_ret2
      rw [hno.out]
      exact ⟨rfl, B⟩
    · have e1 : ((qN : Int) == 0) = false := by simp; omega
      have hpos : 0 < qN := by omega
      have hposI : (0 : Int) < (qN : Int) := by omega
      clear hz
      obtain ⟨bN, offN, v, rfl, hcv, hv⟩ := hrN.at_ hpos
      rw [Nat.add_zero] at hcv
      obtain ⟨u, rfl, hu, -⟩ := pick_get hv.out
      have hun : u < n := by have := hl.out; omega
      have huI : (u : Int) < (n : Int) := by omega
      obtain ⟨x', y', d', e', hx'⟩ := snd_at hl.out hun
      obtain ⟨-, -, d3, d4⟩ := sndOk_bd (sndsOk_get HS.out hx'.out)
      obtain ⟨z0, z1, z2, z3⟩ := (h.below4 B (Nat.le_refl _)).get4_ hx'.out
      have hstart : Hid (MoInv xs (nearL xs r I) 0 (d' + e')) := by
        have hv1 := hv.out
        unfold Hid
        generalize nearL xs r I = L at hv1
        cases L with
        | nil => simp at hv1
        | cons k t =>
          simp at hv1
          subst hv1
          have := MoInv.start0 (ss := xs) (k := (u : Int)) (t := t)
          rwa [Int.toNat_natCast, at4_get hx'.out] at this
      clear hu
      go_wp2_with fail
      go_at_call 39
      refine (bounds_any _ _ _ _ _ d3 d4).mono ?_
      rintro e w3 ⟨rfl, hb⟩
      have hrN3 := hrN.below hb (Nat.le_refl _)
      replace B := B.trans (hb.mono B.size)
      clear hb z0 z1 z2 z3 hcv hrN
      go_wp2
      go_loopw [10, 37] (fun s kk wr => ∃ (j : Nat) (M : Int), j ≤ qN ∧ kk = .int .i64 j ∧ s = .int .i64 M ∧ -10000000 ≤ M ∧ M ≤ 10000000 ∧ Hid (MoInv xs (nearL xs r I) j M) ∧ Below w3.heap.size w3 wr) (fun _ i _ => qN - (intOf i).toNat)
      case atStart => exact ⟨0, _, Nat.zero_le _, rfl, rfl, by omega, by omega, hstart, Below.refl _ _⟩
      case round =>
        obtain ⟨j, M, hj, rfl, rfl, hM1, hM2, hinv, hbi⟩ := hrel
        have B4 := B.trans (hbi.mono B.size)
        by_cases hjq : j < qN
        · obtain ⟨bN2, offN2, v2, e2, hcv2, hv2⟩ := (hrN3.below hbi (Nat.le_refl _)).at_ hjq
          injection e2 with e2
          injection e2 with e3 e4 _
          subst e3; subst e4
          obtain ⟨u2, rfl, hu2, -⟩ := pick_get hv2.out
          have hun2 : u2 < n := by have := hl.out; omega
          have huI2 : (u2 : Int) < (n : Int) := by omega
          obtain ⟨x2, y2, f2, g2, hx2⟩ := snd_at hl.out hun2
          obtain ⟨-, -, d5, d6⟩ := sndOk_bd (sndsOk_get HS.out hx2.out)
          obtain ⟨z0, z1, z2, z3⟩ := (h.below4 B4 (Nat.le_refl _)).get4_ hx2.out
          have hst := hinv.out.step hv2.out
          rw [Int.toNat_natCast, at4_get hx2.out] at hst
          have HST := Lib.hid (show MoInv xs (nearL xs r I) (j + 1) (max M (f2 + g2)) from hst)
          clear hst hu2
          go_wp2_with fail
          go_at_call 39
          refine (bounds_any _ _ _ _ _ d5 d6).mono ?_
          rintro e w5 ⟨rfl, hb⟩
          replace hbi := hbi.trans (hb.mono hbi.size)
          clear hb z0 z1 z2 z3 hcv2 B4
          go_wp2
          all_goals
            go_roundw
            case rel => exact ⟨j + 1, max M (f2 + g2), by omega, by go_num, by first | rfl | (rw [max_ite]; go_num) | (congr 1; omega), by omega, by omega, HST.out, hbi⟩
            case measure => simp [intOf]; omega
        · obtain ⟨z0, z1, z2, z3⟩ := (h.below4 B4 (Nat.le_refl _)).get4_ hxi.out
          have hres : Hid (spikeMargin xs r l m (I : Int) = (di - ei - M - 1, 0)) := by
            obtain ⟨k, t, h5, h6⟩ := hinv.out.done HN.out hjq
            have := spikeMargin_some hyes.out (by rw [Int.toNat_natCast]; exact h5)
            rw [h6, Int.toNat_natCast, at4_get hxi.out] at this
            exact this
          go_wp2_with fail
          go_at_call 39
          refine (bounds_any _ _ _ _ _ b1 b2).mono ?_
          rintro e w5 ⟨rfl, hb⟩
          replace B4 := B4.trans (hb.mono B4.size)
          clear hb z0 z1 z2 z3
          go_wp2
          go_ret2
          rw [hres.out]
          exact ⟨rfl, B4⟩
  · rw [hc]
    have hno := Lib.hid (spikeMargin_no hc hc0)
    have e1 : (cc != 0) = true := by simpa using hc0
    clear hc hc0
    go_wp2
    go_ret2
    rw [hno.out]
    exact ⟨rfl, B⟩
set_option maxHeartbeats 3200000 in
theorem spikeMargin_spec (a : Option Addr) (n c : Nat) (xs : List I4) (r l m i : Int) (w : World) (h : Row w 4 a n (frs xs)) (hn : n ≤ 1048576) :
    Calls Try.prog 13 #[.slice a n c, .agg #[.int .i64 r, .int .i64 l, .int .i64 m], .int .i64 i] w fun e w' => e = .returned (.tuple #[.int .i64 (spikeMargin xs r l m i).1, .int .i64 (spikeMargin xs r l m i).2]) ∧ Below w.heap.size w w' := by
  have K := Lib.hid (Blk.new w 26 #[.int .i64 r, .int .i64 l, .int .i64 m])
  have B : Below w.heap.size w (w.alloc (.cells #[.int .i64 r, .int .i64 l, .int .i64 m] 26)) := (Below.refl _ _).alloc (Nat.le_refl _) _
  have hl := Lib.hid h.len4
  have q1 := field_high
  have q0 := field_low
  go_enter Try.func13, Try.ntmps13
  go_wp2_with fail
  go_at_call 15
  refine (neighboursOf_spec _ _ _ _ _ _ _ _ _ (h.alloc4 _) hn).mono ?_
  rintro e w2 ⟨aN, qN, cN, rfl, hoN, hb⟩
  replace B := B.trans (hb.mono B.size)
  have hrN := hoN.row
  clear hb hoN K
  rcases indexC_cases xs r l m i with ⟨hc, h3, h4⟩ | ⟨cc, hc, hc0⟩
  · have hnb := neighboursOf_yes hc
    rw [hnb] at hrN ⊢
    clear hnb
    have hyes := Lib.hid hc; clear hc
    obtain ⟨g1, g2⟩ := h4
    obtain ⟨I, rfl⟩ := Int.eq_ofNat_of_zero_le g1
    replace hrN : Row w2 1 aN qN (ints (nearL xs r I)) := hrN
    have hi : I < n := by have := hl.out; omega
    obtain ⟨hs, hr⟩ := h3
    obtain ⟨hr, -, -⟩ := rule_bd hr
    have hn2 := sndsOk_len hs hl.out
    have HS := Lib.hid hs; clear hs
    obtain ⟨xi, yi, di, ei, hxi⟩ := snd_at hl.out hi
    obtain ⟨-, -, b1, b2⟩ := sndOk_bd (sndsOk_get HS.out hxi.out)
    obtain ⟨b, off, rfl, hbw⟩ := h.head4 hi
    have hII : (I : Int) < (n : Int) := by omega
    have HN := Lib.hid hrN.len
    have hqN : qN ≤ 200 := by have := HN.out; have := pick_len (nearB xs r I) xs.length; have := hl.out; unfold nearL at *; omega
    by_cases hz : qN = 0
    · have e1 : ((qN : Int) == 0) = true := by simp [hz]
      have hno := Lib.hid (spikeMargin_none hyes.out (by rw [Int.toNat_natCast]; exact List.eq_nil_of_length_eq_zero (by rw [HN.out, hz])))
      clear hz
      go_wp2
      go_ret2
      rw [hno.out]
      exact ⟨rfl, B⟩
    · have e1 : ((qN : Int) == 0) = false := by simp; omega
      have hpos : 0 < qN := by omega
      have hposI : (0 : Int) < (qN : Int) := by omega
      clear hz
      obtain ⟨bN, offN, v, rfl, hcv, hv⟩ := hrN.at_ hpos
      rw [Nat.add_zero] at hcv
      obtain ⟨u, rfl, hu, -⟩ := pick_get hv.out
      have hun : u < n := by have := hl.out; omega
      have huI : (u : Int) < (n : Int) := by omega
      obtain ⟨x', y', d', e', hx'⟩ := snd_at hl.out hun
      obtain ⟨-, -, d3, d4⟩ := sndOk_bd (sndsOk_get HS.out hx'.out)
      obtain ⟨z0, z1, z2, z3⟩ := (h.below4 B (Nat.le_refl _)).get4_ hx'.out
      have hstart : Hid (MoInv xs (nearL xs r I) 1 (d' + e')) := by
        have hv1 := hv.out
        unfold Hid
        generalize nearL xs r I = L at hv1
        cases L with
        | nil => simp at hv1
        | cons k t =>
          simp at hv1
          subst hv1
          have := MoInv.start1 (ss := xs) (k := (u : Int)) (t := t)
          rwa [Int.toNat_natCast, at4_get hx'.out] at this
      clear hu
      go_wp2_with fail
      go_at_call 40
      refine (l21Bounds_any _ _ _ _ _ d3 d4).mono ?_
      rintro e w3 ⟨rfl, hb⟩
      have hrN3 := hrN.below hb (Nat.le_refl _)
      replace B := B.trans (hb.mono B.size)
      clear hb z0 z1 z2 z3 hcv hrN
      go_wp2
      go_loopw [10, 11] (fun s kk wr => ∃ (j : Nat) (M : Int), j ≤ qN ∧ kk = .int .i64 j ∧ s = .int .i64 M ∧ -10000000 ≤ M ∧ M ≤ 10000000 ∧ Hid (MoInv xs (nearL xs r I) j M) ∧ Below w3.heap.size w3 wr) (fun _ i _ => qN - (intOf i).toNat)
      case atStart => exact ⟨1, _, by omega, rfl, rfl, by omega, by omega, hstart, Below.refl _ _⟩
      case round =>
        obtain ⟨j, M, hj, rfl, rfl, hM1, hM2, hinv, hbi⟩ := hrel
        have B4 := B.trans (hbi.mono B.size)
        by_cases hjq : j < qN
        · obtain ⟨bN2, offN2, v2, e2, hcv2, hv2⟩ := (hrN3.below hbi (Nat.le_refl _)).at_ hjq
          injection e2 with e2
          injection e2 with e3 e4 _
          subst e3; subst e4
          obtain ⟨u2, rfl, hu2, -⟩ := pick_get hv2.out
          have hun2 : u2 < n := by have := hl.out; omega
          have huI2 : (u2 : Int) < (n : Int) := by omega
          obtain ⟨x2, y2, f2, g2, hx2⟩ := snd_at hl.out hun2
          obtain ⟨-, -, d5, d6⟩ := sndOk_bd (sndsOk_get HS.out hx2.out)
          obtain ⟨z0, z1, z2, z3⟩ := (h.below4 B4 (Nat.le_refl _)).get4_ hx2.out
          have hst := hinv.out.step hv2.out
          rw [Int.toNat_natCast, at4_get hx2.out] at hst
          have HST := Lib.hid (show MoInv xs (nearL xs r I) (j + 1) (max M (f2 + g2)) from hst)
          clear hst hu2
          go_wp2_with fail
          go_at_call 40
          refine (l21Bounds_any _ _ _ _ _ d5 d6).mono ?_
          rintro e w5 ⟨rfl, hb⟩
          replace hbi := hbi.trans (hb.mono hbi.size)
          clear hb z0 z1 z2 z3 hcv2 B4
          go_wp2
          all_goals
            go_roundw
            case rel => exact ⟨j + 1, max M (f2 + g2), by omega, by go_num, by first | rfl | (rw [max_ite]; go_num) | (congr 1; omega), by omega, by omega, HST.out, hbi⟩
            case measure => simp [intOf]; omega
        · obtain ⟨z0, z1, z2, z3⟩ := (h.below4 B4 (Nat.le_refl _)).get4_ hxi.out
          have hres : Hid (spikeMargin xs r l m (I : Int) = (di - ei - M - 1, 0)) := by
            obtain ⟨k, t, h5, h6⟩ := hinv.out.done HN.out hjq
            have := spikeMargin_some hyes.out (by rw [Int.toNat_natCast]; exact h5)
            rw [h6, Int.toNat_natCast, at4_get hxi.out] at this
            exact this
          go_wp2_with fail
          go_at_call 40
          refine (l21Bounds_any _ _ _ _ _ b1 b2).mono ?_
          rintro e w5 ⟨rfl, hb⟩
          replace B4 := B4.trans (hb.mono B4.size)
          clear hb z0 z1 z2 z3
          go_wp2
          go_ret2
          rw [hres.out]
          exact ⟨rfl, B4⟩
  · have hnb := neighboursOf_no hc hc0
    rw [hnb]
    clear hnb
    have hno := Lib.hid (spikeMargin_no hc hc0)
    have e1 : (cc != 0) = true := by simpa using hc0
    clear hc hc0
    go_wp2
    go_ret2
    rw [hno.out]
    exact ⟨rfl, B⟩
end Go.Proofs.Ytcbehnlpefjhdaa
