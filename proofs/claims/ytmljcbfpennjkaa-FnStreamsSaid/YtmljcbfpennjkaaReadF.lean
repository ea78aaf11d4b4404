/- ReadFrame, by the reference. -/
import Derived.Test.YtmljcbfpennjkaaReadE
namespace Go.Proofs.Ytmljcbfpennjkaa
open Go.RowKit Go.Shelf
set_option maxRecDepth 100000
set_option linter.unusedVariables false
set_option linter.unusedSimpArgs false

set_option maxHeartbeats 6400000 in
theorem read_spec (a : Option Addr) (n c : Nat) (xs : List Int) (w : World) (h : Row w 1 a n (ints xs)) (hn : n ≤ 1200) (hnc : n ≤ c) (hc : c ≤ maxLen) (hb : listOk 1200 0 1 xs = true) :
    Calls Try.prog 47 #[.slice a n c] w (ReadPost w xs) := by
  have hl := h.len
  have B0 := (Below.refl w.heap.size w).alloc (Nat.le_refl _) (.cells #[.int .i64 0, .int .i64 0, .slice none 0 0] 28)
  have K0 := Lib.hid (Blk.new w 28 #[.int .i64 0, .int .i64 0, .slice none 0 0])
  by_cases h16 : n < 16
  · have HRD := Lib.hid (readL_short (bits := xs) (by omega))
    have q0 := K0.out.cell 0
    have q1 := K0.out.cell 1
    have q2 := K0.out.cell 2
    go_enter Try.func47, Try.ntmps47
    go_wp2
    exact bodyPost_ret (v := .tuple #[.agg #[.int .i64 0, .int .i64 0, .slice none 0 0], .bool false]) (by simp only [results, Try.results47, Array.size]; simp [go_sem, q0, q1, q2]) rfl ⟨0, 0, none, 0, 0, [], by rw [HRD.out]; rfl, Own.nil_ _ _ _ _ _, B0, (by intro f hf; rw [HRD.out] at hf; cases hf), by omega⟩
  obtain ⟨b, off, rfl, -⟩ := h.2 (by omega)
  have HX := Lib.hid (h.below B0 (Nat.le_refl _))
  have HXL := Lib.hid hl
  have HB0 := Lib.hid B0
  have HMX := Lib.hid hc
  have HH := Lib.hid h
  have HBK := Lib.hid hb
  have HMK := Lib.hid (mid_ok hb)
  simp only [maxLen] at hc
  have g0 : (n : Int) - 8 = ((n - 8 : Nat) : Int) := by omega
  have g1 : (n : Int) - 8 ≤ (c : Int) := by omega
  have g2 : ((n : Int) - 8).toNat = n - 8 := by omega
  have g3 : (8 : Int) ≤ (n : Int) - 8 := by omega
  have g4 : ¬ c = 8 := by omega
  have g5 : ¬ (n : Int) < 16 := by omega
  have g6 : (0 : Int) ≤ (n : Int) - 8 := by omega
  have g7 : n - 8 - 8 = n - 16 := by omega
  have HG0 := Lib.hid g0
  clear hb B0 hl h g0
  cases hf1 : flagAt xs 0
  · have HRD := Lib.hid (flags_at HXL.out (by omega) (.inl hf1))
    go_enter Try.func47, Try.ntmps47
    go_wp2_with fail
    go_at_call 64
    refine (l25At_any _ _ _ 0 xs _ HX.out (by omega) hnc HMX.out (by omega)).mono ?_
    rintro e wa ⟨rfl, ba⟩
    rw [hf1]
    replace HX := Lib.hid (HX.out.below ba (Nat.le_refl _))
    replace K0 := Lib.hid (K0.out.belowSelf ba)
    replace HB0 := Lib.hid (HB0.out.trans (ba.mono HB0.out.size))
    clear ba
    have HF := Lib.hid (fun W4 e4 => read_fin0 (k := 0) (m := 0) (a := none) (n := 0) (c := 0) (ys := []) K0.out rfl HB0.out (Own.nil_ _ _ _ _ _) (W4 := W4) e4)
    have q0 : wa.cell? ⟨w.heap.size, 0, none⟩ = some (.int .i64 0) := K0.out.cell 0
    have q1 : wa.cell? ⟨w.heap.size, 1, none⟩ = some (.int .i64 0) := K0.out.cell 1
    have q2 : wa.cell? ⟨w.heap.size, 2, none⟩ = some (.slice none 0 0) := K0.out.cell 2
    have f0 := K0.out.frozen 0
    have f1 := K0.out.frozen 1
    have f2 := K0.out.frozen 2
    have hzl := K0.out.lt
    go_wp2
    obtain ⟨z0, z1, z2, ho, hb⟩ := HF.out _ rfl
    exact bodyPost_ret (v := .tuple #[.agg #[.int .i64 0, .int .i64 0, .slice none 0 0], .bool false]) (by simp only [results, Try.results47, Array.size]; simp [go_sem, z0, z1, z2]) rfl ⟨0, 0, none, 0, 0, [], by rw [HRD.out]; rfl, ho, hb, (by intro f hf; rw [HRD.out] at hf; cases hf), by omega⟩
  cases hf2 : flagAt xs (n - 8)
  · have HRD := Lib.hid (flags_at HXL.out (by omega) (.inr hf2))
    go_enter Try.func47, Try.ntmps47
    go_wp2_with fail
    go_at_call 64
    refine (l25At_any _ _ _ 0 xs _ HX.out (by omega) hnc HMX.out (by omega)).mono ?_
    rintro e wa ⟨rfl, ba⟩
    rw [hf1]
    replace HX := Lib.hid (HX.out.below ba (Nat.le_refl _))
    replace K0 := Lib.hid (K0.out.belowSelf ba)
    replace HB0 := Lib.hid (HB0.out.trans (ba.mono HB0.out.size))
    clear ba
    go_wp2_with fail
    rw [HG0.out]
    go_at_call 64
    refine (l25At_any _ _ _ (n - 8) xs _ HX.out (by omega) hnc HMX.out (by omega)).mono ?_
    rintro e wb ⟨rfl, bb⟩
    rw [hf2]
    replace HX := Lib.hid (HX.out.below bb (Nat.le_refl _))
    replace K0 := Lib.hid (K0.out.belowSelf bb)
    replace HB0 := Lib.hid (HB0.out.trans (bb.mono HB0.out.size))
    clear bb
    have HF := Lib.hid (fun W4 e4 => read_fin0 (k := 0) (m := 0) (a := none) (n := 0) (c := 0) (ys := []) K0.out rfl HB0.out (Own.nil_ _ _ _ _ _) (W4 := W4) e4)
    have q0 : wb.cell? ⟨w.heap.size, 0, none⟩ = some (.int .i64 0) := K0.out.cell 0
    have q1 : wb.cell? ⟨w.heap.size, 1, none⟩ = some (.int .i64 0) := K0.out.cell 1
    have q2 : wb.cell? ⟨w.heap.size, 2, none⟩ = some (.slice none 0 0) := K0.out.cell 2
    have f0 := K0.out.frozen 0
    have f1 := K0.out.frozen 1
    have f2 := K0.out.frozen 2
    have hzl := K0.out.lt
    go_wp2
    obtain ⟨z0, z1, z2, ho, hb⟩ := HF.out _ rfl
    exact bodyPost_ret (v := .tuple #[.agg #[.int .i64 0, .int .i64 0, .slice none 0 0], .bool false]) (by simp only [results, Try.results47, Array.size]; simp [go_sem, z0, z1, z2]) rfl ⟨0, 0, none, 0, 0, [], by rw [HRD.out]; rfl, ho, hb, (by intro f hf; rw [HRD.out] at hf; cases hf), by omega⟩
  cases hin : unstL 0 (midL xs) with
  | none =>
    have HRD := Lib.hid (readL_bad hin)
    have hok : unstOk (midL xs) = false := by simp [unstOk, hin]
    clear hin
    go_enter Try.func47, Try.ntmps47
    go_wp2_with fail
    go_at_call 64
    refine (l25At_any _ _ _ 0 xs _ HX.out (by omega) hnc HMX.out (by omega)).mono ?_
    rintro e wa ⟨rfl, ba⟩
    rw [hf1]
    replace HX := Lib.hid (HX.out.below ba (Nat.le_refl _))
    replace K0 := Lib.hid (K0.out.belowSelf ba)
    replace HB0 := Lib.hid (HB0.out.trans (ba.mono HB0.out.size))
    clear ba
    go_wp2_with fail
    rw [HG0.out]
    go_at_call 64
    refine (l25At_any _ _ _ (n - 8) xs _ HX.out (by omega) hnc HMX.out (by omega)).mono ?_
    rintro e wb ⟨rfl, bb⟩
    rw [hf2]
    replace HX := Lib.hid (HX.out.below bb (Nat.le_refl _))
    replace K0 := Lib.hid (K0.out.belowSelf bb)
    replace HB0 := Lib.hid (HB0.out.trans (bb.mono HB0.out.size))
    clear bb
    rw [← HG0.out]
    have hm0 : Row wb 1 (some ⟨b, off + 8, none⟩) (n - 16) (ints (midL xs)) := by
      have t := HX.out.piece (c := c) (i := 8) (m := n - 16) (by omega)
      rw [midL, HXL.out]
      exact t
    have HM := Lib.hid hm0
    clear hm0
    go_wp2_with fail
    go_at_call 76
    refine (l25Unstuff_any _ _ _ _ _ HM.out (by omega) HMK.out).mono ?_
    rintro e w1 ⟨a1, m, c1, ys, rfl, O1, hys, b1⟩
    rw [hok]
    replace K0 := Lib.hid (K0.out.belowSelf b1)
    replace HB0 := Lib.hid (HB0.out.trans (b1.mono HB0.out.size))
    clear b1
    clear O1 hys
    have HF := Lib.hid (fun W4 e4 => read_fin0 (k := 0) (m := 0) (a := none) (n := 0) (c := 0) (ys := []) K0.out rfl HB0.out (Own.nil_ _ _ _ _ _) (W4 := W4) e4)
    have q0 : w1.cell? ⟨w.heap.size, 0, none⟩ = some (.int .i64 0) := K0.out.cell 0
    have q1 : w1.cell? ⟨w.heap.size, 1, none⟩ = some (.int .i64 0) := K0.out.cell 1
    have q2 : w1.cell? ⟨w.heap.size, 2, none⟩ = some (.slice none 0 0) := K0.out.cell 2
    have f0 := K0.out.frozen 0
    have f1 := K0.out.frozen 1
    have f2 := K0.out.frozen 2
    have hzl := K0.out.lt
    go_wp2
    obtain ⟨z0, z1, z2, ho, hb⟩ := HF.out _ rfl
    exact bodyPost_ret (v := .tuple #[.agg #[.int .i64 0, .int .i64 0, .slice none 0 0], .bool false]) (by simp only [results, Try.results47, Array.size]; simp [go_sem, z0, z1, z2]) rfl ⟨0, 0, none, 0, 0, [], by rw [HRD.out]; rfl, ho, hb, (by intro f hf; rw [HRD.out] at hf; cases hf), by omega⟩
  | some inner =>
    cases hbs : innerL inner with
    | some bs => exact read_long_spec b off n c xs inner bs w HH.out hn (by omega) hnc HMX.out HBK.out hf1 hf2 hin hbs
    | none =>
      have HRD := Lib.hid (readL_odd hin hbs)
      have hok : unstOk (midL xs) = true := by simp [unstOk, hin]
      have HU := Lib.hid hin
      have HIN := Lib.hid hbs
      clear hin hbs
      go_enter Try.func47, Try.ntmps47
      go_wp2_with fail
      go_at_call 64
      refine (l25At_any _ _ _ 0 xs _ HX.out (by omega) hnc HMX.out (by omega)).mono ?_
      rintro e wa ⟨rfl, ba⟩
      rw [hf1]
      replace HX := Lib.hid (HX.out.below ba (Nat.le_refl _))
      replace K0 := Lib.hid (K0.out.belowSelf ba)
      replace HB0 := Lib.hid (HB0.out.trans (ba.mono HB0.out.size))
      clear ba
      go_wp2_with fail
      rw [HG0.out]
      go_at_call 64
      refine (l25At_any _ _ _ (n - 8) xs _ HX.out (by omega) hnc HMX.out (by omega)).mono ?_
      rintro e wb ⟨rfl, bb⟩
      rw [hf2]
      replace HX := Lib.hid (HX.out.below bb (Nat.le_refl _))
      replace K0 := Lib.hid (K0.out.belowSelf bb)
      replace HB0 := Lib.hid (HB0.out.trans (bb.mono HB0.out.size))
      clear bb
      rw [← HG0.out]
      have hm0 : Row wb 1 (some ⟨b, off + 8, none⟩) (n - 16) (ints (midL xs)) := by
        have t := HX.out.piece (c := c) (i := 8) (m := n - 16) (by omega)
        rw [midL, HXL.out]
        exact t
      have HM := Lib.hid hm0
      clear hm0
      go_wp2_with fail
      go_at_call 76
      refine (l25Unstuff_any _ _ _ _ _ HM.out (by omega) HMK.out).mono ?_
      rintro e w1 ⟨a1, m, c1, ys, rfl, O1, hys, b1⟩
      rw [hok]
      replace K0 := Lib.hid (K0.out.belowSelf b1)
      replace HB0 := Lib.hid (HB0.out.trans (b1.mono HB0.out.size))
      clear b1
      obtain rfl := hys.out _ HU.out
      have hm := innerL_none O1.row.len HIN.out
      have hm12 : m ≤ 1200 := by have h1 := O1.row.len; have := unstL_len _ _ _ HU.out; have := listOk_le HMK.out rfl; omega
      clear O1 hys hf1 hf2
      by_cases hm8 : m % 8 = 0
      · have hr1 : Int.tmod (m : Int) 8 = 0 := by rw [Int.tmod_eq_emod_of_nonneg (by omega)]; omega
        have hr2 : (m : Int) < 32 := by omega
        clear hm8 hm
        have HF := Lib.hid (fun W4 e4 => read_fin0 (k := 0) (m := 0) (a := none) (n := 0) (c := 0) (ys := []) K0.out rfl HB0.out (Own.nil_ _ _ _ _ _) (W4 := W4) e4)
        have q0 : w1.cell? ⟨w.heap.size, 0, none⟩ = some (.int .i64 0) := K0.out.cell 0
        have q1 : w1.cell? ⟨w.heap.size, 1, none⟩ = some (.int .i64 0) := K0.out.cell 1
        have q2 : w1.cell? ⟨w.heap.size, 2, none⟩ = some (.slice none 0 0) := K0.out.cell 2
        have f0 := K0.out.frozen 0
        have f1 := K0.out.frozen 1
        have f2 := K0.out.frozen 2
        have hzl := K0.out.lt
        go_wp2
        obtain ⟨z0, z1, z2, ho, hb⟩ := HF.out _ rfl
        exact bodyPost_ret (v := .tuple #[.agg #[.int .i64 0, .int .i64 0, .slice none 0 0], .bool false]) (by simp only [results, Try.results47, Array.size]; simp [go_sem, z0, z1, z2]) rfl ⟨0, 0, none, 0, 0, [], by rw [HRD.out]; rfl, ho, hb, (by intro f hf; rw [HRD.out] at hf; cases hf), by omega⟩
      · have hr1 : ¬ (m : Int) % 8 = 0 := by omega
        clear hm8 hm
        have HF := Lib.hid (fun W4 e4 => read_fin0 (k := 0) (m := 0) (a := none) (n := 0) (c := 0) (ys := []) K0.out rfl HB0.out (Own.nil_ _ _ _ _ _) (W4 := W4) e4)
        have q0 : w1.cell? ⟨w.heap.size, 0, none⟩ = some (.int .i64 0) := K0.out.cell 0
        have q1 : w1.cell? ⟨w.heap.size, 1, none⟩ = some (.int .i64 0) := K0.out.cell 1
        have q2 : w1.cell? ⟨w.heap.size, 2, none⟩ = some (.slice none 0 0) := K0.out.cell 2
        have f0 := K0.out.frozen 0
        have f1 := K0.out.frozen 1
        have f2 := K0.out.frozen 2
        have hzl := K0.out.lt
        go_wp2
        obtain ⟨z0, z1, z2, ho, hb⟩ := HF.out _ rfl
        exact bodyPost_ret (v := .tuple #[.agg #[.int .i64 0, .int .i64 0, .slice none 0 0], .bool false]) (by simp only [results, Try.results47, Array.size]; simp [go_sem, z0, z1, z2]) rfl ⟨0, 0, none, 0, 0, [], by rw [HRD.out]; rfl, ho, hb, (by intro f hf; rw [HRD.out] at hf; cases hf), by omega⟩


set_option maxHeartbeats 1600000 in
theorem readFrame_spec (a : Option Addr) (n c : Nat) (xs : List Int) (w : World) (h : Row w 1 a n (ints xs)) (hn : n ≤ 1048576) (hnc : n ≤ c) (hc : c ≤ maxLen) :
    Calls Try.prog 17 #[.slice a n c] w (FramePost w (readFrame xs)) := by
  have hl := h.len
  have B0 := (Below.refl w.heap.size w).alloc (Nat.le_refl _) (.cells #[.int .i64 0, .int .i64 0, .slice none 0 0] 28)
  have K0 := Lib.hid (Blk.new w 28 #[.int .i64 0, .int .i64 0, .slice none 0 0])
  have h' := h.alloc (.cells #[.int .i64 0, .int .i64 0, .slice none 0 0] 28)
  cases hok : listOk 1200 0 1 xs
  · rw [readFrame_no hok]
    have q0 := K0.out.cell 0
    have q1 := K0.out.cell 1
    have q2 := K0.out.cell 2
    go_enter Try.func17, Try.ntmps17
    go_wp2_with (go_at_call 46; refine (l25Bits_any _ _ _ _ _ h' hn).mono ?_; rintro e w' ⟨rfl, rfl⟩)
    exact bodyPost_ret (v := .tuple #[.agg #[.int .i64 0, .int .i64 0, .slice none 0 0], .int .i64 1]) (by simp only [results, Try.results17, Array.size]; simp [go_sem, q0, q1, q2]) rfl ⟨none, 0, 0, rfl, Own.nil_ _ _ _ _ _, B0⟩
  · have hle := listOk_le hok hl
    have HOK := Lib.hid hok
    have HB0 := Lib.hid B0
    have HX := Lib.hid h'
    clear B0 h'
    go_enter Try.func17, Try.ntmps17
    go_wp2_with (first | (go_at_call 46; refine (l25Bits_any _ _ _ _ _ HX.out hn).mono ?_; rintro e w' ⟨rfl, rfl⟩) | fail)
    go_at_call 47
    refine (read_spec _ _ _ _ _ HX.out (by omega) hnc hc HOK.out).mono ?_
    rintro e w1 ⟨k, m, a1, n1, c1, ys, rfl, O1, b1, hr, hn1⟩
    have HB1 := Lib.hid (HB0.out.trans (b1.mono HB0.out.size))
    replace K0 := Lib.hid (K0.out.belowSelf b1)
    have hwA := HB0.out.size
    have O2 := Lib.hid (O1.mono (lo' := w.heap.size + 1) (by simp) (Nat.le_refl _))
    have K2 := K0
    have HBW := HB1
    have hzl := K0.out.lt
    have q0 : w1.cell? ⟨w.heap.size, 0, none⟩ = some (.int .i64 0) := K0.out.cell 0
    have q1 : w1.cell? ⟨w.heap.size, 1, none⟩ = some (.int .i64 0) := K0.out.cell 1
    have q2 : w1.cell? ⟨w.heap.size, 2, none⟩ = some (.slice none 0 0) := K0.out.cell 2
    have f0 := K0.out.frozen 0
    have f1 := K0.out.frozen 1
    have f2 := K0.out.frozen 2
    clear b1 O1 K0 HB1
    cases hrd : readL xs with
    | none =>
      have HRF := Lib.hid (readFrame_none HOK.out hrd)
      clear hr hok
      have HF := Lib.hid (fun W4 e4 => read_fin1 (o := .cells #[.int .i64 k, .int .i64 m, .slice a1 n1 c1] 28) (k := 0) (m := 0) (a := none) (n := 0) (c := 0) (ys := []) K2.out rfl HBW.out (Own.nil_ _ _ _ _ _) (W4 := W4) e4)
      go_wp2
      obtain ⟨z0, z1, z2, ho, hb⟩ := HF.out _ rfl
      exact bodyPost_ret (v := .tuple #[.agg #[.int .i64 (0), .int .i64 (0), .slice none 0 0], .int .i64 6]) (by simp only [results, Try.results17, Array.size]; simp [go_sem, z0, z1, z2]) rfl ⟨none, 0, 0, by rw [HRF.out], by rw [HRF.out]; exact ho, hb⟩
    | some f =>
      obtain rfl := hr.out _ hrd
      have HRF := Lib.hid (readFrame_some HOK.out hrd)
      clear hr hok
      have HF := Lib.hid (fun W4 e4 => read_fin1 (o := .cells #[.int .i64 k, .int .i64 m, .slice a1 n1 c1] 28) (k := k) (m := m) (a := a1) (n := n1) (c := c1) (ys := ys) K2.out rfl HBW.out O2.out (W4 := W4) e4)
      go_wp2
      obtain ⟨z0, z1, z2, ho, hb⟩ := HF.out _ rfl
      exact bodyPost_ret (v := .tuple #[.agg #[.int .i64 (k), .int .i64 (m), .slice a1 n1 c1], .int .i64 0]) (by simp only [results, Try.results17, Array.size]; simp [go_sem, z0, z1, z2]) rfl ⟨a1, n1, c1, by rw [HRF.out], by rw [HRF.out]; exact ho, hb⟩
end Go.Proofs.Ytmljcbfpennjkaa
