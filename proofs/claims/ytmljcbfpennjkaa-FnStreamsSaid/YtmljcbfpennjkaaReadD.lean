/- ReadFrame, by the program. -/
import Derived.Test.YtmljcbfpennjkaaReadC
namespace Go.Proofs.Ytmljcbfpennjkaa
open Go.RowKit Go.Shelf
set_option maxRecDepth 100000
set_option linter.unusedVariables false
set_option linter.unusedSimpArgs false

/-- The three stores into a result's cell. -/
theorem read_fin0 {w W3 : World} {cs : Array Value} (hR : Blk W3 w.heap.size 28 cs) (h3 : cs.size = 3) (hB : Below w.heap.size w W3)
    {k m : Int} {a : Option Addr} {n c : Nat} {ys : List Int} (hO : Own W3 (w.heap.size + 1) W3.heap.size 2 1 a n c (ints ys)) {W4 : World} (e4 : ((W3.setCell ⟨w.heap.size, 0, none⟩ (.int .i64 k)).setCell ⟨w.heap.size, 1, none⟩ (.int .i64 m)).setCell ⟨w.heap.size, 2, none⟩ (.slice a n c) = W4) :
    W4.cell? ⟨w.heap.size, 0, none⟩ = some (.int .i64 k) ∧ W4.cell? ⟨w.heap.size, 1, none⟩ = some (.int .i64 m) ∧ W4.cell? ⟨w.heap.size, 2, none⟩ = some (.slice a n c) ∧ Own W4 w.heap.size W4.heap.size 2 1 a n c (ints ys) ∧ Below w.heap.size w W4 := by
  have hblk : Blk W4 w.heap.size 28 (((cs.setIfInBounds 0 (.int .i64 k)).setIfInBounds 1 (.int .i64 m)).setIfInBounds 2 (.slice a n c)) := by
    rw [← e4]; exact ((hR.set_ 0 _).set_ 1 _).set_ 2 _
  have hb4 : Below w.heap.size w W4 := by
    rw [← e4]; exact ((hB.setCell (p := ⟨w.heap.size, 0, none⟩) (Nat.le_refl _) _).setCell (p := ⟨w.heap.size, 1, none⟩) (Nat.le_refl _) _).setCell (p := ⟨w.heap.size, 2, none⟩) (Nat.le_refl _) _
  have ho4 : Own W4 (w.heap.size + 1) W4.heap.size 2 1 a n c (ints ys) := by
    rw [← e4]
    exact (((hO.setFar (p := ⟨w.heap.size, 0, none⟩) (.inl (by simp)) _).setFar (p := ⟨w.heap.size, 1, none⟩) (.inl (by simp)) _).setFar (p := ⟨w.heap.size, 2, none⟩) (.inl (by simp)) _).leave
  have c0 := hblk.cell 0
  have c1 := hblk.cell 1
  have c2 := hblk.cell 2
  refine ⟨?_, ?_, ?_, ho4.mono (by omega) (Nat.le_refl _), hb4⟩
  · rw [c0]; simp [h3]
  · rw [c1]; simp [h3]
  · rw [c2]; simp [h3]

/-- A cell reads as before behind a block that is laid. -/
theorem Below.cell_alloc {W : World} {b i : Nat} {v : Value} (h : W.cell? ⟨b, i, none⟩ = some v) (o : Obj) : (W.alloc o).cell? ⟨b, i, none⟩ = some v :=
  (((Below.refl W.heap.size W).alloc (Nat.le_refl _) o).cell (p := ⟨b, i, none⟩) (World.block_lt_of_cell? W _ h)).trans h

/-- .. and a block laid behind them. -/
theorem read_fin1 {w W3 : World} {cs : Array Value} (hR : Blk W3 w.heap.size 28 cs) (h3 : cs.size = 3) (hB : Below w.heap.size w W3)
    {k m : Int} {a : Option Addr} {n c : Nat} {ys : List Int} (hO : Own W3 (w.heap.size + 1) W3.heap.size 2 1 a n c (ints ys)) {o : Obj} {W4 : World} (e4 : (((W3.setCell ⟨w.heap.size, 0, none⟩ (.int .i64 k)).setCell ⟨w.heap.size, 1, none⟩ (.int .i64 m)).setCell ⟨w.heap.size, 2, none⟩ (.slice a n c)).alloc o = W4) :
    W4.cell? ⟨w.heap.size, 0, none⟩ = some (.int .i64 k) ∧ W4.cell? ⟨w.heap.size, 1, none⟩ = some (.int .i64 m) ∧ W4.cell? ⟨w.heap.size, 2, none⟩ = some (.slice a n c) ∧ Own W4 w.heap.size W4.heap.size 2 1 a n c (ints ys) ∧ Below w.heap.size w W4 := by
  obtain ⟨z0, z1, z2, ho, hb⟩ := read_fin0 hR h3 hB hO rfl
  subst e4
  exact ⟨Below.cell_alloc z0 o, Below.cell_alloc z1 o, Below.cell_alloc z2 o, (ho.alloc o).leave, hb.alloc hb.size o⟩

theorem read_impl (a : Option Addr) (n c : Nat) (xs : List Int) (w : World) (h : Row w 1 a n (ints xs)) (hn : n ≤ 1200) (hnc : n ≤ c) (hc : c ≤ maxLen) (hb : listOk 1200 0 1 xs = true) :
    Calls Try.prog 49 #[.slice a n c] w (ReadPost w xs) := by
  have hl := h.len
  have B0 := (Below.refl w.heap.size w).alloc (Nat.le_refl _) (.cells #[.int .i64 0, .int .i64 0, .slice none 0 0] 28)
  have K0 := Lib.hid (Blk.new w 28 #[.int .i64 0, .int .i64 0, .slice none 0 0])
  by_cases h16 : n < 16
  · have HRD := Lib.hid (readL_short (bits := xs) (by omega))
    have q0 := K0.out.cell 0
    have q1 := K0.out.cell 1
    have q2 := K0.out.cell 2
    go_enter Try.func49, Try.ntmps49
    go_wp2
    exact bodyPost_ret (v := .tuple #[.agg #[.int .i64 0, .int .i64 0, .slice none 0 0], .bool false]) (by simp only [results, Try.results49, Array.size]; simp [go_sem, q0, q1, q2]) rfl ⟨0, 0, none, 0, 0, [], by rw [HRD.out]; rfl, Own.nil_ _ _ _ _ _, B0, (by intro f hf; rw [HRD.out] at hf; cases hf), by omega⟩
  · obtain ⟨b, off, rfl, -⟩ := h.2 (by omega)
    cases hin : unstL 0 (midL xs) with
    | some inner =>
      cases hbs : innerL inner with
      | some bs => exact read_long b off n c xs inner bs w h hn (by omega) hnc hc hb hin hbs
      | none =>
        have HRD := Lib.hid (readL_odd hin hbs)
        have hok : unstOk (midL xs) = true := by simp [unstOk, hin]
        have HX := Lib.hid (h.below B0 (Nat.le_refl _))
        have hm0 : Row (w.alloc (.cells #[.int .i64 0, .int .i64 0, .slice none 0 0] 28)) 1 (some ⟨b, off + 8, none⟩) (n - 16) (ints (midL xs)) := by
          have t := HX.out.piece (c := c) (i := 8) (m := n - 16) (by omega)
          rw [midL, hl]
          exact t
        have HM := Lib.hid hm0
        have HU := Lib.hid hin
        have HMK := Lib.hid (mid_ok hb)
        have HIN := Lib.hid hbs
        have HB0 := Lib.hid B0
        simp only [maxLen] at hc
        have g1 : (n : Int) - 8 ≤ (c : Int) := by omega
        have g2 : ((n : Int) - 8).toNat = n - 8 := by omega
        have g3 : (8 : Int) ≤ (n : Int) - 8 := by omega
        have g4 : ¬ c = 8 := by omega
        have g5 : ¬ (n : Int) < 16 := by omega
        have g6 : (0 : Int) ≤ (n : Int) - 8 := by omega
        have g7 : n - 8 - 8 = n - 16 := by omega
        clear hm0 hin hb B0 hbs hl h HX
        go_enter Try.func49, Try.ntmps49
        go_wp2_with fail
        go_at_call 80
        refine (unstuff_any _ _ _ _ _ HM.out (by omega) HMK.out).mono ?_
        rintro e w1 ⟨a1, m, c1, ys, rfl, O1, hys, b1⟩
        rw [hok]
        obtain rfl := hys.out _ HU.out
        have hm := innerL_none O1.row.len HIN.out
        have hm12 : m ≤ 1200 := by have h1 := O1.row.len; have := unstL_len _ _ _ HU.out; have := listOk_le HMK.out rfl; omega
        clear O1 hys
        by_cases hm8 : m % 8 = 0
        · have hr1 : Int.tmod (m : Int) 8 = 0 := by rw [Int.tmod_eq_emod_of_nonneg (by omega)]; omega
          have hr2 : (m : Int) < 32 := by omega
          clear hm8 hm
          replace K0 := Lib.hid (K0.out.belowSelf b1)
          have HBW := Lib.hid (HB0.out.trans (b1.mono HB0.out.size))
          have HF := Lib.hid (fun W4 e4 => read_fin0 (k := 0) (m := 0) (a := none) (n := 0) (c := 0) (ys := []) K0.out rfl HBW.out (Own.nil_ _ _ _ _ _) (W4 := W4) e4)
          have q0 : w1.cell? ⟨w.heap.size, 0, none⟩ = some (.int .i64 0) := K0.out.cell 0
          have q1 : w1.cell? ⟨w.heap.size, 1, none⟩ = some (.int .i64 0) := K0.out.cell 1
          have q2 : w1.cell? ⟨w.heap.size, 2, none⟩ = some (.slice none 0 0) := K0.out.cell 2
          have f0 := K0.out.frozen 0
          have f1 := K0.out.frozen 1
          have f2 := K0.out.frozen 2
          have hzl := K0.out.lt
          clear b1
          go_wp2
          obtain ⟨z0, z1, z2, ho, hb⟩ := HF.out _ rfl
          exact bodyPost_ret (v := .tuple #[.agg #[.int .i64 0, .int .i64 0, .slice none 0 0], .bool false]) (by simp only [results, Try.results49, Array.size]; simp [go_sem, z0, z1, z2]) rfl ⟨0, 0, none, 0, 0, [], by rw [HRD.out]; rfl, ho, hb, (by intro f hf; rw [HRD.out] at hf; cases hf), by omega⟩
        · have hr1 : ¬ (m : Int) % 8 = 0 := by omega
          clear hm8 hm
          replace K0 := Lib.hid (K0.out.belowSelf b1)
          have HBW := Lib.hid (HB0.out.trans (b1.mono HB0.out.size))
          have HF := Lib.hid (fun W4 e4 => read_fin0 (k := 0) (m := 0) (a := none) (n := 0) (c := 0) (ys := []) K0.out rfl HBW.out (Own.nil_ _ _ _ _ _) (W4 := W4) e4)
          have q0 : w1.cell? ⟨w.heap.size, 0, none⟩ = some (.int .i64 0) := K0.out.cell 0
          have q1 : w1.cell? ⟨w.heap.size, 1, none⟩ = some (.int .i64 0) := K0.out.cell 1
          have q2 : w1.cell? ⟨w.heap.size, 2, none⟩ = some (.slice none 0 0) := K0.out.cell 2
          have f0 := K0.out.frozen 0
          have f1 := K0.out.frozen 1
          have f2 := K0.out.frozen 2
          have hzl := K0.out.lt
          clear b1
          go_wp2
          obtain ⟨z0, z1, z2, ho, hb⟩ := HF.out _ rfl
          exact bodyPost_ret (v := .tuple #[.agg #[.int .i64 0, .int .i64 0, .slice none 0 0], .bool false]) (by simp only [results, Try.results49, Array.size]; simp [go_sem, z0, z1, z2]) rfl ⟨0, 0, none, 0, 0, [], by rw [HRD.out]; rfl, ho, hb, (by intro f hf; rw [HRD.out] at hf; cases hf), by omega⟩
    | none =>
      have HRD := Lib.hid (readL_bad hin)
      have hok : unstOk (midL xs) = false := by simp [unstOk, hin]
      have HX := Lib.hid (h.below B0 (Nat.le_refl _))
      have hm0 : Row (w.alloc (.cells #[.int .i64 0, .int .i64 0, .slice none 0 0] 28)) 1 (some ⟨b, off + 8, none⟩) (n - 16) (ints (midL xs)) := by
        have t := HX.out.piece (c := c) (i := 8) (m := n - 16) (by omega)
        rw [midL, hl]
        exact t
      have HM := Lib.hid hm0
      have HMK := Lib.hid (mid_ok hb)
      have HB0 := Lib.hid B0
      simp only [maxLen] at hc
      have g1 : (n : Int) - 8 ≤ (c : Int) := by omega
      have g2 : ((n : Int) - 8).toNat = n - 8 := by omega
      have g3 : (8 : Int) ≤ (n : Int) - 8 := by omega
      have g4 : ¬ c = 8 := by omega
      have g5 : ¬ (n : Int) < 16 := by omega
      have g6 : (0 : Int) ≤ (n : Int) - 8 := by omega
      have g7 : n - 8 - 8 = n - 16 := by omega
      clear hm0 hin hb B0 hl h HX
      go_enter Try.func49, Try.ntmps49
      go_wp2_with fail
      go_at_call 80
      refine (unstuff_any _ _ _ _ _ HM.out (by omega) HMK.out).mono ?_
      rintro e w1 ⟨a1, m, c1, ys, rfl, O1, hys, b1⟩
      rw [hok]
      clear O1 hys
      replace K0 := Lib.hid (K0.out.belowSelf b1)
      have HBW := Lib.hid (HB0.out.trans (b1.mono HB0.out.size))
      have HF := Lib.hid (fun W4 e4 => read_fin0 (k := 0) (m := 0) (a := none) (n := 0) (c := 0) (ys := []) K0.out rfl HBW.out (Own.nil_ _ _ _ _ _) (W4 := W4) e4)
      have q0 : w1.cell? ⟨w.heap.size, 0, none⟩ = some (.int .i64 0) := K0.out.cell 0
      have q1 : w1.cell? ⟨w.heap.size, 1, none⟩ = some (.int .i64 0) := K0.out.cell 1
      have q2 : w1.cell? ⟨w.heap.size, 2, none⟩ = some (.slice none 0 0) := K0.out.cell 2
      have f0 := K0.out.frozen 0
      have f1 := K0.out.frozen 1
      have f2 := K0.out.frozen 2
      have hzl := K0.out.lt
      clear b1
      go_wp2
      obtain ⟨z0, z1, z2, ho, hb⟩ := HF.out _ rfl
      exact bodyPost_ret (v := .tuple #[.agg #[.int .i64 0, .int .i64 0, .slice none 0 0], .bool false]) (by simp only [results, Try.results49, Array.size]; simp [go_sem, z0, z1, z2]) rfl ⟨0, 0, none, 0, 0, [], by rw [HRD.out]; rfl, ho, hb, (by intro f hf; rw [HRD.out] at hf; cases hf), by omega⟩

/-- What ReadFrame hands out. -/
def FramePost (w : World) (r : Fr × Int) (e : Ending) (w' : World) : Prop := ∃ (a : Option Addr) (n c : Nat),
  e = .returned (.tuple #[.agg #[.int .i64 r.1.1, .int .i64 r.1.2.1, .slice a n c], .int .i64 r.2]) ∧ Own w' w.heap.size w'.heap.size 2 1 a n c (ints r.1.2.2) ∧ Below w.heap.size w w'

set_option maxHeartbeats 1600000 in
theorem readFrame_impl (a : Option Addr) (n c : Nat) (xs : List Int) (w : World) (h : Row w 1 a n (ints xs)) (hn : n ≤ 1048576) (hnc : n ≤ c) (hc : c ≤ maxLen) :
    Calls Try.prog 19 #[.slice a n c] w (FramePost w (readFrame xs)) := by
  have hl := h.len
  have B0 := (Below.refl w.heap.size w).alloc (Nat.le_refl _) (.cells #[.int .i64 0, .int .i64 0, .slice none 0 0] 28)
  have K0 := Lib.hid (Blk.new w 28 #[.int .i64 0, .int .i64 0, .slice none 0 0])
  have h' := h.alloc (.cells #[.int .i64 0, .int .i64 0, .slice none 0 0] 28)
  cases hok : listOk 1200 0 1 xs
  · rw [readFrame_no hok]
    have q0 := K0.out.cell 0
    have q1 := K0.out.cell 1
    have q2 := K0.out.cell 2
    go_enter Try.func19, Try.ntmps19
    go_wp2_with (go_at_call 48; refine (isBits_any _ _ _ _ _ _ h' hn).mono ?_; rintro e w' ⟨rfl, rfl⟩)
    exact bodyPost_ret (v := .tuple #[.agg #[.int .i64 0, .int .i64 0, .slice none 0 0], .int .i64 1]) (by simp only [results, Try.results19, Array.size]; simp [go_sem, q0, q1, q2]) rfl ⟨none, 0, 0, rfl, Own.nil_ _ _ _ _ _, B0⟩
  · have hle := listOk_le hok hl
    have HOK := Lib.hid hok
    have HB0 := Lib.hid B0
    have HX := Lib.hid h'
    clear B0 h'
    go_enter Try.func19, Try.ntmps19
    go_wp2_with (first | (go_at_call 48; refine (isBits_any _ _ _ _ _ _ HX.out hn).mono ?_; rintro e w' ⟨rfl, rfl⟩) | fail)
    go_at_call 49
    refine (read_impl _ _ _ _ _ HX.out (by omega) hnc hc HOK.out).mono ?_
    rintro e w1 ⟨k, m, a1, n1, c1, ys, rfl, O1, b1, hr, hn1⟩
    have HB1 := Lib.hid (HB0.out.trans (b1.mono HB0.out.size))
    replace K0 := Lib.hid (K0.out.belowSelf b1)
    have hwA := HB0.out.size
    have O2 := Lib.hid (O1.mono (lo' := w.heap.size + 1) (by simp) (Nat.le_refl _))
    have K2 := K0
    have HBW := HB1
    have hzl := K0.out.lt
    have q0 : w1.cell? ⟨w.heap.size, 0, none⟩ = some (.int .i64 0) := K0.out.cell 0
    have q1 : w1.cell? ⟨w.heap.size, 1, none⟩ = some (.int .i64 0) := K0.out.cell 1
    have q2 : w1.cell? ⟨w.heap.size, 2, none⟩ = some (.slice none 0 0) := K0.out.cell 2
    have f0 := K0.out.frozen 0
    have f1 := K0.out.frozen 1
    have f2 := K0.out.frozen 2
    clear b1 O1 K0 HB1
    cases hrd : readL xs with
    | none =>
      have HRF := Lib.hid (readFrame_none HOK.out hrd)
      clear hr hok
      have HF := Lib.hid (fun W4 e4 => read_fin1 (o := .cells #[.int .i64 k, .int .i64 m, .slice a1 n1 c1] 28) (k := 0) (m := 0) (a := none) (n := 0) (c := 0) (ys := []) K2.out rfl HBW.out (Own.nil_ _ _ _ _ _) (W4 := W4) e4)
      go_wp2
      obtain ⟨z0, z1, z2, ho, hb⟩ := HF.out _ rfl
      exact bodyPost_ret (v := .tuple #[.agg #[.int .i64 (0), .int .i64 (0), .slice none 0 0], .int .i64 6]) (by simp only [results, Try.results19, Array.size]; simp [go_sem, z0, z1, z2]) rfl ⟨none, 0, 0, by rw [HRF.out], by rw [HRF.out]; exact ho, hb⟩
    | some f =>
      obtain rfl := hr.out _ hrd
      have HRF := Lib.hid (readFrame_some HOK.out hrd)
      clear hr hok
      have HF := Lib.hid (fun W4 e4 => read_fin1 (o := .cells #[.int .i64 k, .int .i64 m, .slice a1 n1 c1] 28) (k := k) (m := m) (a := a1) (n := n1) (c := c1) (ys := ys) K2.out rfl HBW.out O2.out (W4 := W4) e4)
      go_wp2
      obtain ⟨z0, z1, z2, ho, hb⟩ := HF.out _ rfl
      exact bodyPost_ret (v := .tuple #[.agg #[.int .i64 (k), .int .i64 (m), .slice a1 n1 c1], .int .i64 0]) (by simp only [results, Try.results19, Array.size]; simp [go_sem, z0, z1, z2]) rfl ⟨a1, n1, c1, by rw [HRF.out], by rw [HRF.out]; exact ho, hb⟩
end Go.Proofs.Ytmljcbfpennjkaa
