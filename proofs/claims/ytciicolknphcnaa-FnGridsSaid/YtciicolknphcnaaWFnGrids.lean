/- The walk of FnGrids: it returns true and writes nothing that was there. -/
import Derived.Test.YtciicolknphcnaaRows
import Derived.Test.YtciicolknphcnaaGridL
import Derived.Test.YtciicolknphcnaaOpenY
import Derived.WalkKit
import Derived.Handy
namespace Go.Proofs.Ytciicolknphcnaa.fnGrids
open Go.RowKit
set_option maxRecDepth 100000
set_option linter.unusedVariables false
set_option linter.unusedVariables false
set_option linter.unusedSimpArgs false

set_option maxRecDepth 100000 in
set_option maxHeartbeats 12800000 in
theorem walk (a0 : Option Addr) (n0 c0 : Nat) (bs : List Nat) (w : World) (f0 : Bytes w a0 n0 bs) :
    Calls Try.prog 4 #[.slice a0 n0 c0] w fun e w' => e = .returned (.bool true) ∧ Below w.heap.size w w' := by
  by_cases hbig : (4096 : Int) < (n0 : Int)
  · go_enter Try.func4, Try.ntmps4
    go_wp2_with (go_at_call 14; refine (big_any _ _ _ _ f0.2.1).mono ?_; rintro e w' ⟨rfl, rfl⟩)
    go_ret
    exact ⟨rfl, Below.refl _ _⟩
  have HC := Lib.hid (f0.code (by omega))
  have hbg := f0.2.1
  clear f0
  go_enter Try.func4, Try.ntmps4
  go_wp2_with (go_at_call 14; refine (big_any _ _ _ _ hbg).mono ?_; rintro e w' ⟨rfl, rfl⟩)
  clear hbig hbg
  have B := Below.refl w.heap.size w
  go_at_call 15
  refine (drawGridSoundings_any _ _ _ _ _ (HC.out.below B (Nat.le_refl _))).mono ?_
  intro e w1 hd
  obtain ⟨aL, nL, cL, ls, sz, wd, hg, rfl, rL, hL, hb⟩ := hd
  replace B := B.trans (hb.mono B.size)
  clear hb
  obtain ⟨r, hr⟩ : ∃ r, gridSnd sz wd hg ls = r := ⟨_, rfl⟩
  obtain ⟨⟨S, X, Y⟩, ⟨cs, ds⟩, cd⟩ := r
  have HI := Lib.hid (fun (a : Option Addr) (c : Nat) (w : World) (h : Row w 4 a nL (frs ls)) => (gridSnd_impl sz wd hg a nL c ls w h (by omega)).mono (fun e w' he => RPost.of hr he))
  have HJ := Lib.hid (fun (a : Option Addr) (c : Nat) (w : World) (h : Row w 4 a nL (frs ls)) => (gridSnd_spec sz wd hg a nL c ls w h (by omega)).mono (fun e w' he => RPost.of hr he))
  have hcs := Lib.hid (gridSnd_cases hr)
  clear hr
  go_wp2_with fail
  go_at_call 8
  refine (HI.out _ _ _ rL).mono ?_
  rintro e w2 ⟨aA, bA, nA, rfl, lA, g_A, hb⟩
  replace B := B.trans (hb.mono B.size)
  replace rL := rL.below4 hb (Nat.le_refl _)
  clear hb
  have GA : GX w2 aA bA nA cs ds := ⟨_, _, g_A⟩
  clear g_A
  obtain ⟨XKA, hXKA⟩ : ∃ X, w2.heap.size = X := ⟨_, rfl⟩
  replace B := B.alloc B.size (.cells #[.int .i64 S, .int .i64 X, .int .i64 Y, .slice aA nA nA, .slice bA nA nA] 27)
  replace rL := rL.alloc4 (.cells #[.int .i64 S, .int .i64 X, .int .i64 Y, .slice aA nA nA, .slice bA nA nA] 27)
  replace GA := GA.alloc (.cells #[.int .i64 S, .int .i64 X, .int .i64 Y, .slice aA nA nA, .slice bA nA nA] 27)
  have KA := Lib.hid (Blk.new' w2 27 #[.int .i64 S, .int .i64 X, .int .i64 Y, .slice aA nA nA, .slice bA nA nA] (g := XKA) hXKA.symm)
  go_wp2_with fail
  go_at_call 6
  refine (HJ.out _ _ _ rL).mono ?_
  rintro e w3 ⟨aM, bM, nM, rfl, lM, g_M, hb⟩
  replace B := B.trans (hb.mono B.size)
  replace rL := rL.below4 hb (Nat.le_refl _)
  replace GA := GA.below hb
  replace KA := Lib.hid (KA.out.belowSelf hb)
  clear hb
  have GM : GX w3 aM bM nM cs ds := ⟨_, _, g_M⟩
  clear g_M
  obtain ⟨XKM, hXKM⟩ : ∃ X, w3.heap.size = X := ⟨_, rfl⟩
  replace B := B.alloc B.size (.cells #[.int .i64 S, .int .i64 X, .int .i64 Y, .slice aM nM nM, .slice bM nM nM] 27)
  replace rL := rL.alloc4 (.cells #[.int .i64 S, .int .i64 X, .int .i64 Y, .slice aM nM nM, .slice bM nM nM] 27)
  replace GA := GA.alloc (.cells #[.int .i64 S, .int .i64 X, .int .i64 Y, .slice aM nM nM, .slice bM nM nM] 27)
  replace KA := Lib.hid (KA.out.alloc (.cells #[.int .i64 S, .int .i64 X, .int .i64 Y, .slice aM nM nM, .slice bM nM nM] 27))
  replace GM := GM.alloc (.cells #[.int .i64 S, .int .i64 X, .int .i64 Y, .slice aM nM nM, .slice bM nM nM] 27)
  have KM := Lib.hid (Blk.new' w3 27 #[.int .i64 S, .int .i64 X, .int .i64 Y, .slice aM nM nM, .slice bM nM nM] (g := XKM) hXKM.symm)
  obtain rfl : nM = nA := by have := GA.rc.len; have := GM.rc.len; omega
  go_wp2_with fail
  go_at_call 16
  refine (drawCellOf_any _ _ _ _ _ (HC.out.below B (Nat.le_refl _))).mono ?_
  intro e w4 hd
  obtain ⟨hs, hx, hy, u, v, gq, hq, nH, cH, dH, ch, dh, rfl, rC, rD, hn30, hb⟩ := hd
  replace B := B.trans (hb.mono B.size)
  replace rL := rL.below4 hb (Nat.le_refl _)
  replace GA := GA.below hb
  replace KA := Lib.hid (KA.out.belowSelf hb)
  replace GM := GM.below hb
  replace KM := Lib.hid (KM.out.belowSelf hb)
  clear hb hXKA hXKM
  obtain ⟨XKH, hXKH⟩ : ∃ X, w4.heap.size = X := ⟨_, rfl⟩
  replace B := B.alloc B.size (.cells #[.int .i64 hs, .int .i64 hx, .int .i64 hy, .slice (some ⟨gq, 0, none⟩) nH cH, .slice (some ⟨hq, 0, none⟩) nH dH] 27)
  replace rL := rL.alloc4 (.cells #[.int .i64 hs, .int .i64 hx, .int .i64 hy, .slice (some ⟨gq, 0, none⟩) nH cH, .slice (some ⟨hq, 0, none⟩) nH dH] 27)
  replace GA := GA.alloc (.cells #[.int .i64 hs, .int .i64 hx, .int .i64 hy, .slice (some ⟨gq, 0, none⟩) nH cH, .slice (some ⟨hq, 0, none⟩) nH dH] 27)
  replace KA := Lib.hid (KA.out.alloc (.cells #[.int .i64 hs, .int .i64 hx, .int .i64 hy, .slice (some ⟨gq, 0, none⟩) nH cH, .slice (some ⟨hq, 0, none⟩) nH dH] 27))
  replace GM := GM.alloc (.cells #[.int .i64 hs, .int .i64 hx, .int .i64 hy, .slice (some ⟨gq, 0, none⟩) nH cH, .slice (some ⟨hq, 0, none⟩) nH dH] 27)
  replace KM := Lib.hid (KM.out.alloc (.cells #[.int .i64 hs, .int .i64 hx, .int .i64 hy, .slice (some ⟨gq, 0, none⟩) nH cH, .slice (some ⟨hq, 0, none⟩) nH dH] 27))
  replace rC := rC.alloc (.cells #[.int .i64 hs, .int .i64 hx, .int .i64 hy, .slice (some ⟨gq, 0, none⟩) nH cH, .slice (some ⟨hq, 0, none⟩) nH dH] 27)
  replace rD := rD.alloc2 (.cells #[.int .i64 hs, .int .i64 hx, .int .i64 hy, .slice (some ⟨gq, 0, none⟩) nH cH, .slice (some ⟨hq, 0, none⟩) nH dH] 27)
  have KH := Lib.hid (Blk.new' w4 27 #[.int .i64 hs, .int .i64 hx, .int .i64 hy, .slice (some ⟨gq, 0, none⟩) nH cH, .slice (some ⟨hq, 0, none⟩) nH dH] (g := XKH) hXKH.symm)
  go_wp2_with fail
  go_at_call 17
  refine (cellOf_impl _ _ _ _ _ _ _ _ _ _ _ _ _ _ rC rD (by omega) (by omega)).mono ?_
  rintro e w5 ⟨rfl, hb⟩
  replace B := B.trans (hb.mono B.size)
  replace rL := rL.below4 hb (Nat.le_refl _)
  replace GA := GA.below hb
  replace KA := Lib.hid (KA.out.belowSelf hb)
  replace GM := GM.below hb
  replace KM := Lib.hid (KM.out.belowSelf hb)
  replace rC := rC.below hb (Nat.le_refl _)
  replace rD := rD.below2 hb (Nat.le_refl _)
  replace KH := Lib.hid (KH.out.belowSelf hb)
  clear hb hXKH
  have q0 : w5.cell? ⟨XKH, 0, none⟩ = some (.int .i64 hs) := KH.out.cell 0
  have q1 : w5.cell? ⟨XKH, 1, none⟩ = some (.int .i64 hx) := KH.out.cell 1
  have q2 : w5.cell? ⟨XKH, 2, none⟩ = some (.int .i64 hy) := KH.out.cell 2
  have q3 : w5.cell? ⟨XKH, 3, none⟩ = some (.slice (some ⟨gq, 0, none⟩) nH cH) := KH.out.cell 3
  have q4 : w5.cell? ⟨XKH, 4, none⟩ = some (.slice (some ⟨hq, 0, none⟩) nH dH) := KH.out.cell 4
  go_wp2_with fail
  go_at_call 18
  refine (cellOf_spec _ _ _ _ _ _ _ _ _ _ _ _ _ _ rC rD (by omega) (by omega)).mono ?_
  rintro e w6 ⟨rfl, hb⟩
  replace B := B.trans (hb.mono B.size)
  replace rL := rL.below4 hb (Nat.le_refl _)
  replace GA := GA.below hb
  replace KA := Lib.hid (KA.out.belowSelf hb)
  replace GM := GM.below hb
  replace KM := Lib.hid (KM.out.belowSelf hb)
  replace rC := rC.below hb (Nat.le_refl _)
  replace rD := rD.below2 hb (Nat.le_refl _)
  replace KH := Lib.hid (KH.out.belowSelf hb)
  clear hb q0 q1 q2 q3 q4
  have e0 : (cd != cd) = false := by simp
  have e1 : ((cellOf hs hx hy ch dh u v).2 != (cellOf hs hx hy ch dh u v).2) = false := by simp
  have e2 : ((cellOf hs hx hy ch dh u v).1 != (cellOf hs hx hy ch dh u v).1) = false := by simp
  have e3 : (gridOk hs hx hy ch dh != gridOk hs hx hy ch dh) = false := by simp
  go_upto_region 9 with (fail)
  go_cut [94] (fun v wx => v = .bool false ∧ Below w.heap.size w wx ∧ Hid (Row wx 4 aL nL (frs ls)) ∧ Hid (GX wx aA bA nM cs ds) ∧ Hid (Blk wx XKA 27 #[.int .i64 S, .int .i64 X, .int .i64 Y, .slice aA nM nM, .slice bA nM nM]) ∧ Hid (GX wx aM bM nM cs ds) ∧ Hid (Blk wx XKM 27 #[.int .i64 S, .int .i64 X, .int .i64 Y, .slice aM nM nM, .slice bM nM nM]) ∧ Hid (Row wx 1 (some ⟨gq, 0, none⟩) nH (ints ch)) ∧ Hid (Row wx 2 (some ⟨hq, 0, none⟩) nH (prs dh)) ∧ Hid (Blk wx XKH 27 #[.int .i64 hs, .int .i64 hx, .int .i64 hy, .slice (some ⟨gq, 0, none⟩) nH cH, .slice (some ⟨hq, 0, none⟩) nH dH]))
  case first => as_aux_lemma =>
    go_wp2_with fail
    replace B := B.drew
    replace rL := rL.drew
    replace GA := GA.drew
    replace KA := Lib.hid KA.out.drew
    replace GM := GM.drew
    replace KM := Lib.hid KM.out.drew
    replace rC := rC.drew
    replace rD := rD.drew
    replace KH := Lib.hid KH.out.drew
    go_region_held3 (fun w' => w'.cell? ⟨XKA, 0, none⟩ = some (.int .i64 S) ∧ w'.cell? ⟨XKA, 1, none⟩ = some (.int .i64 X) ∧ w'.cell? ⟨XKA, 2, none⟩ = some (.int .i64 Y) ∧ w'.cell? ⟨XKA, 3, none⟩ = some (.slice aA nM nM) ∧ w'.cell? ⟨XKA, 4, none⟩ = some (.slice bA nM nM) ∧ w'.cell? ⟨XKM, 0, none⟩ = some (.int .i64 S) ∧ w'.cell? ⟨XKM, 1, none⟩ = some (.int .i64 X) ∧ w'.cell? ⟨XKM, 2, none⟩ = some (.int .i64 Y) ∧ w'.cell? ⟨XKM, 3, none⟩ = some (.slice aM nM nM) ∧ w'.cell? ⟨XKM, 4, none⟩ = some (.slice bM nM nM) ∧ w'.cell? ⟨XKH, 0, none⟩ = some (.int .i64 hs) ∧ w'.cell? ⟨XKH, 1, none⟩ = some (.int .i64 hx) ∧ w'.cell? ⟨XKH, 2, none⟩ = some (.int .i64 hy) ∧ w'.cell? ⟨XKH, 3, none⟩ = some (.slice (some ⟨gq, 0, none⟩) nH cH) ∧ w'.cell? ⟨XKH, 4, none⟩ = some (.slice (some ⟨hq, 0, none⟩) nH dH)) (exact ⟨KA.out.cell 0, KA.out.cell 1, KA.out.cell 2, KA.out.cell 3, KA.out.cell 4, KM.out.cell 0, KM.out.cell 1, KM.out.cell 2, KM.out.cell 3, KM.out.cell 4, KH.out.cell 0, KH.out.cell 1, KH.out.cell 2, KH.out.cell 3, KH.out.cell 4⟩) (first | (go_at_call 19; refine (likeGrids_same _ _ _ _ _ _ _ _ _ _ _ _ _ _ _ GA.choose_spec.choose_spec GM.choose_spec.choose_spec lM).mono ?_; rintro e w7 ⟨rfl, hb⟩; replace B := B.trans (hb.mono B.size); replace rL := rL.below4 hb (Nat.le_refl _); replace GA := GA.below hb; replace KA := Lib.hid (KA.out.belowSelf hb); replace GM := GM.below hb; replace KM := Lib.hid (KM.out.belowSelf hb); replace rC := rC.below hb (Nat.le_refl _); replace rD := rD.below2 hb (Nat.le_refl _); replace KH := Lib.hid (KH.out.belowSelf hb); clear hb) | (go_at_call 20; refine (isDepthGrid_impl _ _ _ _ _ _ _ _ _ _ _ _ rC rD (by omega) (by omega)).mono ?_; rintro e w8 ⟨rfl, hb⟩; replace B := B.trans (hb.mono B.size); replace rL := rL.below4 hb (Nat.le_refl _); replace GA := GA.below hb; replace KA := Lib.hid (KA.out.belowSelf hb); replace GM := GM.below hb; replace KM := Lib.hid (KM.out.belowSelf hb); replace rC := rC.below hb (Nat.le_refl _); replace rD := rD.below2 hb (Nat.le_refl _); replace KH := Lib.hid (KH.out.belowSelf hb); clear hb) | (go_at_call 21; refine (isDepthGrid_spec _ _ _ _ _ _ _ _ _ _ _ _ rC rD (by omega) (by omega)).mono ?_; rintro e w9 ⟨rfl, hb⟩; replace B := B.trans (hb.mono B.size); replace rL := rL.below4 hb (Nat.le_refl _); replace GA := GA.below hb; replace KA := Lib.hid (KA.out.belowSelf hb); replace GM := GM.below hb; replace KM := Lib.hid (KM.out.belowSelf hb); replace rC := rC.below hb (Nat.le_refl _); replace rD := rD.below2 hb (Nat.le_refl _); replace KH := Lib.hid (KH.out.belowSelf hb); clear hb))
    all_goals (go_wp2_with fail; go_meet; exact ⟨rfl, B, Lib.hid rL, Lib.hid GA, KA, Lib.hid GM, KM, Lib.hid rC, Lib.hid rD, KH⟩)
  case rest => as_aux_lemma =>
    clear B rL GA KA GM KM rC rD KH
    obtain ⟨rfl, B, rL, GA, KA, GM, KM, rC, rD, KH⟩ := hcut
    replace rL := rL.out
    replace GA := GA.out
    replace GM := GM.out
    replace rC := rC.out
    replace rD := rD.out
    obtain ⟨w7, rfl⟩ : ∃ w7 : World, w7 = wc := ⟨_, rfl⟩
    clear e0 e1 e2 e3
    clear rC rD KH
    rcases hcs.out with hne | ⟨rfl, rfl, rfl, rfl, hsn, hsh, gp, gok⟩
    · have hf : (cd != 0) = true := by simpa using hne
      clear hne
      go_wp2
      go_ret
      exact ⟨rfl, B⟩
    · clear hcs HI HJ
      have HP := Lib.hid gp
      have HK := Lib.hid gok
      have HS := Lib.hid hsn
      have hlL := rL.len4
      have hdM := GM.rd.len2
      have hcM := GM.rc.len
      obtain ⟨gs, gx, gy⟩ := shapeOk_true hsh
      have hN := Lib.hid (show ((S * 0 + nM : Int) = X * Y) by have h1 := (gridOk_shape gok).2.1; rw [hcM] at h1; omega)
      clear gp gok hsn hsh
      have rM := GM.rd
      clear GM
      go_wp2
      go_loopw [18, 19, 20, 21, 22, 23] (fun c i _ _ _ _ wr => ∃ (k : Nat) (cv : Int), i = .int .i64 k ∧ c = .int .i64 cv ∧ k ≤ nL ∧ 0 ≤ cv ∧ cv ≤ k ∧ Hid (cv = ((inCells S X Y (ls.take k)).length : Int)) ∧ Below w.heap.size w wr ∧ Hid (Row wr 4 aL nL (frs ls)) ∧ Hid (GX wr aA bA nM cs ds) ∧ Hid (Blk wr XKA 27 #[.int .i64 S, .int .i64 X, .int .i64 Y, .slice aA nM nM, .slice bA nM nM]) ∧ Hid (Blk wr XKM 27 #[.int .i64 S, .int .i64 X, .int .i64 Y, .slice aM nM nM, .slice bM nM nM]) ∧ Hid (Row wr 2 bM nM (prs ds))) (fun _ i _ _ _ _ _ => nL - (intOf i).toNat)
      case atStart => exact ⟨0, 0, rfl, rfl, by omega, by omega, by omega, Lib.hid (by simp [inCells]), B, Lib.hid rL, Lib.hid GA, KA, KM, Lib.hid rM⟩
      case round =>
        clear B rL GA KA KM rM
        obtain ⟨k, cv, rfl, rfl, hk, hc0, hc1, HC2, B, rL, GA, KA, KM, rM⟩ := hrel
        replace rL := rL.out
        replace GA := GA.out
        replace rM := rM.out
        obtain ⟨w8, rfl⟩ : ∃ w8 : World, w8 = wr := ⟨_, rfl⟩
        by_cases hlt : k < nL
        · have hkI : (k : Int) < (nL : Int) := by omega
          obtain ⟨b, off, x, y, z, u, rfl, hg4, hx⟩ := rL.at4 hlt
          obtain ⟨g0, g1, g2, g3⟩ := hg4
          have hok : sndOk (x, y, z, u) = true := by have h1 := HS.out; simp only [sndsOk, Bool.and_eq_true, List.all_eq_true] at h1; exact h1.1 _ (List.mem_of_getElem? hx.out)
          obtain ⟨bx, bY, bz, bu⟩ := sndOk_bd hok
          have hfo : fieldOk x y = true := by simp [fieldOk, inR]; omega
          have HO := Lib.hid hok
          clear hok
          go_wp2_with fail
          clear g0 g1 g2 g3
          replace B := B.drew
          replace rL := rL.drew
          replace GA := GA.drew
          replace KA := Lib.hid KA.out.drew
          replace KM := Lib.hid KM.out.drew
          replace rM := rM.drew
          go_region_held3 (fun w' => w'.cell? ⟨XKA, 0, none⟩ = some (.int .i64 S) ∧ w'.cell? ⟨XKA, 1, none⟩ = some (.int .i64 X) ∧ w'.cell? ⟨XKA, 2, none⟩ = some (.int .i64 Y) ∧ w'.cell? ⟨XKA, 3, none⟩ = some (.slice aA nM nM) ∧ w'.cell? ⟨XKA, 4, none⟩ = some (.slice bA nM nM) ∧ w'.cell? ⟨b, off + k * 4, none⟩ = some (.int .i64 x) ∧ w'.cell? ⟨b, off + k * 4 + 1, none⟩ = some (.int .i64 y)) (exact ⟨KA.out.cell 0, KA.out.cell 1, KA.out.cell 2, KA.out.cell 3, KA.out.cell 4, (rL.get4_ hx.out).1, (rL.get4_ hx.out).2.1⟩) ((go_at_call 17; refine (cellOf_impl _ _ _ _ _ _ _ _ _ _ _ _ _ _ GA.rc GA.rd (by omega) (by omega)).mono ?_; rintro e w9 ⟨rfl, hb⟩; replace B := B.trans (hb.mono B.size); replace rL := rL.below4 hb (Nat.le_refl _); replace GA := GA.below hb; replace KA := Lib.hid (KA.out.belowSelf hb); replace KM := Lib.hid (KM.out.belowSelf hb); replace rM := rM.below2 hb (Nat.le_refl _); clear hb))
          have hin := Lib.hid (inCells_take (s := S) (x := X) (y := Y) hx.out)
          by_cases hcl : cellAt S X Y x y < 0
          · rw [cellOf_none HK.out hfo hcl]
            have HC3 := Lib.hid (show cv = ((inCells S X Y (ls.take (k + 1))).length : Int) by rw [hin.out, if_neg (by show ¬ 0 ≤ cellAt S X Y x y; omega), HC2.out]; simp)
            clear hin HC2 hcl hfo
            go_wp2
            go_roundw
            case rel => exact ⟨k + 1, cv, by go_num, rfl, by omega, by omega, by omega, HC3, B, Lib.hid rL, Lib.hid GA, KA, KM, Lib.hid rM⟩
            case measure => simp [intOf]; omega
          · rw [cellOf_yes HK.out hfo hcl]
            have HC3 := Lib.hid (show cv + 1 = ((inCells S X Y (ls.take (k + 1))).length : Int) by rw [hin.out, if_pos (by show 0 ≤ cellAt S X Y x y; omega), HC2.out])
            obtain ⟨i, hi⟩ := Int.eq_ofNat_of_zero_le (show 0 ≤ cellAt S X Y x y by omega)
            obtain ⟨c1, d1, k1, k2, k3, k4, k5⟩ := HP.out.inn _ (List.mem_of_getElem? hx.out) i hi
            have hiM : i < nM := by have := (List.getElem?_eq_some_iff.1 k3).1; omega
            obtain ⟨dl, dhh⟩ := d1
            have k4 : dl ≤ z - u := k4
            have k5 : z + u ≤ dhh := k5
            have HD := Lib.hid k3
            rw [hi]
            clear hin HC2 hcl hfo hi k1 k2 k3 c1
            obtain ⟨g0, g1, g2, g3⟩ := rL.get4_ hx.out
            go_wp2_with fail
            go_at_call 22
            refine (depthBounds_any _ _ _ _ _ HO.out).mono ?_
            rintro e w10 ⟨rfl, hb⟩
            replace B := B.trans (hb.mono B.size)
            replace rL := rL.below4 hb (Nat.le_refl _)
            replace GA := GA.below hb
            replace KA := Lib.hid (KA.out.belowSelf hb)
            replace KM := Lib.hid (KM.out.belowSelf hb)
            replace rM := rM.below2 hb (Nat.le_refl _)
            clear hb g0 g1 g2 g3
            obtain ⟨XKB, hXKB⟩ : ∃ X, w10.heap.size = X := ⟨_, rfl⟩
            replace B := B.alloc B.size (.cells #[.int .i64 (z - u), .int .i64 (z + u)] 49)
            replace rL := rL.alloc4 (.cells #[.int .i64 (z - u), .int .i64 (z + u)] 49)
            replace GA := GA.alloc (.cells #[.int .i64 (z - u), .int .i64 (z + u)] 49)
            replace KA := Lib.hid (KA.out.alloc (.cells #[.int .i64 (z - u), .int .i64 (z + u)] 49))
            replace KM := Lib.hid (KM.out.alloc (.cells #[.int .i64 (z - u), .int .i64 (z + u)] 49))
            replace rM := rM.alloc2 (.cells #[.int .i64 (z - u), .int .i64 (z + u)] 49)
            have KB := Lib.hid (Blk.new' w10 49 #[.int .i64 (z - u), .int .i64 (z + u)] (g := XKB) hXKB.symm)
            obtain ⟨b2, off2, rfl, -⟩ := rM.head2g hiM
            have hiI : (i : Int) < (nM : Int) := by omega
            have f1 : decide ((i : Int) < 0) = false := decide_eq_false (by omega)
            have f2 : decide ((nM : Int) ≤ (i : Int)) = false := decide_eq_false (by omega)
            have f3 : decide (nM ≤ i) = false := decide_eq_false (by omega)
            have f4 : ((i : Int) < (nM : Int)) := by omega
            go_upto_region 20 with (fail)
            replace B := B.drew
            replace rL := rL.drew
            replace GA := GA.drew
            replace KA := Lib.hid KA.out.drew
            replace KM := Lib.hid KM.out.drew
            replace rM := rM.drew
            replace KB := Lib.hid KB.out.drew
            refine wp_region_held_drew (S := fun w' => w'.cell? ⟨XKM, 0, none⟩ = some (.int .i64 S) ∧ w'.cell? ⟨XKM, 1, none⟩ = some (.int .i64 X) ∧ w'.cell? ⟨XKM, 2, none⟩ = some (.int .i64 Y) ∧ w'.cell? ⟨XKM, 3, none⟩ = some (.slice aM nM nM) ∧ w'.cell? ⟨XKM, 4, none⟩ = some (.slice (some ⟨b2, off2, none⟩) nM nM) ∧ w'.cell? ⟨XKB, 0, none⟩ = some (.int .i64 (z - u)) ∧ w'.cell? ⟨XKB, 1, none⟩ = some (.int .i64 (z + u)) ∧ w'.cell? ⟨b2, off2 + i * 2, none⟩ = some (.int .i64 dl) ∧ w'.cell? ⟨b2, off2 + i * 2 + 1, none⟩ = some (.int .i64 dhh)) (by kernel_rfl) (⟨KM.out.cell 0, KM.out.cell 1, KM.out.cell 2, KM.out.cell 3, KM.out.cell 4, KB.out.cell 0, KB.out.cell 1, (rM.get2_ HD.out).1, (rM.get2_ HD.out).2⟩) (fun hHeld => ?_)
            refine wpAnyH_take (i := 0) (oi := ?oiq0) (v := ?vq0) ?hiq0 (by kernel_rfl) (by kernel_rfl) (by kernel_rfl) ?hQq0 ?hyq0 (by assumption) ?hrq0
            case hiq0 => (simp only [List.getElem?_toArray, List.getElem?_cons_succ, List.getElem?_cons_zero]; rfl)
            case hQq0 => exact fun _ _ _ h => h
            case hyq0 => (refine Or.inl ⟨by rfl, ?_⟩; intro w hSw; (try dsimp only at hSw); (go_simp <;> with_reducible rfl))
            (try simp only [Act.put, List.setIfInBounds_toArray, List.set_cons_zero, List.set_cons_succ])
            refine wpAnyH_take (i := 1) (oi := ?oiq1) (v := ?vq1) ?hiq1 (by kernel_rfl) (by kernel_rfl) (by kernel_rfl) ?hQq1 ?hyq1 (by assumption) ?hrq1
            case hiq1 => (simp only [List.getElem?_toArray, List.getElem?_cons_succ, List.getElem?_cons_zero]; rfl)
            case hQq1 => exact fun _ _ _ h => h
            case hyq1 => (refine Or.inl ⟨by rfl, ?_⟩; intro w hSw; (try dsimp only at hSw); (go_simp <;> with_reducible rfl))
            (try simp only [Act.put, List.setIfInBounds_toArray, List.set_cons_zero, List.set_cons_succ])
            refine wpAnyH_take (i := 2) (oi := ?oiq2) (v := ?vq2) ?hiq2 (by kernel_rfl) (by kernel_rfl) (by kernel_rfl) ?hQq2 ?hyq2 (by assumption) ?hrq2
            case hiq2 => (simp only [List.getElem?_toArray, List.getElem?_cons_succ, List.getElem?_cons_zero]; rfl)
            case hQq2 => exact fun _ _ _ h => h
            case hyq2 => (refine Or.inl ⟨by rfl, ?_⟩; intro w hSw; (try dsimp only at hSw); (go_simp <;> with_reducible rfl))
            (try simp only [Act.put, List.setIfInBounds_toArray, List.set_cons_zero, List.set_cons_succ])
            refine wpAnyH_take (i := 3) (oi := ?oiq3) (v := ?vq3) ?hiq3 (by kernel_rfl) (by kernel_rfl) (by kernel_rfl) ?hQq3 ?hyq3 (by assumption) ?hrq3
            case hiq3 => (simp only [List.getElem?_toArray, List.getElem?_cons_succ, List.getElem?_cons_zero]; rfl)
            case hQq3 => exact fun _ _ _ h => h
            case hyq3 => (refine Or.inl ⟨by rfl, ?_⟩; intro w hSw; (try dsimp only at hSw); (go_simp <;> with_reducible rfl))
            (try simp only [Act.put, List.setIfInBounds_toArray, List.set_cons_zero, List.set_cons_succ])
            refine wpAnyH_take (i := 4) (oi := ?oiq4) (v := ?vq4) ?hiq4 (by kernel_rfl) (by kernel_rfl) (by kernel_rfl) ?hQq4 ?hyq4 (by assumption) ?hrq4
            case hiq4 => (simp only [List.getElem?_toArray, List.getElem?_cons_succ, List.getElem?_cons_zero]; rfl)
            case hQq4 => exact fun _ _ _ h => h
            case hyq4 => (refine Or.inl ⟨by rfl, ?_⟩; intro w hSw; (try dsimp only at hSw); (go_simp <;> with_reducible rfl))
            (try simp only [Act.put, List.setIfInBounds_toArray, List.set_cons_zero, List.set_cons_succ])
            refine wpAnyH_take (i := 5) (oi := ?oiq5) (v := ?vq5) ?hiq5 (by kernel_rfl) (by kernel_rfl) (by kernel_rfl) ?hQq5 ?hyq5 (by assumption) ?hrq5
            case hiq5 => (simp only [List.getElem?_toArray, List.getElem?_cons_succ, List.getElem?_cons_zero]; rfl)
            case hQq5 => exact fun _ _ _ h => h
            case hyq5 => (refine Or.inl ⟨by rfl, ?_⟩; intro w hSw; (try dsimp only at hSw); (go_simp <;> with_reducible rfl))
            (try simp only [Act.put, List.setIfInBounds_toArray, List.set_cons_zero, List.set_cons_succ])
            refine wpAnyH_take (i := 6) (oi := ?oiq6) (v := ?vq6) ?hiq6 (by kernel_rfl) (by kernel_rfl) (by kernel_rfl) ?hQq6 ?hyq6 (by assumption) ?hrq6
            case hiq6 => (simp only [List.getElem?_toArray, List.getElem?_cons_succ, List.getElem?_cons_zero]; rfl)
            case hQq6 => exact fun _ _ _ h => h
            case hyq6 => (refine Or.inl ⟨by rfl, ?_⟩; intro w hSw; (try dsimp only at hSw); (go_simp <;> with_reducible rfl))
            (try simp only [Act.put, List.setIfInBounds_toArray, List.set_cons_zero, List.set_cons_succ])
            refine wpAnyH_take (i := 7) (oi := ?oiq7) (v := ?vq7) ?hiq7 (by kernel_rfl) (by kernel_rfl) (by kernel_rfl) ?hQq7 ?hyq7 (by assumption) ?hrq7
            case hiq7 => (simp only [List.getElem?_toArray, List.getElem?_cons_succ, List.getElem?_cons_zero]; rfl)
            case hQq7 => exact fun _ _ _ h => h
            case hyq7 => (refine Or.inl ⟨by rfl, ?_⟩; intro w hSw; (try dsimp only at hSw); (go_simp <;> with_reducible rfl))
            (try simp only [Act.put, List.setIfInBounds_toArray, List.set_cons_zero, List.set_cons_succ])
            refine wpAnyH_take (i := 8) (oi := ?oiq8) (v := ?vq8) ?hiq8 (by kernel_rfl) (by kernel_rfl) (by kernel_rfl) ?hQq8 ?hyq8 (by assumption) ?hrq8
            case hiq8 => (simp only [List.getElem?_toArray, List.getElem?_cons_succ, List.getElem?_cons_zero]; rfl)
            case hQq8 => exact fun _ _ _ h => h
            case hyq8 => (refine Or.inl ⟨by rfl, ?_⟩; intro w hSw; (try dsimp only at hSw); (go_simp <;> with_reducible rfl))
            (try simp only [Act.put, List.setIfInBounds_toArray, List.set_cons_zero, List.set_cons_succ])
            refine wpAnyH_take (i := 9) (oi := ?oiq9) (v := ?vq9) ?hiq9 (by kernel_rfl) (by kernel_rfl) (by kernel_rfl) ?hQq9 ?hyq9 (by assumption) ?hrq9
            case hiq9 => (simp only [List.getElem?_toArray, List.getElem?_cons_succ, List.getElem?_cons_zero]; rfl)
            case hQq9 => exact fun _ _ _ h => h
            case hyq9 => (refine Or.inl ⟨by rfl, ?_⟩; intro w hSw; (try dsimp only at hSw); (go_simp <;> with_reducible rfl))
            (try simp only [Act.put, List.setIfInBounds_toArray, List.set_cons_zero, List.set_cons_succ])
            refine wpAnyH_take (i := 10) (oi := ?oiq10) (v := ?vq10) ?hiq10 (by kernel_rfl) (by kernel_rfl) (by kernel_rfl) ?hQq10 ?hyq10 (by assumption) ?hrq10
            case hiq10 => (simp only [List.getElem?_toArray, List.getElem?_cons_succ, List.getElem?_cons_zero]; rfl)
            case hQq10 => exact fun _ _ _ h => h
            case hyq10 => (refine Or.inl ⟨by rfl, ?_⟩; intro w hSw; (try dsimp only at hSw); (go_simp <;> with_reducible rfl))
            (try simp only [Act.put, List.setIfInBounds_toArray, List.set_cons_zero, List.set_cons_succ])
            refine wpAnyH_take (i := 11) (oi := ?oiq11) (v := ?vq11) ?hiq11 (by kernel_rfl) (by kernel_rfl) (by kernel_rfl) ?hQq11 ?hyq11 (by assumption) ?hrq11
            case hiq11 => (simp only [List.getElem?_toArray, List.getElem?_cons_succ, List.getElem?_cons_zero]; rfl)
            case hQq11 => exact fun _ _ _ h => h
            case hyq11 => (refine Or.inl ⟨by rfl, ?_⟩; intro w hSw; (try dsimp only at hSw); (go_simp <;> with_reducible rfl))
            (try simp only [Act.put, List.setIfInBounds_toArray, List.set_cons_zero, List.set_cons_succ])
            refine wpAnyH_take (i := 12) (oi := ?oiq12) (v := ?vq12) ?hiq12 (by kernel_rfl) (by kernel_rfl) (by kernel_rfl) ?hQq12 ?hyq12 (by assumption) ?hrq12
            case hiq12 => (simp only [List.getElem?_toArray, List.getElem?_cons_succ, List.getElem?_cons_zero]; rfl)
            case hQq12 => exact fun _ _ _ h => h
            case hyq12 => (refine Or.inl ⟨by rfl, ?_⟩; intro w hSw; (try dsimp only at hSw); (go_simp <;> with_reducible rfl))
            (try simp only [Act.put, List.setIfInBounds_toArray, List.set_cons_zero, List.set_cons_succ])
            refine wpAnyH_take (i := 13) (oi := ?oiq13) (v := ?vq13) ?hiq13 (by kernel_rfl) (by kernel_rfl) (by kernel_rfl) ?hQq13 ?hyq13 (by assumption) ?hrq13
            case hiq13 => (simp only [List.getElem?_toArray, List.getElem?_cons_succ, List.getElem?_cons_zero]; rfl)
            case hQq13 => exact fun _ _ _ h => h
            case hyq13 => (refine Or.inl ⟨by rfl, ?_⟩; intro w hSw; (try dsimp only at hSw); (go_simp <;> with_reducible rfl))
            (try simp only [Act.put, List.setIfInBounds_toArray, List.set_cons_zero, List.set_cons_succ])
            refine wpAnyH_take (i := 14) (oi := ?oiq14) (v := ?vq14) ?hiq14 (by kernel_rfl) (by kernel_rfl) (by kernel_rfl) ?hQq14 ?hyq14 (by assumption) ?hrq14
            case hiq14 => (simp only [List.getElem?_toArray, List.getElem?_cons_succ, List.getElem?_cons_zero]; rfl)
            case hQq14 => exact fun _ _ _ h => h
            case hyq14 => (refine Or.inl ⟨by rfl, ?_⟩; intro w hSw; (try dsimp only at hSw); (go_simp <;> with_reducible rfl))
            (try simp only [Act.put, List.setIfInBounds_toArray, List.set_cons_zero, List.set_cons_succ])
            refine wpAnyH_take (i := 15) (oi := ?oiq15) (v := ?vq15) ?hiq15 (by kernel_rfl) (by kernel_rfl) (by kernel_rfl) ?hQq15 ?hyq15 (by assumption) ?hrq15
            case hiq15 => (simp only [List.getElem?_toArray, List.getElem?_cons_succ, List.getElem?_cons_zero]; rfl)
            case hQq15 => exact fun _ _ _ h => h
            case hyq15 => (refine Or.inl ⟨by rfl, ?_⟩; intro w hSw; (try dsimp only at hSw); (go_simp <;> with_reducible rfl))
            (try simp only [Act.put, List.setIfInBounds_toArray, List.set_cons_zero, List.set_cons_succ])
            refine wpAnyH_take (i := 16) (oi := ?oiq16) (v := ?vq16) ?hiq16 (by kernel_rfl) (by kernel_rfl) (by kernel_rfl) ?hQq16 ?hyq16 (by assumption) ?hrq16
            case hiq16 => (simp only [List.getElem?_toArray, List.getElem?_cons_succ, List.getElem?_cons_zero]; rfl)
            case hQq16 => exact fun _ _ _ h => h
            case hyq16 => (refine Or.inl ⟨by rfl, ?_⟩; intro w hSw; (try dsimp only at hSw); (go_simp <;> with_reducible rfl))
            (try simp only [Act.put, List.setIfInBounds_toArray, List.set_cons_zero, List.set_cons_succ])
            refine wpAnyH_take (i := 17) (oi := ?oiq17) (v := ?vq17) ?hiq17 (by kernel_rfl) (by kernel_rfl) (by kernel_rfl) ?hQq17 ?hyq17 (by assumption) ?hrq17
            case hiq17 => (simp only [List.getElem?_toArray, List.getElem?_cons_succ, List.getElem?_cons_zero]; rfl)
            case hQq17 => exact fun _ _ _ h => h
            case hyq17 => (refine Or.inl ⟨by rfl, ?_⟩; intro w hSw; (try dsimp only at hSw); (go_simp <;> with_reducible rfl))
            (try simp only [Act.put, List.setIfInBounds_toArray, List.set_cons_zero, List.set_cons_succ])
            refine wpAnyH_take (i := 18) (oi := ?oiq18) (v := ?vq18) ?hiq18 (by kernel_rfl) (by kernel_rfl) (by kernel_rfl) ?hQq18 ?hyq18 (by assumption) ?hrq18
            case hiq18 => (simp only [List.getElem?_toArray, List.getElem?_cons_succ, List.getElem?_cons_zero]; rfl)
            case hQq18 => exact fun _ _ _ h => h
            case hyq18 => (refine Or.inl ⟨by rfl, ?_⟩; intro w hSw; (try dsimp only at hSw); (go_simp <;> with_reducible rfl))
            (try simp only [Act.put, List.setIfInBounds_toArray, List.set_cons_zero, List.set_cons_succ])
            refine wpAnyH_take (i := 19) (oi := ?oiq19) (v := ?vq19) ?hiq19 (by kernel_rfl) (by kernel_rfl) (by kernel_rfl) ?hQq19 ?hyq19 (by assumption) ?hrq19
            case hiq19 => (simp only [List.getElem?_toArray, List.getElem?_cons_succ, List.getElem?_cons_zero]; rfl)
            case hQq19 => exact fun _ _ _ h => h
            case hyq19 => (refine Or.inl ⟨by rfl, ?_⟩; intro w hSw; (try dsimp only at hSw); (go_simp <;> with_reducible rfl))
            (try simp only [Act.put, List.setIfInBounds_toArray, List.set_cons_zero, List.set_cons_succ])
            refine wpAnyH_take (i := 20) (oi := ?oiq20) (v := ?vq20) ?hiq20 (by kernel_rfl) (by kernel_rfl) (by kernel_rfl) ?hQq20 ?hyq20 (by assumption) ?hrq20
            case hiq20 => (simp only [List.getElem?_toArray, List.getElem?_cons_succ, List.getElem?_cons_zero]; rfl)
            case hQq20 => exact fun _ _ _ h => h
            case hyq20 => (refine Or.inl ⟨by rfl, ?_⟩; intro w hSw; (try dsimp only at hSw); (go_simp <;> with_reducible rfl))
            (try simp only [Act.put, List.setIfInBounds_toArray, List.set_cons_zero, List.set_cons_succ])
            refine wpAnyH_take (i := 21) (oi := ?oiq21) (v := ?vq21) ?hiq21 (by kernel_rfl) (by kernel_rfl) (by kernel_rfl) ?hQq21 ?hyq21 (by assumption) ?hrq21
            case hiq21 => (simp only [List.getElem?_toArray, List.getElem?_cons_succ, List.getElem?_cons_zero]; rfl)
            case hQq21 => exact fun _ _ _ h => h
            case hyq21 => (refine Or.inl ⟨by rfl, ?_⟩; intro w hSw; (try dsimp only at hSw); (go_simp <;> with_reducible rfl))
            (try simp only [Act.put, List.setIfInBounds_toArray, List.set_cons_zero, List.set_cons_succ])
            refine wpAnyH_take (i := 22) (oi := ?oiq22) (v := ?vq22) ?hiq22 (by kernel_rfl) (by kernel_rfl) (by kernel_rfl) ?hQq22 ?hyq22 (by assumption) ?hrq22
            case hiq22 => (simp only [List.getElem?_toArray, List.getElem?_cons_succ, List.getElem?_cons_zero]; rfl)
            case hQq22 => exact fun _ _ _ h => h
            case hyq22 => (refine Or.inl ⟨by rfl, ?_⟩; intro w hSw; (try dsimp only at hSw); (go_simp <;> with_reducible rfl))
            (try simp only [Act.put, List.setIfInBounds_toArray, List.set_cons_zero, List.set_cons_succ])
            refine wpAnyH_take (i := 23) (oi := ?oiq23) (v := ?vq23) ?hiq23 (by kernel_rfl) (by kernel_rfl) (by kernel_rfl) ?hQq23 ?hyq23 (by assumption) ?hrq23
            case hiq23 => (simp only [List.getElem?_toArray, List.getElem?_cons_succ, List.getElem?_cons_zero]; rfl)
            case hQq23 => exact fun _ _ _ h => h
            case hyq23 => (refine Or.inl ⟨by rfl, ?_⟩; intro w hSw; (try dsimp only at hSw); (go_simp <;> with_reducible rfl))
            (try simp only [Act.put, List.setIfInBounds_toArray, List.set_cons_zero, List.set_cons_succ])
            refine wpAnyH_ready (rs := [24]) (by kernel_rfl) (by simp) ?_
            refine AllReadyH.cons (o := ?oiq24) ?hiq24 ?haq24 AllReadyH.nil
            case hiq24 => (simp only [List.getElem?_toArray, List.getElem?_cons_succ, List.getElem?_cons_zero]; rfl)
            intro K hK
            go_simp
            (go_at_call 23; refine (inside9_any _ _ _ _ _ k4 k5).mono ?_; rintro e w11 ⟨rfl, hb⟩; replace B := B.trans (hb.mono B.size); replace rL := rL.below4 hb (Nat.le_refl _); replace GA := GA.below hb; replace KA := Lib.hid (KA.out.belowSelf hb); replace KM := Lib.hid (KM.out.belowSelf hb); replace rM := rM.below2 hb (Nat.le_refl _); replace KB := Lib.hid (KB.out.belowSelf hb); clear hb)
            refine hK.out _ _ (⟨KM.out.cell 0, KM.out.cell 1, KM.out.cell 2, KM.out.cell 3, KM.out.cell 4, KB.out.cell 0, KB.out.cell 1, (rM.get2_ HD.out).1, (rM.get2_ HD.out).2⟩) (fun hHeld => ?_)
            clear hK K
            (try simp only [Act.put, List.setIfInBounds_toArray, List.set_cons_zero, List.set_cons_succ])
            refine wpAnyH_take (i := 25) (oi := ?oiq25) (v := ?vq25) ?hiq25 (by kernel_rfl) (by kernel_rfl) (by kernel_rfl) ?hQq25 ?hyq25 (by assumption) ?hrq25
            case hiq25 => (simp only [List.getElem?_toArray, List.getElem?_cons_succ, List.getElem?_cons_zero]; rfl)
            case hQq25 => exact fun _ _ _ h => h
            case hyq25 => (refine Or.inl ⟨by rfl, ?_⟩; intro w hSw; (try dsimp only at hSw); (go_simp <;> with_reducible rfl))
            (try simp only [Act.put, List.setIfInBounds_toArray, List.set_cons_zero, List.set_cons_succ])
            refine wpAnyH_take (i := 26) (oi := ?oiq26) (v := ?vq26) ?hiq26 (by kernel_rfl) (by kernel_rfl) (by kernel_rfl) ?hQq26 ?hyq26 (by assumption) ?hrq26
            case hiq26 => (simp only [List.getElem?_toArray, List.getElem?_cons_succ, List.getElem?_cons_zero]; rfl)
            case hQq26 => exact fun _ _ _ h => h
            case hyq26 => (refine Or.inl ⟨by rfl, ?_⟩; intro w hSw; (try dsimp only at hSw); (go_simp <;> with_reducible rfl))
            (try simp only [Act.put, List.setIfInBounds_toArray, List.set_cons_zero, List.set_cons_succ])
            refine wpAnyH_done (by kernel_rfl) ?_ _
            clear hXKB
            go_wp2
            go_roundw
            case rel => exact ⟨k + 1, cv + 1, by go_num, rfl, by omega, by omega, by omega, HC3, B, Lib.hid rL, Lib.hid GA, KA, KM, Lib.hid rM⟩
            case measure => simp [intOf]; omega
        · obtain rfl : k = nL := by omega
          have hcv : cs.sum = cv := by rw [HP.out.sum, HC2.out, List.take_of_length_le (by omega)]
          have hb1 := Lib.hid (show ∀ x ∈ cs, -1 ≤ x ∧ x ≤ 1000000000 from fun x hx => by obtain ⟨j, hj⟩ := List.mem_iff_getElem?.1 hx; have := HP.out.nn j x hj; omega)
          have hcv2 := Lib.hid hcv
          clear hcv
          have q0 : w8.cell? ⟨XKA, 0, none⟩ = some (.int .i64 S) := KA.out.cell 0
          have q1 : w8.cell? ⟨XKA, 1, none⟩ = some (.int .i64 X) := KA.out.cell 1
          have q2 : w8.cell? ⟨XKA, 2, none⟩ = some (.int .i64 Y) := KA.out.cell 2
          have q3 : w8.cell? ⟨XKA, 3, none⟩ = some (.slice aA nM nM) := KA.out.cell 3
          have q4 : w8.cell? ⟨XKA, 4, none⟩ = some (.slice bA nM nM) := KA.out.cell 4
          go_wp2_with fail
          go_at_call 20
          refine (isDepthGrid_impl _ _ _ _ _ _ _ _ _ _ _ _ GA.rc GA.rd (by omega) (by omega)).mono ?_
          rintro e w9 ⟨rfl, hb⟩
          replace B := B.trans (hb.mono B.size)
          replace rL := rL.below4 hb (Nat.le_refl _)
          replace GA := GA.below hb
          replace KA := Lib.hid (KA.out.belowSelf hb)
          replace KM := Lib.hid (KM.out.belowSelf hb)
          replace rM := rM.below2 hb (Nat.le_refl _)
          clear hb q0 q1 q2 q3 q4
          rw [HK.out]
          have q0 : w9.cell? ⟨XKA, 0, none⟩ = some (.int .i64 S) := KA.out.cell 0
          have q1 : w9.cell? ⟨XKA, 1, none⟩ = some (.int .i64 X) := KA.out.cell 1
          have q2 : w9.cell? ⟨XKA, 2, none⟩ = some (.int .i64 Y) := KA.out.cell 2
          have q3 : w9.cell? ⟨XKA, 3, none⟩ = some (.slice aA nM nM) := KA.out.cell 3
          have q4 : w9.cell? ⟨XKA, 4, none⟩ = some (.slice bA nM nM) := KA.out.cell 4
          go_wp2_with fail
          go_at_call 24
          refine (sum_any _ _ _ _ _ GA.rc (by omega) hb1).mono ?_
          rintro e w99 ⟨rfl, rfl⟩
          rw [hcv2.out]
          have e9 : (cv == cv) = true := by simp
          go_wp2
          go_ret
          exact ⟨rfl, B⟩

end Go.Proofs.Ytciicolknphcnaa.fnGrids
