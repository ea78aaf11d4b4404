/- The walk of FnThinned: it returns true and writes nothing that was there. -/
import Derived.Test.YtaimckepaldocaaGreatDoorRows
import Derived.Test.YtaimckepaldocaaGreatDoorThinLaw
import Derived.Test.YtaimckepaldocaaGreatDoorOpenY
import Derived.WalkKit
import Derived.Handy
namespace Go.Proofs.YtaimckepaldocaaGreatDoor.fnThinned
open Go.RowKit
set_option maxRecDepth 100000
set_option linter.unusedVariables false
set_option linter.unusedVariables false
set_option linter.unusedSimpArgs false

set_option maxRecDepth 100000 in
set_option maxHeartbeats 12800000 in
theorem walk (a0 : Option Addr) (n0 c0 : Nat) (bs : List Nat) (w : World) (f0 : Bytes w a0 n0 bs) (g0 : GV w) :
    Calls Tryz.prog 3 #[.slice a0 n0 c0] w fun e w' => e = .returned (.bool true) ∧ Below w.heap.size w w' := by
  by_cases hbig : (4096 : Int) < (n0 : Int)
  · go_enter Tryz.func3, Tryz.ntmps3
    go_wp2_with (go_at_call 4; refine (big_any _ _ _ _ f0.2.1).mono ?_; rintro e w' ⟨rfl, rfl⟩)
    go_ret
    exact ⟨rfl, Below.refl _ _⟩
  have HC := Lib.hid (f0.code (by omega))
  have hbg := f0.2.1
  clear f0
  go_enter Tryz.func3, Tryz.ntmps3
  go_wp2_with (go_at_call 4; refine (big_any _ _ _ _ hbg).mono ?_; rintro e w' ⟨rfl, rfl⟩)
  clear hbig hbg
  have B := Below.refl w.heap.size w
  have GG : GV w := g0
  clear g0
  go_at_call 5
  refine (drawThin_any _ _ _ _ _ (HC.out.below B (Nat.le_refl _))).mono ?_
  intro e w1 hd
  obtain ⟨aL, nL, cL, ls, z, rfl, rL, hL, hb⟩ := hd
  replace B := B.trans (hb.mono B.size)
  replace GG := GG.below hb
  clear hb
  go_wp2_with fail
  go_at_call 6
  refine (thin_impl0 _ _ _ ls z _ rL (by omega)).mono ?_
  rintro e w2 ⟨aK, nK, cK, rfl, rK, hb⟩
  replace B := B.trans (hb.mono B.size)
  replace GG := GG.below hb
  replace rL := rL.below4 hb (Nat.le_refl _)
  clear hb
  go_wp2_with fail
  go_at_call 7
  refine (thin_spec _ _ _ ls z _ rL (by omega)).mono ?_
  rintro e w3 ⟨a_M, n_M, c_M, rfl, o_M, hb⟩
  replace B := B.trans (hb.mono B.size)
  replace GG := GG.below hb
  replace rL := rL.below4 hb (Nat.le_refl _)
  replace rK := rK.below hb (Nat.le_refl _)
  have r_M := o_M.row
  clear hb o_M
  obtain rfl : nK = n_M := by have := rK.len; have := r_M.len; omega
  have hnK : nK ≤ 201 := by have := rK.len; have := thin_len ls z; have := rL.len4; omega
  go_wp2_with fail
  go_at_call 8
  refine (soundingsText_impl _ _ _ ls _ rL (by omega) GG).mono ?_
  rintro e w4 ⟨rfl, hb⟩
  replace B := B.trans (hb.mono B.size)
  replace GG := GG.below hb
  replace rL := rL.below4 hb (Nat.le_refl _)
  replace rK := rK.below hb (Nat.le_refl _)
  replace r_M := r_M.below hb (Nat.le_refl _)
  clear hb
  have htl := txtOf_len ls
  go_wp2_with fail
  go_at_call 9
  refine (readSoundings_impl (str (txtOf ls)) _ (by rw [str_size]; omega) GG).mono ?_
  intro e w5 hd
  rw [data_str] at hd
  obtain ⟨sr, aR, nR, cR, rfl, rR, hR, hsr, hb⟩ := read_txt hd
  replace B := B.trans (hb.mono B.size)
  replace GG := GG.below hb
  replace rL := rL.below4 hb (Nat.le_refl _)
  replace rK := rK.below hb (Nat.le_refl _)
  replace r_M := r_M.below hb (Nat.le_refl _)
  clear hb hd
  go_wp2_with fail
  go_at_call 10
  refine (drawText_any _ _ _ _ _ (HC.out.below B (Nat.le_refl _))).mono ?_
  intro e w6 hd
  obtain ⟨td, rfl, hT, hb⟩ := hd
  replace B := B.trans (hb.mono B.size)
  replace GG := GG.below hb
  replace rL := rL.below4 hb (Nat.le_refl _)
  replace rK := rK.below hb (Nat.le_refl _)
  replace r_M := r_M.below hb (Nat.le_refl _)
  replace rR := rR.below4 hb (Nat.le_refl _)
  clear hb
  go_wp2_with fail
  go_at_call 9
  refine (readSoundings_impl td _ (by omega) GG).mono ?_
  intro e w7 hd
  obtain ⟨aY, nY, cY, okY, sY, rfl, rY, hRY, hb⟩ := read_rd hd
  replace B := B.trans (hb.mono B.size)
  replace GG := GG.below hb
  replace rL := rL.below4 hb (Nat.le_refl _)
  replace rK := rK.below hb (Nat.le_refl _)
  replace r_M := r_M.below hb (Nat.le_refl _)
  replace rR := rR.below4 hb (Nat.le_refl _)
  clear hb hd
  go_wp2_with fail
  go_at_call 11
  refine (readSoundings_spec td _ (by omega)).mono ?_
  intro e w8 hd
  obtain ⟨aZ, nZ, cZ, okZ, sZ, rfl, rZ, hRZ, hb⟩ := read_rd hd
  replace B := B.trans (hb.mono B.size)
  replace GG := GG.below hb
  replace rL := rL.below4 hb (Nat.le_refl _)
  replace rK := rK.below hb (Nat.le_refl _)
  replace r_M := r_M.below hb (Nat.le_refl _)
  replace rR := rR.below4 hb (Nat.le_refl _)
  replace rY := rY.below4 hb (Nat.le_refl _)
  clear hb hd
  obtain ⟨rfl, rfl⟩ := rd_one hRY hRZ
  obtain rfl : nZ = nY := by have := rY.len4; have := rZ.len4; omega
  have hnZ : nZ ≤ 200 := by have := rd_len hRZ; have := rZ.len4; omega
  have e0 : ((thin ls z).2 != (thin ls z).2) = false := by simp
  have e1 : ((str (txtOf ls)).toList == (str (txtOf ls)).toList) = true := by simp
  have e2 : (okZ != okZ) = false := by simp
  have e3 : (sndsOk ls != sndsOk ls) = false := by simp
  clear hRY hRZ
  have hlL := rL.len4
  go_upto_region 11 with (fail)
  go_cut [105] (fun v wx => v = .bool false ∧ Below w.heap.size w wx ∧ Hid (GV wx) ∧ Hid (Row wx 4 aL nL (frs ls)) ∧ Hid (Row wx 1 aK nK (ints (thin ls z).1)) ∧ Hid (Row wx 1 a_M nK (ints ((thin ls z).1))) ∧ Hid (Row wx 4 aR nR (frs sr)) ∧ Hid (Row wx 4 aY nZ (frs sZ)) ∧ Hid (Row wx 4 aZ nZ (frs sZ)))
  case first => as_aux_lemma =>
    go_wp2_with fail
    go_at_call 12
    refine (likeInts_same _ _ _ _ _ _ _ rK r_M (by omega)).mono ?_
    rintro e w9 ⟨rfl, hb⟩
    replace B := B.trans (hb.mono B.size)
    replace GG := GG.below hb
    replace rL := rL.below4 hb (Nat.le_refl _)
    replace rK := rK.below hb (Nat.le_refl _)
    replace r_M := r_M.below hb (Nat.le_refl _)
    replace rR := rR.below4 hb (Nat.le_refl _)
    replace rY := rY.below4 hb (Nat.le_refl _)
    replace rZ := rZ.below4 hb (Nat.le_refl _)
    clear hb
    go_wp2_with fail
    go_at_call 13
    refine (soundingsText_spec _ _ _ ls _ rL (by omega)).mono ?_
    rintro e w10 ⟨rfl, hb⟩
    replace B := B.trans (hb.mono B.size)
    replace GG := GG.below hb
    replace rL := rL.below4 hb (Nat.le_refl _)
    replace rK := rK.below hb (Nat.le_refl _)
    replace r_M := r_M.below hb (Nat.le_refl _)
    replace rR := rR.below4 hb (Nat.le_refl _)
    replace rY := rY.below4 hb (Nat.le_refl _)
    replace rZ := rZ.below4 hb (Nat.le_refl _)
    clear hb
    rcases hR with hR0 | ⟨hR0, hR1⟩
    · have he0 : ((str (txtOf ls)).toList == ([] : List UInt8)) = true := by rw [hR0, toL, data_str]; rfl
      clear hR0
      go_wp2_with fail
      go_at_call 14
      refine (likeSoundings_same _ _ _ _ _ _ _ rY rZ (by omega)).mono ?_
      rintro e w11 ⟨rfl, hb⟩
      replace B := B.trans (hb.mono B.size)
      replace GG := GG.below hb
      replace rL := rL.below4 hb (Nat.le_refl _)
      replace rK := rK.below hb (Nat.le_refl _)
      replace r_M := r_M.below hb (Nat.le_refl _)
      replace rR := rR.below4 hb (Nat.le_refl _)
      replace rY := rY.below4 hb (Nat.le_refl _)
      replace rZ := rZ.below4 hb (Nat.le_refl _)
      clear hb
      go_wp2_with fail
      go_at_call 15
      refine (areSoundings_impl _ _ _ _ _ rL (by omega)).mono ?_
      rintro e w12 ⟨rfl, hb⟩
      replace B := B.trans (hb.mono B.size)
      replace GG := GG.below hb
      replace rL := rL.below4 hb (Nat.le_refl _)
      replace rK := rK.below hb (Nat.le_refl _)
      replace r_M := r_M.below hb (Nat.le_refl _)
      replace rR := rR.below4 hb (Nat.le_refl _)
      replace rY := rY.below4 hb (Nat.le_refl _)
      replace rZ := rZ.below4 hb (Nat.le_refl _)
      clear hb
      go_wp2_with fail
      go_at_call 16
      refine (areSoundings_spec _ _ _ _ _ rL (by omega)).mono ?_
      rintro e w13 ⟨rfl, hb⟩
      replace B := B.trans (hb.mono B.size)
      replace GG := GG.below hb
      replace rL := rL.below4 hb (Nat.le_refl _)
      replace rK := rK.below hb (Nat.le_refl _)
      replace r_M := r_M.below hb (Nat.le_refl _)
      replace rR := rR.below4 hb (Nat.le_refl _)
      replace rY := rY.below4 hb (Nat.le_refl _)
      replace rZ := rZ.below4 hb (Nat.le_refl _)
      clear hb
      go_wp2_with fail
      go_meet
      exact ⟨rfl, B, Lib.hid GG, Lib.hid rL, Lib.hid rK, Lib.hid r_M, Lib.hid rR, Lib.hid rY, Lib.hid rZ⟩
    · have he0 : ((str (txtOf ls)).toList == ([] : List UInt8)) = false := by rw [beq_eq_false_iff_ne, toL, data_str]; exact hR0
      obtain rfl : nR = nL := by have h1 := rR.len4; rw [hR1] at h1; omega
      have rR2 := rR
      rw [hR1] at rR2
      clear hR0
      go_wp2_with fail
      go_at_call 14
      refine (likeSoundings_same _ _ _ _ _ _ _ rR2 rL (by omega)).mono ?_
      rintro e w11 ⟨rfl, hb⟩
      replace B := B.trans (hb.mono B.size)
      replace GG := GG.below hb
      replace rL := rL.below4 hb (Nat.le_refl _)
      replace rK := rK.below hb (Nat.le_refl _)
      replace r_M := r_M.below hb (Nat.le_refl _)
      replace rR := rR.below4 hb (Nat.le_refl _)
      replace rY := rY.below4 hb (Nat.le_refl _)
      replace rZ := rZ.below4 hb (Nat.le_refl _)
      clear hb
      go_wp2_with fail
      go_at_call 14
      refine (likeSoundings_same _ _ _ _ _ _ _ rY rZ (by omega)).mono ?_
      rintro e w12 ⟨rfl, hb⟩
      replace B := B.trans (hb.mono B.size)
      replace GG := GG.below hb
      replace rL := rL.below4 hb (Nat.le_refl _)
      replace rK := rK.below hb (Nat.le_refl _)
      replace r_M := r_M.below hb (Nat.le_refl _)
      replace rR := rR.below4 hb (Nat.le_refl _)
      replace rY := rY.below4 hb (Nat.le_refl _)
      replace rZ := rZ.below4 hb (Nat.le_refl _)
      clear hb
      go_wp2_with fail
      go_at_call 15
      refine (areSoundings_impl _ _ _ _ _ rL (by omega)).mono ?_
      rintro e w13 ⟨rfl, hb⟩
      replace B := B.trans (hb.mono B.size)
      replace GG := GG.below hb
      replace rL := rL.below4 hb (Nat.le_refl _)
      replace rK := rK.below hb (Nat.le_refl _)
      replace r_M := r_M.below hb (Nat.le_refl _)
      replace rR := rR.below4 hb (Nat.le_refl _)
      replace rY := rY.below4 hb (Nat.le_refl _)
      replace rZ := rZ.below4 hb (Nat.le_refl _)
      clear hb
      go_wp2_with fail
      go_at_call 16
      refine (areSoundings_spec _ _ _ _ _ rL (by omega)).mono ?_
      rintro e w14 ⟨rfl, hb⟩
      replace B := B.trans (hb.mono B.size)
      replace GG := GG.below hb
      replace rL := rL.below4 hb (Nat.le_refl _)
      replace rK := rK.below hb (Nat.le_refl _)
      replace r_M := r_M.below hb (Nat.le_refl _)
      replace rR := rR.below4 hb (Nat.le_refl _)
      replace rY := rY.below4 hb (Nat.le_refl _)
      replace rZ := rZ.below4 hb (Nat.le_refl _)
      clear hb
      go_wp2_with fail
      go_meet
      exact ⟨rfl, B, Lib.hid GG, Lib.hid rL, Lib.hid rK, Lib.hid r_M, Lib.hid rR, Lib.hid rY, Lib.hid rZ⟩
    all_goals (go_wp2_with fail; go_meet; exact ⟨rfl, B, Lib.hid GG, Lib.hid rL, Lib.hid rK, Lib.hid r_M, Lib.hid rR, Lib.hid rY, Lib.hid rZ⟩)
  case rest => as_aux_lemma =>
    clear B GG rL rK r_M rR rY rZ
    obtain ⟨rfl, B, GG, rL, rK, r_M, rR, rY, rZ⟩ := hcut
    replace GG := GG.out
    replace rL := rL.out
    replace rK := rK.out
    replace r_M := r_M.out
    replace rR := rR.out
    replace rY := rY.out
    replace rZ := rZ.out
    obtain ⟨w9, rfl⟩ : ∃ w9 : World, w9 = wc := ⟨_, rfl⟩
    clear e0 e1 e2 e3 hR hsr hT hnZ htl
    clear rK rR rY rZ GG
    rcases thin_cases ls z with hne | ⟨hok, hz1, hth⟩
    · have hf : ((thin ls z).2 != 0) = true := by simpa using hne
      clear hne
      go_wp2
      go_ret
      exact ⟨rfl, B⟩
    · rw [hth] at r_M ⊢
      dsimp only at r_M ⊢
      replace r_M : Row w9 1 a_M nK (ints (thinL ls z)) := r_M
      have HIJ := Lib.hid (fun (j : Nat) (hj : j < ls.length) => sq_i64 hok hz1.1 hj)
      have hmK := Lib.hid (show (thinL ls z).length = nK from r_M.len)
      have HOK := Lib.hid hok
      have hLn := Lib.hid hlL
      clear hok hth hlL
      have hz0 : (z == 0) = false := by simp; omega
      have hzn : ¬ z = 0 := by omega
      go_wp2
      go_loopw [17, 18, 19, 20] (fun i _ _ _ wr => ∃ k : Nat, i = .int .i64 k ∧ k ≤ nL ∧ Below w.heap.size w wr ∧ Hid (Row wr 4 aL nL (frs ls)) ∧ Hid (Row wr 1 a_M nK (ints (thinL ls z)))) (fun i _ _ _ _ => nL - (intOf i).toNat)
      case atStart => exact ⟨0, rfl, by omega, B, Lib.hid rL, Lib.hid r_M⟩
      case round =>
        clear B rL r_M
        obtain ⟨i, rfl, hi, B, rL, r_M⟩ := hrel
        replace rL := rL.out
        replace r_M := r_M.out
        obtain ⟨w10, rfl⟩ : ∃ w10 : World, w10 = wr := ⟨_, rfl⟩
        by_cases hlt : i < nL
        · have hiI : (i : Int) < (nL : Int) := by omega
          obtain ⟨b, off, x, y, d, e, rfl, -, hx⟩ := rL.at4 hlt
          obtain ⟨x0, y0, d0, e0⟩ := sndOk_bd (sndsOk_get HOK.out hx.out)
          have HX := Lib.hid hx.out
          have HI := Lib.hid (at4_get hx.out)
          obtain ⟨qx, hqx⟩ : ∃ qx, x / z = qx := ⟨_, rfl⟩
          obtain ⟨qy, hqy⟩ : ∃ qy, y / z = qy := ⟨_, rfl⟩
          have HQ := Lib.hid (show sq z (at4 ls i) = (qx, qy) ∧ lowOf (at4 ls i) = d - e by rw [HI.out]; exact ⟨by simp only [sq]; rw [hqx, hqy], rfl⟩)
          clear hx
          go_wp2
          go_loopw [18, 19, 20] (fun c j _ wi => ∃ k cn : Nat, c = .int .i64 cn ∧ j = .int .i64 k ∧ k ≤ nK ∧ cn ≤ k ∧ Hid (cn = cntTo ls z i k) ∧ Below w.heap.size w wi ∧ Hid (Row wi 4 (some ⟨b, off, none⟩) nL (frs ls)) ∧ Hid (Row wi 1 a_M nK (ints (thinL ls z)))) (fun _ j _ _ => nK - (intOf j).toNat)
          case atStart => exact ⟨0, 0, rfl, rfl, by omega, by omega, Lib.hid (by simp [cntTo]), B, Lib.hid rL, Lib.hid r_M⟩
          case round =>
            clear B rL r_M
            obtain ⟨k, cn, rfl, rfl, hk, hcn, HC, B, rL, r_M⟩ := hrel
            replace rL := rL.out
            replace r_M := r_M.out
            obtain ⟨w11, rfl⟩ : ∃ w11 : World, w11 = wr := ⟨_, rfl⟩
            by_cases hlk : k < nK
            · have hkI : (k : Int) < (nK : Int) := by omega
              obtain ⟨b3, off3, v, rfl, hcv, hv⟩ := r_M.at_ hlk
              obtain ⟨b', rfl, hb', hlow⟩ := thin_low (List.mem_of_getElem? hv.out) (show i < ls.length by rw [hLn.out]; exact hlt)
              have hb2 : b' < nL := by rw [← hLn.out]; exact hb'
              have hbI : (b' : Int) < (nL : Int) := by omega
              obtain ⟨⟨x', y', d', e'⟩, hx'⟩ : ∃ t, ls[b']? = some t := ⟨_, List.getElem?_eq_getElem hb'⟩
              obtain ⟨x1, y1, d1, e1⟩ := sndOk_bd (sndsOk_get HOK.out hx')
              have HX' := Lib.hid hx'
              have HK := Lib.hid (at4_get hx')
              obtain ⟨px, hpx⟩ : ∃ px, x' / z = px := ⟨_, rfl⟩
              obtain ⟨py, hpy⟩ : ∃ py, y' / z = py := ⟨_, rfl⟩
              have HP := Lib.hid (show sq z (at4 ls b') = (px, py) ∧ lowOf (at4 ls b') = d' - e' by rw [HK.out]; exact ⟨by simp only [sq]; rw [hpx, hpy], rfl⟩)
              have HCn := Lib.hid (cntTo_succ (i := i) hv.out)
              have HLo := Lib.hid hlow
              clear hv hx' hlow
              obtain ⟨f0, f1, f2, f3⟩ := rL.get4_ HX'.out
              go_wp2_with fail
              clear hcv f0 f1 f2 f3
              obtain ⟨XKB, hXKB⟩ : ∃ X, w11.heap.size = X := ⟨_, rfl⟩
              replace B := B.alloc B.size (.cells #[.int .i64 x', .int .i64 y', .int .i64 d', .int .i64 e'] 38)
              replace rL := rL.alloc4 (.cells #[.int .i64 x', .int .i64 y', .int .i64 d', .int .i64 e'] 38)
              replace r_M := r_M.alloc (.cells #[.int .i64 x', .int .i64 y', .int .i64 d', .int .i64 e'] 38)
              have KB := Lib.hid (Blk.new' w11 38 #[.int .i64 x', .int .i64 y', .int .i64 d', .int .i64 e'] (g := XKB) hXKB.symm)
              have HG := Lib.hid (rL.get4_ HX.out)
              obtain ⟨g0, g1, g2, g3⟩ := HG.out
              have m0 := KB.out.cell 0
              have m1 := KB.out.cell 1
              have m2 := KB.out.cell 2
              have m3 := KB.out.cell 3
              clear HG
              by_cases hx1 : px = qx
              · by_cases hy1 : py = qy
                · have hxt : (px == qx) = true := by simpa using hx1
                  have hyt : (py == qy) = true := by simpa using hy1
                  have hsq : sq z (at4 ls (b' : Int).toNat) = sq z (at4 ls i) := by rw [Int.toNat_natCast, HP.out.1, HQ.out.1, hx1, hy1]
                  have hn := Lib.hid (show cntTo ls z i (k + 1) = cn + 1 by rw [HCn.out, if_pos hsq, HC.out])
                  have hlow := HLo.out (by simpa using hsq)
                  rw [HP.out.2, HQ.out.2] at hlow
                  have hlow2 : ¬ d - e < d' - e' := by omega
                  have hw1 : IntKind.i64.wrap (d' - e') = d' - e' := by rw [IntKind.wrap_i64]; omega
                  have hw2 : IntKind.i64.wrap (d - e) = d - e := by rw [IntKind.wrap_i64]; omega
                  clear hsq HP HQ HCn HC HLo hlow
                  go_quiet (fail)
                  clear m0 m1 m2 m3 g0 g1 hx1 hy1
                  go_wp2_with fail
                  go_quiet (fail)
                  go_wp2
                  go_roundw
                  case rel => exact ⟨k + 1, cn + 1, by go_num, by go_num, by omega, by omega, Lib.hid hn.out.symm, by repeat (first | exact B | refine bdnG ?_ _), Lib.hid (by repeat (first | exact rL | refine Row.drewN ?_ _)), Lib.hid (by repeat (first | exact r_M | refine Row.drewN ?_ _))⟩
                  case measure => simp [intOf] <;> omega
                · have hxt : (px == qx) = true := by simpa using hx1
                  have hyf : (py == qy) = false := by simpa using hy1
                  have hne : ¬ sq z (at4 ls (b' : Int).toNat) = sq z (at4 ls i) := by rw [Int.toNat_natCast, HP.out.1, HQ.out.1]; intro h; exact hy1 (congrArg Prod.snd h)
                  have hn := Lib.hid (show cntTo ls z i (k + 1) = cn by rw [HCn.out, if_neg hne, HC.out]; rfl)
                  clear hne HP HQ HCn HC HLo
                  go_quiet (fail)
                  go_wp2
                  go_roundw
                  case rel => exact ⟨k + 1, cn, rfl, by go_num, by omega, by omega, Lib.hid hn.out.symm, bdnG B _, Lib.hid (rL.drewN _), Lib.hid (r_M.drewN _)⟩
                  case measure => simp [intOf] <;> omega
              · have hxf : (px == qx) = false := by simpa using hx1
                have hne : ¬ sq z (at4 ls (b' : Int).toNat) = sq z (at4 ls i) := by rw [Int.toNat_natCast, HP.out.1, HQ.out.1]; intro h; exact hx1 (congrArg Prod.fst h)
                have hn := Lib.hid (show cntTo ls z i (k + 1) = cn by rw [HCn.out, if_neg hne, HC.out]; rfl)
                clear hne HP HQ HCn HC HLo
                go_quiet (fail)
                go_wp2
                go_roundw
                case rel => exact ⟨k + 1, cn, rfl, by go_num, by omega, by omega, Lib.hid hn.out.symm, bdnG B _, Lib.hid (rL.drewN _), Lib.hid (r_M.drewN _)⟩
                case measure => simp [intOf] <;> omega
            · obtain rfl : k = nK := by omega
              have h1 : cn = 1 := by rw [HC.out]; exact cntTo_all HIJ.out (by rw [hLn.out]; exact hlt) hmK.out
              subst h1
              go_wp2
              go_roundw
              case rel => exact ⟨i + 1, by go_num, by omega, B, Lib.hid rL, Lib.hid r_M⟩
              case measure => simp [intOf] <;> omega
        · obtain rfl : i = nL := by omega
          go_wp2
          go_ret
          exact ⟨rfl, B⟩

end Go.Proofs.YtaimckepaldocaaGreatDoor.fnThinned
