/- ReadFrame, by the reference: the loop over the bytes. -/
import Derived.Test.YtmljcbfpennjkaaReadD
namespace Go.Proofs.Ytmljcbfpennjkaa
open Go.RowKit Go.Shelf
set_option maxRecDepth 100000
set_option linter.unusedVariables false
set_option linter.unusedSimpArgs false

theorem flags_at {xs : List Int} {n : Nat} (hl : xs.length = n) (h16 : 16 ≤ n) (h : flagAt xs 0 = false ∨ flagAt xs (n - 8) = false) : readL xs = none := by
  apply readL_noflag
  rintro ⟨h1, h2⟩
  rw [hl] at h2
  simp only [flagAt, decide_eq_false_iff_not] at h
  rcases h with h | h
  · exact h (by rw [List.drop_zero]; exact h1)
  · exact h (by rw [h2]; rfl)
theorem piece_get {ys : List Int} {k r j : Nat} (hj : j = k * 8) (hr : r < 8) : (pieceL ys k)[r]? = ys[j + r]? := by
  subst hj
  rw [pieceL, List.getElem?_take_of_lt hr, List.getElem?_drop]
theorem piece_full {ys : List Int} (k : Nat) : (pieceL ys k).take 8 = pieceL ys k := List.take_of_length_le (by simp [pieceL]; omega)
theorem piece_small {ys : List Int} (h : Small01 ys) (k : Nat) : Small01 (pieceL ys k) := fun x hx => h x (List.mem_of_mem_drop (List.mem_of_mem_take hx))
theorem unbits_last (ys : List Int) (k : Nat) : unbits (k + 1) ys = unbits k ys ++ [numL (pieceL ys k)] := unbits_succ k ys

set_option maxHeartbeats 6400000 in
theorem read_long_spec (b off n c : Nat) (xs inner bs : List Int) (w : World) (h : Row w 1 (some ⟨b, off, none⟩) n (ints xs)) (hn : n ≤ 1200) (h16 : 16 ≤ n) (hnc : n ≤ c) (hc : c ≤ maxLen) (hb : listOk 1200 0 1 xs = true)
    (hf1 : flagAt xs 0 = true) (hf2 : flagAt xs (n - 8) = true) (hin : unstL 0 (midL xs) = some inner) (hbs : innerL inner = some bs) :
    Calls Try.prog 47 #[.slice (some ⟨b, off, none⟩) n c] w (ReadPost w xs) := by
  have hl := h.len
  have HR := Lib.hid (readL_at (by omega) hin hbs)
  have HSM := Lib.hid (unstL_small 0 _ _ (small_listOk (mid_ok hb)) hin)
  have hok : unstOk (midL xs) = true := by simp [unstOk, hin]
  have HL := Lib.hid (innerL_some rfl hbs)
  have B0 := (Below.refl w.heap.size w).alloc (Nat.le_refl _) (.cells #[.int .i64 0, .int .i64 0, .slice none 0 0] 28)
  have K0 := Lib.hid (Blk.new w 28 #[.int .i64 0, .int .i64 0, .slice none 0 0])
  have HX := Lib.hid (h.below B0 (Nat.le_refl _))
  have HXL := Lib.hid hl
  have HU := Lib.hid hin
  have HMK := Lib.hid (mid_ok hb)
  have HB0 := Lib.hid B0
  have HMX := Lib.hid hc
  simp only [maxLen] at hc
  have g0 : (n : Int) - 8 = ((n - 8 : Nat) : Int) := by omega
  have g1 : (n : Int) - 8 ≤ (c : Int) := by omega
  have g2 : ((n : Int) - 8).toNat = n - 8 := by omega
  have g3 : (8 : Int) ≤ (n : Int) - 8 := by omega
  have g4 : ¬ c = 8 := by omega
  have g5 : ¬ (n : Int) < 16 := by omega
  have g6 : (0 : Int) ≤ (n : Int) - 8 := by omega
  have g7 : n - 8 - 8 = n - 16 := by omega
  have HG0 := Lib.hid g0
  clear hin hb B0 hbs hl h g0
  go_enter Try.func47, Try.ntmps47
  go_wp2_with fail
  go_at_call 64
  refine (l25At_any _ _ _ 0 xs _ HX.out (by omega) hnc HMX.out (by omega)).mono ?_
  rintro e wa ⟨rfl, ba⟩
  rw [hf1]
  replace HX := Lib.hid (HX.out.below ba (Nat.le_refl _))
  replace K0 := Lib.hid (K0.out.belowSelf ba)
  replace HB0 := Lib.hid (HB0.out.trans (ba.mono HB0.out.size))
  clear ba
  go_wp2_with fail
  rw [HG0.out]
  go_at_call 64
  refine (l25At_any _ _ _ (n - 8) xs _ HX.out (by omega) hnc HMX.out (by omega)).mono ?_
  rintro e wb ⟨rfl, bb⟩
  rw [hf2]
  replace HX := Lib.hid (HX.out.below bb (Nat.le_refl _))
  replace K0 := Lib.hid (K0.out.belowSelf bb)
  replace HB0 := Lib.hid (HB0.out.trans (bb.mono HB0.out.size))
  clear bb
  rw [← HG0.out]
  have hm0 : Row wb 1 (some ⟨b, off + 8, none⟩) (n - 16) (ints (midL xs)) := by
    have t := HX.out.piece (c := c) (i := 8) (m := n - 16) (by omega)
    rw [midL, HXL.out]
    exact t
  have HM := Lib.hid hm0
  clear hm0
  go_wp2_with fail
  go_at_call 76
  refine (l25Unstuff_any _ _ _ _ _ HM.out (by omega) HMK.out).mono ?_
  rintro e w1 ⟨a1, m, c1, ys, rfl, O1, hys, b1⟩
  rw [hok]
  obtain rfl := hys.out _ HU.out
  obtain ⟨hm8, hm32, hbs⟩ := HL.out
  have hml := O1.row.len
  rw [hml] at hm8 hm32 hbs
  have hm12 : m ≤ 1200 := by have := unstL_len _ _ _ HU.out; have := listOk_le HMK.out rfl; omega
  obtain ⟨g, rfl, hg1, hg2, hg3⟩ := O1.head (by omega)
  obtain ⟨q, hq⟩ : ∃ q, m / 8 = q := ⟨_, rfl⟩
  rw [hq] at hm8 hbs
  have hr1 : Int.tmod (m : Int) 8 = 0 := by
    rw [Int.tmod_eq_emod_of_nonneg (by omega)]; omega
  have hr2 : ¬ (m : Int) < 32 := by omega
  have HM8 := Lib.hid hm8
  have HBS := Lib.hid hbs
  have HML := Lib.hid hml
  have HQ4 : 4 ≤ q := by omega
  have HQ5 : q ≤ 150 := by omega
  have B1 := HB0.out.trans (b1.mono HB0.out.size)
  have K1 := Lib.hid (K0.out.belowSelf b1)
  have X1 := Lib.hid (HX.out.below b1 (Nat.le_refl _))
  have R1 := Lib.hid O1.row
  clear hm8 hbs hml hq b1 O1 hys K0 HX HM HB0 HL hf1 hf2
  have OL := (Own.lit0 w1 2 1).leave
  have BL := (Below.refl w1.heap.size w1).alloc (Nat.le_refl _) (.cells #[] 2)
  go_wp2
  go_loopw [6, 7] (fun o i wr => ∃ (k j cp : Nat) (a' : Option Addr), k ≤ q ∧ i = .int .i64 j ∧ Hid (j = k * 8) ∧ o = .slice a' k cp ∧ Own wr w1.heap.size wr.heap.size 2 1 a' k cp (ints (unbits k ys)) ∧ Below w1.heap.size w1 wr) (fun _ i _ => m - (intOf i).toNat)
  case atStart => exact ⟨0, 0, _, _, Nat.zero_le _, rfl, rfl, rfl, by simpa [unbits, ints] using OL, BL⟩
  case round =>
    clear OL BL
    obtain ⟨k, j, cp, a1, hk, rfl, hj, rfl, O, BB⟩ := hrel
    have hzs := BB.size
    by_cases hkq : k < q
    · have hjm : j + 8 ≤ m := by have := HM8.out; have := hj.out; omega
      have hjI : (j : Int) < (m : Int) := by omega
      have HUB := Lib.hid (unbits_last ys k)
      have HPS := Lib.hid (piece_small HSM.out k)
      have HPF := Lib.hid (piece_full (ys := ys) k)
      obtain ⟨wo, hwo⟩ : ∃ wo, wo = wr := ⟨_, rfl⟩
      subst hwo
      have RW := Lib.hid (R1.out.below BB (Nat.le_refl _))
      go_wp2
      go_loop [8, 9] (fun s i => ∃ r : Nat, r ≤ 8 ∧ i = .int .i64 r ∧ s = .int .i64 (numL ((pieceL ys k).take r))) (fun _ i => 8 - (intOf i).toNat)
      case atStart => exact ⟨0, by omega, rfl, by simp [numL]⟩
      case round =>
        obtain ⟨r, hr8, rfl, rfl⟩ := hrel
        obtain ⟨s0, s1⟩ := numL_take_bd HPS.out hr8
        by_cases hrl : r < 8
        · have hrI : (r : Int) < 8 := by omega
          have hjr : (j : Int) + (r : Int) < (m : Int) := by omega
          have hjr0 : (0 : Int) ≤ (j : Int) + (r : Int) := by omega
          have hjrn : ((j : Int) + (r : Int)).toNat = j + r := by omega
          obtain ⟨x, hx⟩ : ∃ x, ys[j + r]? = some x := ⟨_, List.getElem?_eq_getElem (by have := HML.out; omega)⟩
          have hc := RW.out.get_ hx
          rw [Nat.zero_add] at hc
          have hxp := (piece_get hj.out hrl).trans hx
          obtain ⟨x0, x1⟩ := HPS.out x (List.mem_of_getElem? hxp)
          have HST := Lib.hid (numL_take hxp)
          clear hx hxp
          go_wp2
          go_round
          case rel => exact ⟨r + 1, by omega, by go_num, by rw [HST.out]⟩
          case measure => simp [intOf] <;> omega
        · obtain rfl : r = 8 := by omega
          rw [HPF.out] at s0 s1 ⊢
          go_wp2_with (at_builtin; refine wpList_app _ rfl (.tmp 71) (.tmp 73) _ rfl Try.underlying22 info_i64 rfl (by decide) rfl (O.alloc _) rfl (Row.one _ _ _) (ints_one [numL (pieceL ys k)]) (by decide) (by simp only [maxLen]; omega) (by omega) (by simp; omega) ?_; intro A6 c6 w6 O6 hb6 _)
          go_roundw
          case rel => exact ⟨k + 1, j + 8, _, _, by omega, by go_num, (by have := hj.out; unfold Hid; omega), by go_num, by rw [HUB.out, ints_app]; exact O6, (BB.alloc (by omega) _).trans hb6⟩
          case measure => simp [intOf] <;> omega
    · obtain rfl : k = q := by omega
      have hjm : ¬ (j : Int) < (m : Int) := by have := HM8.out; have := hj.out; omega
      rw [← HBS.out] at O
      have hbl : bs.length = k := by rw [HBS.out, unbits_length]
      obtain ⟨q, hqk⟩ : ∃ q, q = k := ⟨_, rfl⟩
      subst hqk
      obtain ⟨gb, rfl, hgb0, -, hgb⟩ := O.head (by omega)
      obtain ⟨hcb1, hcb2⟩ := o1cap O
      simp only [maxLen] at hcb2
      obtain ⟨W, hWw⟩ : ∃ W, W = wr := ⟨_, rfl⟩
      subst hWw
      obtain ⟨x0, hx0⟩ : ∃ x, bs[0]? = some x := ⟨_, List.getElem?_eq_getElem (by omega)⟩
      obtain ⟨x1, hx1⟩ : ∃ x, bs[1]? = some x := ⟨_, List.getElem?_eq_getElem (by omega)⟩
      have e0 := O.row.get_ hx0
      have e1 := O.row.get_ hx1
      rw [Nat.zero_add] at e0 e1
      have HPT := Lib.hid (show partL bs = (x0, x1, (bs.drop 2).take (q - 4)) by rw [partL, hx0, hx1, hbl]; rfl)
      have RP0 := (O.row.piece (c := cp) (i := 2) (m := q - 4) (by omega))
      rw [Nat.zero_add] at RP0
      have HRP := Lib.hid (fun (W' : World) (h : Below W.heap.size W W') => RP0.below h (Nat.le_refl _))
      generalize (bs.drop 2).take (q - 4) = pl at *
      have HKP := Lib.hid (show ∀ W', Below W.heap.size W W' → W'.cell? ⟨gb, 0, none⟩ = some (.int .i64 x0) ∧ W'.cell? ⟨gb, 1, none⟩ = some (.int .i64 x1) from fun W' h => ⟨(h.cell (p := ⟨gb, 0, none⟩) hgb).trans e0, (h.cell (p := ⟨gb, 1, none⟩) hgb).trans e1⟩)
      have g1 : (q : Int) - 2 ≤ (cp : Int) := by omega
      have g2 : ((q : Int) - 2).toNat = q - 2 := by omega
      have g3 : (2 : Int) ≤ (q : Int) - 2 := by omega
      have g4 : ¬ cp = 2 := by omega
      have g6 : (0 : Int) ≤ (q : Int) - 2 := by omega
      have g7 : q - 2 - 2 = q - 4 := by omega
      have g8 : (0 : Int) < (q : Int) := by omega
      have g8n : 0 < q := by omega
      have gw : IntKind.i64.wrap ((q : Int) - 2) = (q : Int) - 2 := by rw [IntKind.wrap_i64]; omega
      have g9 : (1 : Int) < (q : Int) := by omega
      have HKB := Lib.hid (show Below w.heap.size w W from B1.trans (BB.mono B1.size))
      have HX1 := Lib.hid (X1.out.below BB (Nat.le_refl _))
      have HK1 := Lib.hid (K1.out.below BB K1.out.lt)
      have hwW := Lib.hid (show w.heap.size + 1 ≤ W.heap.size by have := HK1.out.lt; omega)
      clear O hx0 hx1 RP0 hbl BB R1 HM8 HSM K1 X1
      go_wp2_with fail
      go_region_held3 (fun w' => w'.cell? ⟨gb, 0, none⟩ = some (.int .i64 x0) ∧ w'.cell? ⟨gb, 1, none⟩ = some (.int .i64 x1)) (first | exact ⟨e0, e1⟩ | exact HKP.out _ BC | exact HKP.out _ (BC.alloc BCs _) | exact HKP.out _ (by go_grown) | go_keep) (first | (go_at_call 77; refine (l01Own_any _ _ _ pl _ (HRP.out _ (by go_grown)) (by omega)).mono ?_; rintro e wC ⟨aC, cC, rfl, OC, bC⟩; have BC := below_then (show Below W.heap.size W _ by go_grown) bC (by simp); have BCs := BC.size; (first | (have KB : Blk wC W.heap.size 28 #[.int .i64 0, .int .i64 0, .slice none 0 0] := Blk.belowSelf (by exact Blk.new' _ _ _ (by simp)) bC; have u0 : wC.cell? ⟨W.heap.size, 0, none⟩ = some (.int .i64 0) := KB.cell 0; have u1 : wC.cell? ⟨W.heap.size, 1, none⟩ = some (.int .i64 0) := KB.cell 1; have u2 : wC.cell? ⟨W.heap.size, 2, none⟩ = some (.slice none 0 0) := KB.cell 2; have f0 := KB.frozen 0; have f1 := KB.frozen 1; have f2 := KB.frozen 2) | skip)))
      · clear e0 e1 g1 g2 g3 g4 g6 g7 g8 g8n g9 gw
        first
          | (have KF1 : Blk (((wC.setCell ⟨W.heap.size, 0, none⟩ (.int .i64 x0)).setCell ⟨W.heap.size, 1, none⟩ (.int .i64 x1)).setCell ⟨W.heap.size, 2, none⟩ (.slice aC (q - 4) cC)) W.heap.size 28 #[.int .i64 x0, .int .i64 x1, .slice aC (q - 4) cC] := ((KB.set_ 0 (.int .i64 x0)).set_ 1 (.int .i64 x1)).set_ 2 (.slice aC (q - 4) cC)
             have BF1 : Below W.heap.size W (((wC.setCell ⟨W.heap.size, 0, none⟩ (.int .i64 x0)).setCell ⟨W.heap.size, 1, none⟩ (.int .i64 x1)).setCell ⟨W.heap.size, 2, none⟩ (.slice aC (q - 4) cC)) := ((BC.setCell (p := ⟨W.heap.size, 0, none⟩) (Nat.le_refl _) _).setCell (p := ⟨W.heap.size, 1, none⟩) (Nat.le_refl _) _).setCell (p := ⟨W.heap.size, 2, none⟩) (Nat.le_refl _) _
             have OF1 : Own (((wC.setCell ⟨W.heap.size, 0, none⟩ (.int .i64 x0)).setCell ⟨W.heap.size, 1, none⟩ (.int .i64 x1)).setCell ⟨W.heap.size, 2, none⟩ (.slice aC (q - 4) cC)) W.heap.size (((wC.setCell ⟨W.heap.size, 0, none⟩ (.int .i64 x0)).setCell ⟨W.heap.size, 1, none⟩ (.int .i64 x1)).setCell ⟨W.heap.size, 2, none⟩ (.slice aC (q - 4) cC)).heap.size 2 1 aC (q - 4) cC (ints pl) := (((OC.setFar (p := ⟨W.heap.size, 0, none⟩) (.inl (by simp)) _).setFar (p := ⟨W.heap.size, 1, none⟩) (.inl (by simp)) _).setFar (p := ⟨W.heap.size, 2, none⟩) (.inl (by simp)) _).leave.mono (by simp) (Nat.le_refl _)
             obtain ⟨W2, hW2⟩ : ∃ W2, ((wC.setCell ⟨W.heap.size, 0, none⟩ (.int .i64 x0)).setCell ⟨W.heap.size, 1, none⟩ (.int .i64 x1)).setCell ⟨W.heap.size, 2, none⟩ (.slice aC (q - 4) cC) = W2 := ⟨_, rfl⟩
             obtain ⟨fB, hfB⟩ : ∃ fB, W.heap.size = fB := ⟨_, rfl⟩
             have hfB1 : W.heap.size ≤ fB := by omega
             rw [hW2] at KF1 BF1 OF1
             rw [hfB] at KF1
             rw [hW2, hfB]
             clear hW2 hfB KB u0 u1 u2 f0 f1 f2 OC bC BC)
          | (have KF1 := Blk.new wC 28 #[.int .i64 x0, .int .i64 x1, .slice aC (q - 4) cC]
             have BF1 : Below W.heap.size W (wC.alloc (.cells #[.int .i64 x0, .int .i64 x1, .slice aC (q - 4) cC] 28)) := BC.alloc BCs _
             have OF1 : Own (wC.alloc (.cells #[.int .i64 x0, .int .i64 x1, .slice aC (q - 4) cC] 28)) W.heap.size (wC.alloc (.cells #[.int .i64 x0, .int .i64 x1, .slice aC (q - 4) cC] 28)).heap.size 2 1 aC (q - 4) cC (ints pl) := (OC.alloc _).leave.mono (by simp) (Nat.le_refl _)
             obtain ⟨W2, hW2⟩ : ∃ W2, wC.alloc (.cells #[.int .i64 x0, .int .i64 x1, .slice aC (q - 4) cC] 28) = W2 := ⟨_, rfl⟩
             obtain ⟨fB, hfB⟩ : ∃ fB, wC.heap.size = fB := ⟨_, rfl⟩
             have hfB1 : W.heap.size ≤ fB := by omega
             rw [hW2] at KF1 BF1 OF1
             rw [hfB] at KF1
             rw [hW2, hfB]
             clear hW2 hfB OC bC BC)
        clear BCs
        have KF := Lib.hid KF1
        have OF := Lib.hid OF1
        have BF := Lib.hid BF1
        have hfw : fB ≠ w.heap.size := by have := hwW.out; omega
        have rF := OF.out.row
        clear KF1 OF1 BF1
        cases hfk : frameOk x0 x1 pl
        · have HRD := Lib.hid (show readL xs = none by rw [HR.out, if_neg (by rw [HPT.out]; simp [okL, hfk])])
          go_wp2_with fail
          refine wp_region_held_drew (S := fun w' => w'.cell? ⟨fB, 0, none⟩ = some (.int .i64 x0) ∧ w'.cell? ⟨fB, 1, none⟩ = some (.int .i64 x1) ∧ w'.cell? ⟨fB, 2, none⟩ = some (.slice aC (q - 4) cC)) (by kernel_rfl) ((by first | exact ⟨KF.out.cell 0, KF.out.cell 1, KF.out.cell 2⟩ | exact ⟨(((KF.out.far (p := ⟨w.heap.size, 0, none⟩) hfw _).far (p := ⟨w.heap.size, 1, none⟩) hfw _).far (p := ⟨w.heap.size, 2, none⟩) hfw _).cell 0, (((KF.out.far (p := ⟨w.heap.size, 0, none⟩) hfw _).far (p := ⟨w.heap.size, 1, none⟩) hfw _).far (p := ⟨w.heap.size, 2, none⟩) hfw _).cell 1, (((KF.out.far (p := ⟨w.heap.size, 0, none⟩) hfw _).far (p := ⟨w.heap.size, 1, none⟩) hfw _).far (p := ⟨w.heap.size, 2, none⟩) hfw _).cell 2⟩)) (fun hHeld => ?_)
          refine wpAnyH_take (i := 0) (oi := ?oia0) (v := ?va0) ?hia0 (by kernel_rfl) (by kernel_rfl) (by kernel_rfl) ?hQa0 ?hya0 (by assumption) ?hra0
          case hia0 => (simp only [List.getElem?_toArray, List.getElem?_cons_succ, List.getElem?_cons_zero]; rfl)
          case hQa0 => exact fun _ _ _ h => h
          case hya0 => (refine Or.inl ⟨by rfl, ?_⟩; intro w hSw; (try dsimp only at hSw); (go_simp <;> with_reducible rfl))
          (try simp only [Act.put, List.setIfInBounds_toArray, List.set_cons_zero, List.set_cons_succ])
          refine wpAnyH_take (i := 1) (oi := ?oia1) (v := ?va1) ?hia1 (by kernel_rfl) (by kernel_rfl) (by kernel_rfl) ?hQa1 ?hya1 (by assumption) ?hra1
          case hia1 => (simp only [List.getElem?_toArray, List.getElem?_cons_succ, List.getElem?_cons_zero]; rfl)
          case hQa1 => exact fun _ _ _ h => h
          case hya1 => (refine Or.inl ⟨by rfl, ?_⟩; intro w hSw; (try dsimp only at hSw); (go_simp <;> with_reducible rfl))
          (try simp only [Act.put, List.setIfInBounds_toArray, List.set_cons_zero, List.set_cons_succ])
          refine wpAnyH_ready (rs := [2]) (by kernel_rfl) (by simp) ?_
          refine AllReadyH.cons (o := ?oia2) ?hia2 ?haa2 AllReadyH.nil
          case hia2 => (simp only [List.getElem?_toArray, List.getElem?_cons_succ, List.getElem?_cons_zero]; rfl)
          intro K hK
          go_simp
          (go_at_call 35; refine (isFrame_spec _ _ _ _ _ _ _ rF.drew (by omega)).mono ?_; rintro e W3 ⟨rfl, b3⟩; rw [hfk]; replace KF := Lib.hid (KF.out.drew.belowSelf b3); replace OF := Lib.hid (OF.out.drew.below b3 (.inr (Nat.le_refl _))).leave; replace BF := Lib.hid (BF.out.drew.trans (b3.mono BF.out.drew.size)); clear b3; have HZ := Lib.hid (HK1.out.below BF.out HK1.out.lt); have q0 : W3.cell? ⟨w.heap.size, 0, none⟩ = some (.int .i64 0) := HZ.out.cell 0; have q1 : W3.cell? ⟨w.heap.size, 1, none⟩ = some (.int .i64 0) := HZ.out.cell 1; have q2 : W3.cell? ⟨w.heap.size, 2, none⟩ = some (.slice none 0 0) := HZ.out.cell 2; have f0 := HZ.out.frozen 0; have f1 := HZ.out.frozen 1; have f2 := HZ.out.frozen 2; have hzl := HZ.out.lt; have HBW := Lib.hid (HKB.out.trans (BF.out.mono HKB.out.size)); have HF := Lib.hid (fun W4 e4 => read_fin0 (k := x0) (m := x1) (a := aC) (n := q - 4) (c := cC) (ys := pl) HZ.out rfl HBW.out (OF.out.mono (by have := hwW.out; omega) (Nat.le_refl _)) (W4 := W4) e4); dsimp only)
          refine hK.out _ _ ((by first | exact ⟨KF.out.cell 0, KF.out.cell 1, KF.out.cell 2⟩ | exact ⟨(((KF.out.far (p := ⟨w.heap.size, 0, none⟩) hfw _).far (p := ⟨w.heap.size, 1, none⟩) hfw _).far (p := ⟨w.heap.size, 2, none⟩) hfw _).cell 0, (((KF.out.far (p := ⟨w.heap.size, 0, none⟩) hfw _).far (p := ⟨w.heap.size, 1, none⟩) hfw _).far (p := ⟨w.heap.size, 2, none⟩) hfw _).cell 1, (((KF.out.far (p := ⟨w.heap.size, 0, none⟩) hfw _).far (p := ⟨w.heap.size, 1, none⟩) hfw _).far (p := ⟨w.heap.size, 2, none⟩) hfw _).cell 2⟩)) (fun hHeld => ?_)
          clear hK K
          (try simp only [Act.put, List.setIfInBounds_toArray, List.set_cons_zero, List.set_cons_succ])
          refine wpAnyH_take (i := 3) (oi := ?oia3) (v := ?va3) ?hia3 (by kernel_rfl) (by kernel_rfl) (by kernel_rfl) ?hQa3 ?hya3 (by assumption) ?hra3
          case hia3 => (simp only [List.getElem?_toArray, List.getElem?_cons_succ, List.getElem?_cons_zero]; rfl)
          case hQa3 => exact fun _ _ _ h => h
          case hya3 => (refine Or.inl ⟨by rfl, ?_⟩; intro w hSw; (try dsimp only at hSw); (go_simp <;> with_reducible rfl))
          (try simp only [Act.put, List.setIfInBounds_toArray, List.set_cons_zero, List.set_cons_succ])
          refine wpAnyH_take (i := 4) (oi := ?oia4) (v := undef) ?hia4 (by kernel_rfl) (by kernel_rfl) (by kernel_rfl) ?hQa4 ?hya4 (by assumption) ?hra4
          case hia4 => (simp only [List.getElem?_toArray, List.getElem?_cons_succ, List.getElem?_cons_zero]; rfl)
          case hQa4 => exact fun _ _ _ h => h
          case hya4 => exact Or.inr ⟨by rfl, rfl⟩
          (try simp only [Act.put, List.setIfInBounds_toArray, List.set_cons_zero, List.set_cons_succ])
          refine wpAnyH_take (i := 5) (oi := ?oia5) (v := undef) ?hia5 (by kernel_rfl) (by kernel_rfl) (by kernel_rfl) ?hQa5 ?hya5 (by assumption) ?hra5
          case hia5 => (simp only [List.getElem?_toArray, List.getElem?_cons_succ, List.getElem?_cons_zero]; rfl)
          case hQa5 => exact fun _ _ _ h => h
          case hya5 => exact Or.inr ⟨by rfl, rfl⟩
          (try simp only [Act.put, List.setIfInBounds_toArray, List.set_cons_zero, List.set_cons_succ])
          refine wpAnyH_take (i := 6) (oi := ?oia6) (v := undef) ?hia6 (by kernel_rfl) (by kernel_rfl) (by kernel_rfl) ?hQa6 ?hya6 (by assumption) ?hra6
          case hia6 => (simp only [List.getElem?_toArray, List.getElem?_cons_succ, List.getElem?_cons_zero]; rfl)
          case hQa6 => exact fun _ _ _ h => h
          case hya6 => exact Or.inr ⟨by rfl, rfl⟩
          (try simp only [Act.put, List.setIfInBounds_toArray, List.set_cons_zero, List.set_cons_succ])
          refine wpAnyH_take (i := 7) (oi := ?oia7) (v := undef) ?hia7 (by kernel_rfl) (by kernel_rfl) (by kernel_rfl) ?hQa7 ?hya7 (by assumption) ?hra7
          case hia7 => (simp only [List.getElem?_toArray, List.getElem?_cons_succ, List.getElem?_cons_zero]; rfl)
          case hQa7 => exact fun _ _ _ h => h
          case hya7 => exact Or.inr ⟨by rfl, rfl⟩
          (try simp only [Act.put, List.setIfInBounds_toArray, List.set_cons_zero, List.set_cons_succ])
          refine wpAnyH_take (i := 8) (oi := ?oia8) (v := ?va8) ?hia8 (by kernel_rfl) (by kernel_rfl) (by kernel_rfl) ?hQa8 ?hya8 (by assumption) ?hra8
          case hia8 => (simp only [List.getElem?_toArray, List.getElem?_cons_succ, List.getElem?_cons_zero]; rfl)
          case hQa8 => exact fun _ _ _ h => h
          case hya8 => (refine Or.inl ⟨by rfl, ?_⟩; intro w hSw; (try dsimp only at hSw); (go_simp <;> with_reducible rfl))
          (try simp only [Act.put, List.setIfInBounds_toArray, List.set_cons_zero, List.set_cons_succ])
          refine wpAnyH_ready (rs := [9]) (by kernel_rfl) (by simp) ?_
          refine AllReadyH.cons (o := ?oia9) ?hia9 ?haa9 AllReadyH.nil
          case hia9 => (simp only [List.getElem?_toArray, List.getElem?_cons_succ, List.getElem?_cons_zero]; rfl)
          intro K hK
          go_simp
          skip
          refine hK.out _ _ ((by first | exact ⟨KF.out.cell 0, KF.out.cell 1, KF.out.cell 2⟩ | exact ⟨(((KF.out.far (p := ⟨w.heap.size, 0, none⟩) hfw _).far (p := ⟨w.heap.size, 1, none⟩) hfw _).far (p := ⟨w.heap.size, 2, none⟩) hfw _).cell 0, (((KF.out.far (p := ⟨w.heap.size, 0, none⟩) hfw _).far (p := ⟨w.heap.size, 1, none⟩) hfw _).far (p := ⟨w.heap.size, 2, none⟩) hfw _).cell 1, (((KF.out.far (p := ⟨w.heap.size, 0, none⟩) hfw _).far (p := ⟨w.heap.size, 1, none⟩) hfw _).far (p := ⟨w.heap.size, 2, none⟩) hfw _).cell 2⟩)) (fun hHeld => ?_)
          clear hK K
          (try simp only [Act.put, List.setIfInBounds_toArray, List.set_cons_zero, List.set_cons_succ])
          refine wpAnyH_take (i := 10) (oi := ?oia10) (v := ?va10) ?hia10 (by kernel_rfl) (by kernel_rfl) (by kernel_rfl) ?hQa10 ?hya10 (by assumption) ?hra10
          case hia10 => (simp only [List.getElem?_toArray, List.getElem?_cons_succ, List.getElem?_cons_zero]; rfl)
          case hQa10 => exact fun _ _ _ h => h
          case hya10 => (refine Or.inl ⟨by rfl, ?_⟩; intro w hSw; (try dsimp only at hSw); (go_simp <;> with_reducible rfl))
          (try simp only [Act.put, List.setIfInBounds_toArray, List.set_cons_zero, List.set_cons_succ])
          refine wpAnyH_done (by kernel_rfl) ?_ _
          go_wp2
          obtain ⟨z0, z1, z2, ho, hb⟩ := HF.out _ rfl
          exact bodyPost_ret (v := .tuple #[.agg #[.int .i64 x0, .int .i64 x1, .slice aC (q - 4) cC], .bool false]) (by simp only [results, Try.results47, Array.size]; simp [go_sem, z0, z1, z2]) rfl ⟨x0, x1, aC, q - 4, cC, pl, by rw [HRD.out]; rfl, ho, hb, (by intro f hf; rw [HRD.out] at hf; cases hf), by omega⟩
        · have HFK := Lib.hid hfk
          cases heq : decide (frameL x0 x1 pl = xs)
          · have HRD := Lib.hid (show readL xs = none by rw [HR.out, if_neg (by rw [HPT.out]; simp only [okL, heq]; simp)])
            go_wp2_with fail
            refine wp_region_held_drew (S := fun w' => w'.cell? ⟨fB, 0, none⟩ = some (.int .i64 x0) ∧ w'.cell? ⟨fB, 1, none⟩ = some (.int .i64 x1) ∧ w'.cell? ⟨fB, 2, none⟩ = some (.slice aC (q - 4) cC)) (by kernel_rfl) ((by first | exact ⟨KF.out.cell 0, KF.out.cell 1, KF.out.cell 2⟩ | exact ⟨(((KF.out.far (p := ⟨w.heap.size, 0, none⟩) hfw _).far (p := ⟨w.heap.size, 1, none⟩) hfw _).far (p := ⟨w.heap.size, 2, none⟩) hfw _).cell 0, (((KF.out.far (p := ⟨w.heap.size, 0, none⟩) hfw _).far (p := ⟨w.heap.size, 1, none⟩) hfw _).far (p := ⟨w.heap.size, 2, none⟩) hfw _).cell 1, (((KF.out.far (p := ⟨w.heap.size, 0, none⟩) hfw _).far (p := ⟨w.heap.size, 1, none⟩) hfw _).far (p := ⟨w.heap.size, 2, none⟩) hfw _).cell 2⟩)) (fun hHeld => ?_)
            refine wpAnyH_take (i := 0) (oi := ?oib0) (v := ?vb0) ?hib0 (by kernel_rfl) (by kernel_rfl) (by kernel_rfl) ?hQb0 ?hyb0 (by assumption) ?hrb0
            case hib0 => (simp only [List.getElem?_toArray, List.getElem?_cons_succ, List.getElem?_cons_zero]; rfl)
            case hQb0 => exact fun _ _ _ h => h
            case hyb0 => (refine Or.inl ⟨by rfl, ?_⟩; intro w hSw; (try dsimp only at hSw); (go_simp <;> with_reducible rfl))
            (try simp only [Act.put, List.setIfInBounds_toArray, List.set_cons_zero, List.set_cons_succ])
            refine wpAnyH_take (i := 1) (oi := ?oib1) (v := ?vb1) ?hib1 (by kernel_rfl) (by kernel_rfl) (by kernel_rfl) ?hQb1 ?hyb1 (by assumption) ?hrb1
            case hib1 => (simp only [List.getElem?_toArray, List.getElem?_cons_succ, List.getElem?_cons_zero]; rfl)
            case hQb1 => exact fun _ _ _ h => h
            case hyb1 => (refine Or.inl ⟨by rfl, ?_⟩; intro w hSw; (try dsimp only at hSw); (go_simp <;> with_reducible rfl))
            (try simp only [Act.put, List.setIfInBounds_toArray, List.set_cons_zero, List.set_cons_succ])
            refine wpAnyH_ready (rs := [2]) (by kernel_rfl) (by simp) ?_
            refine AllReadyH.cons (o := ?oib2) ?hib2 ?hab2 AllReadyH.nil
            case hib2 => (simp only [List.getElem?_toArray, List.getElem?_cons_succ, List.getElem?_cons_zero]; rfl)
            intro K hK
            go_simp
            (go_at_call 35; refine (isFrame_spec _ _ _ _ _ _ _ rF.drew (by omega)).mono ?_; rintro e W3 ⟨rfl, b3⟩; rw [hfk]; replace KF := Lib.hid (KF.out.drew.belowSelf b3); replace OF := Lib.hid (OF.out.drew.below b3 (.inr (Nat.le_refl _))).leave; replace BF := Lib.hid (BF.out.drew.trans (b3.mono BF.out.drew.size)); clear b3; clear hfk; dsimp only)
            refine hK.out _ _ ((by first | exact ⟨KF.out.cell 0, KF.out.cell 1, KF.out.cell 2⟩ | exact ⟨(((KF.out.far (p := ⟨w.heap.size, 0, none⟩) hfw _).far (p := ⟨w.heap.size, 1, none⟩) hfw _).far (p := ⟨w.heap.size, 2, none⟩) hfw _).cell 0, (((KF.out.far (p := ⟨w.heap.size, 0, none⟩) hfw _).far (p := ⟨w.heap.size, 1, none⟩) hfw _).far (p := ⟨w.heap.size, 2, none⟩) hfw _).cell 1, (((KF.out.far (p := ⟨w.heap.size, 0, none⟩) hfw _).far (p := ⟨w.heap.size, 1, none⟩) hfw _).far (p := ⟨w.heap.size, 2, none⟩) hfw _).cell 2⟩)) (fun hHeld => ?_)
            clear hK K
            (try simp only [Act.put, List.setIfInBounds_toArray, List.set_cons_zero, List.set_cons_succ])
            refine wpAnyH_take (i := 3) (oi := ?oib3) (v := ?vb3) ?hib3 (by kernel_rfl) (by kernel_rfl) (by kernel_rfl) ?hQb3 ?hyb3 (by assumption) ?hrb3
            case hib3 => (simp only [List.getElem?_toArray, List.getElem?_cons_succ, List.getElem?_cons_zero]; rfl)
            case hQb3 => exact fun _ _ _ h => h
            case hyb3 => (refine Or.inl ⟨by rfl, ?_⟩; intro w hSw; (try dsimp only at hSw); (go_simp <;> with_reducible rfl))
            (try simp only [Act.put, List.setIfInBounds_toArray, List.set_cons_zero, List.set_cons_succ])
            refine wpAnyH_take (i := 4) (oi := ?oib4) (v := ?vb4) ?hib4 (by kernel_rfl) (by kernel_rfl) (by kernel_rfl) ?hQb4 ?hyb4 (by assumption) ?hrb4
            case hib4 => (simp only [List.getElem?_toArray, List.getElem?_cons_succ, List.getElem?_cons_zero]; rfl)
            case hQb4 => exact fun _ _ _ h => h
            case hyb4 => (refine Or.inl ⟨by rfl, ?_⟩; intro w hSw; (try dsimp only at hSw); (go_simp <;> with_reducible rfl))
            (try simp only [Act.put, List.setIfInBounds_toArray, List.set_cons_zero, List.set_cons_succ])
            refine wpAnyH_take (i := 6) (oi := ?oib6) (v := ?vb6) ?hib6 (by kernel_rfl) (by kernel_rfl) (by kernel_rfl) ?hQb6 ?hyb6 (by assumption) ?hrb6
            case hib6 => (simp only [List.getElem?_toArray, List.getElem?_cons_succ, List.getElem?_cons_zero]; rfl)
            case hQb6 => exact fun _ _ _ h => h
            case hyb6 => (refine Or.inl ⟨by rfl, ?_⟩; intro w hSw; (try dsimp only at hSw); (go_simp <;> with_reducible rfl))
            (try simp only [Act.put, List.setIfInBounds_toArray, List.set_cons_zero, List.set_cons_succ])
            refine wpAnyH_ready (rs := [5]) (by kernel_rfl) (by simp) ?_
            refine AllReadyH.cons (o := ?oib5) ?hib5 ?hab5 AllReadyH.nil
            case hib5 => (simp only [List.getElem?_toArray, List.getElem?_cons_succ, List.getElem?_cons_zero]; rfl)
            intro K hK
            go_simp
            (go_at_call 44; refine (frame_spec _ _ _ _ _ _ _ OF.out.row HFK.out).mono ?_; rintro e W5 ⟨a8, n8, c8, rfl, O8, b5⟩; replace KF := Lib.hid (KF.out.belowSelf b5); replace OF := Lib.hid (OF.out.below b5 (.inr (Nat.le_refl _))).leave; replace BF := Lib.hid (BF.out.trans (b5.mono BF.out.size)); clear b5; have hn8 : n8 ≤ 1048576 := (by have h1 := O8.row.len; have h2 := frameL_le (k := x0) (m := x1) (frameOk_len HFK.out); omega); have r8 := O8.row; have rX := HX1.out.below BF.out (Nat.le_refl _); clear O8; dsimp only)
            refine hK.out _ _ ((by first | exact ⟨KF.out.cell 0, KF.out.cell 1, KF.out.cell 2⟩ | exact ⟨(((KF.out.far (p := ⟨w.heap.size, 0, none⟩) hfw _).far (p := ⟨w.heap.size, 1, none⟩) hfw _).far (p := ⟨w.heap.size, 2, none⟩) hfw _).cell 0, (((KF.out.far (p := ⟨w.heap.size, 0, none⟩) hfw _).far (p := ⟨w.heap.size, 1, none⟩) hfw _).far (p := ⟨w.heap.size, 2, none⟩) hfw _).cell 1, (((KF.out.far (p := ⟨w.heap.size, 0, none⟩) hfw _).far (p := ⟨w.heap.size, 1, none⟩) hfw _).far (p := ⟨w.heap.size, 2, none⟩) hfw _).cell 2⟩)) (fun hHeld => ?_)
            clear hK K
            (try simp only [Act.put, List.setIfInBounds_toArray, List.set_cons_zero, List.set_cons_succ])
            refine wpAnyH_ready (rs := [7]) (by kernel_rfl) (by simp) ?_
            refine AllReadyH.cons (o := ?oib7) ?hib7 ?hab7 AllReadyH.nil
            case hib7 => (simp only [List.getElem?_toArray, List.getElem?_cons_succ, List.getElem?_cons_zero]; rfl)
            intro K hK
            go_simp
            (go_at_call 78; refine (l01Same_any _ _ _ _ _ _ _ _ _ r8 rX hn8).mono ?_; rintro e W6 ⟨rfl, b6⟩; replace KF := Lib.hid (KF.out.belowSelf b6); replace OF := Lib.hid (OF.out.below b6 (.inr (Nat.le_refl _))).leave; replace BF := Lib.hid (BF.out.trans (b6.mono BF.out.size)); clear b6; clear r8 rX; have HZ := Lib.hid (HK1.out.below BF.out HK1.out.lt); have q0 : W6.cell? ⟨w.heap.size, 0, none⟩ = some (.int .i64 0) := HZ.out.cell 0; have q1 : W6.cell? ⟨w.heap.size, 1, none⟩ = some (.int .i64 0) := HZ.out.cell 1; have q2 : W6.cell? ⟨w.heap.size, 2, none⟩ = some (.slice none 0 0) := HZ.out.cell 2; have f0 := HZ.out.frozen 0; have f1 := HZ.out.frozen 1; have f2 := HZ.out.frozen 2; have hzl := HZ.out.lt; have HBW := Lib.hid (HKB.out.trans (BF.out.mono HKB.out.size)); have HF := Lib.hid (fun W4 e4 => read_fin0 (k := x0) (m := x1) (a := aC) (n := q - 4) (c := cC) (ys := pl) HZ.out rfl HBW.out (OF.out.mono (by have := hwW.out; omega) (Nat.le_refl _)) (W4 := W4) e4); rw [heq]; dsimp only)
            refine hK.out _ _ ((by first | exact ⟨KF.out.cell 0, KF.out.cell 1, KF.out.cell 2⟩ | exact ⟨(((KF.out.far (p := ⟨w.heap.size, 0, none⟩) hfw _).far (p := ⟨w.heap.size, 1, none⟩) hfw _).far (p := ⟨w.heap.size, 2, none⟩) hfw _).cell 0, (((KF.out.far (p := ⟨w.heap.size, 0, none⟩) hfw _).far (p := ⟨w.heap.size, 1, none⟩) hfw _).far (p := ⟨w.heap.size, 2, none⟩) hfw _).cell 1, (((KF.out.far (p := ⟨w.heap.size, 0, none⟩) hfw _).far (p := ⟨w.heap.size, 1, none⟩) hfw _).far (p := ⟨w.heap.size, 2, none⟩) hfw _).cell 2⟩)) (fun hHeld => ?_)
            clear hK K
            (try simp only [Act.put, List.setIfInBounds_toArray, List.set_cons_zero, List.set_cons_succ])
            refine wpAnyH_take (i := 8) (oi := ?oib8) (v := ?vb8) ?hib8 (by kernel_rfl) (by kernel_rfl) (by kernel_rfl) ?hQb8 ?hyb8 (by assumption) ?hrb8
            case hib8 => (simp only [List.getElem?_toArray, List.getElem?_cons_succ, List.getElem?_cons_zero]; rfl)
            case hQb8 => exact fun _ _ _ h => h
            case hyb8 => (refine Or.inl ⟨by rfl, ?_⟩; intro w hSw; (try dsimp only at hSw); (go_simp <;> with_reducible rfl))
            (try simp only [Act.put, List.setIfInBounds_toArray, List.set_cons_zero, List.set_cons_succ])
            refine wpAnyH_ready (rs := [9]) (by kernel_rfl) (by simp) ?_
            refine AllReadyH.cons (o := ?oib9) ?hib9 ?hab9 AllReadyH.nil
            case hib9 => (simp only [List.getElem?_toArray, List.getElem?_cons_succ, List.getElem?_cons_zero]; rfl)
            intro K hK
            go_simp
            skip
            refine hK.out _ _ ((by first | exact ⟨KF.out.cell 0, KF.out.cell 1, KF.out.cell 2⟩ | exact ⟨(((KF.out.far (p := ⟨w.heap.size, 0, none⟩) hfw _).far (p := ⟨w.heap.size, 1, none⟩) hfw _).far (p := ⟨w.heap.size, 2, none⟩) hfw _).cell 0, (((KF.out.far (p := ⟨w.heap.size, 0, none⟩) hfw _).far (p := ⟨w.heap.size, 1, none⟩) hfw _).far (p := ⟨w.heap.size, 2, none⟩) hfw _).cell 1, (((KF.out.far (p := ⟨w.heap.size, 0, none⟩) hfw _).far (p := ⟨w.heap.size, 1, none⟩) hfw _).far (p := ⟨w.heap.size, 2, none⟩) hfw _).cell 2⟩)) (fun hHeld => ?_)
            clear hK K
            (try simp only [Act.put, List.setIfInBounds_toArray, List.set_cons_zero, List.set_cons_succ])
            refine wpAnyH_take (i := 10) (oi := ?oib10) (v := ?vb10) ?hib10 (by kernel_rfl) (by kernel_rfl) (by kernel_rfl) ?hQb10 ?hyb10 (by assumption) ?hrb10
            case hib10 => (simp only [List.getElem?_toArray, List.getElem?_cons_succ, List.getElem?_cons_zero]; rfl)
            case hQb10 => exact fun _ _ _ h => h
            case hyb10 => (refine Or.inl ⟨by rfl, ?_⟩; intro w hSw; (try dsimp only at hSw); (go_simp <;> with_reducible rfl))
            (try simp only [Act.put, List.setIfInBounds_toArray, List.set_cons_zero, List.set_cons_succ])
            refine wpAnyH_done (by kernel_rfl) ?_ _
            go_wp2
            obtain ⟨z0, z1, z2, ho, hb⟩ := HF.out _ rfl
            exact bodyPost_ret (v := .tuple #[.agg #[.int .i64 x0, .int .i64 x1, .slice aC (q - 4) cC], .bool false]) (by simp only [results, Try.results47, Array.size]; simp [go_sem, z0, z1, z2]) rfl ⟨x0, x1, aC, q - 4, cC, pl, by rw [HRD.out]; rfl, ho, hb, (by intro f hf; rw [HRD.out] at hf; cases hf), by omega⟩
          · have HRD := Lib.hid (show readL xs = some (x0, x1, pl) by rw [HR.out, if_pos (by rw [HPT.out]; simp only [okL, heq, HFK.out]; rfl), HPT.out])
            go_wp2_with fail
            refine wp_region_held_drew (S := fun w' => w'.cell? ⟨fB, 0, none⟩ = some (.int .i64 x0) ∧ w'.cell? ⟨fB, 1, none⟩ = some (.int .i64 x1) ∧ w'.cell? ⟨fB, 2, none⟩ = some (.slice aC (q - 4) cC)) (by kernel_rfl) ((by first | exact ⟨KF.out.cell 0, KF.out.cell 1, KF.out.cell 2⟩ | exact ⟨(((KF.out.far (p := ⟨w.heap.size, 0, none⟩) hfw _).far (p := ⟨w.heap.size, 1, none⟩) hfw _).far (p := ⟨w.heap.size, 2, none⟩) hfw _).cell 0, (((KF.out.far (p := ⟨w.heap.size, 0, none⟩) hfw _).far (p := ⟨w.heap.size, 1, none⟩) hfw _).far (p := ⟨w.heap.size, 2, none⟩) hfw _).cell 1, (((KF.out.far (p := ⟨w.heap.size, 0, none⟩) hfw _).far (p := ⟨w.heap.size, 1, none⟩) hfw _).far (p := ⟨w.heap.size, 2, none⟩) hfw _).cell 2⟩)) (fun hHeld => ?_)
            refine wpAnyH_take (i := 0) (oi := ?oic0) (v := ?vc0) ?hic0 (by kernel_rfl) (by kernel_rfl) (by kernel_rfl) ?hQc0 ?hyc0 (by assumption) ?hrc0
            case hic0 => (simp only [List.getElem?_toArray, List.getElem?_cons_succ, List.getElem?_cons_zero]; rfl)
            case hQc0 => exact fun _ _ _ h => h
            case hyc0 => (refine Or.inl ⟨by rfl, ?_⟩; intro w hSw; (try dsimp only at hSw); (go_simp <;> with_reducible rfl))
            (try simp only [Act.put, List.setIfInBounds_toArray, List.set_cons_zero, List.set_cons_succ])
            refine wpAnyH_take (i := 1) (oi := ?oic1) (v := ?vc1) ?hic1 (by kernel_rfl) (by kernel_rfl) (by kernel_rfl) ?hQc1 ?hyc1 (by assumption) ?hrc1
            case hic1 => (simp only [List.getElem?_toArray, List.getElem?_cons_succ, List.getElem?_cons_zero]; rfl)
            case hQc1 => exact fun _ _ _ h => h
            case hyc1 => (refine Or.inl ⟨by rfl, ?_⟩; intro w hSw; (try dsimp only at hSw); (go_simp <;> with_reducible rfl))
            (try simp only [Act.put, List.setIfInBounds_toArray, List.set_cons_zero, List.set_cons_succ])
            refine wpAnyH_ready (rs := [2]) (by kernel_rfl) (by simp) ?_
            refine AllReadyH.cons (o := ?oic2) ?hic2 ?hac2 AllReadyH.nil
            case hic2 => (simp only [List.getElem?_toArray, List.getElem?_cons_succ, List.getElem?_cons_zero]; rfl)
            intro K hK
            go_simp
            (go_at_call 35; refine (isFrame_spec _ _ _ _ _ _ _ rF.drew (by omega)).mono ?_; rintro e W3 ⟨rfl, b3⟩; rw [hfk]; replace KF := Lib.hid (KF.out.drew.belowSelf b3); replace OF := Lib.hid (OF.out.drew.below b3 (.inr (Nat.le_refl _))).leave; replace BF := Lib.hid (BF.out.drew.trans (b3.mono BF.out.drew.size)); clear b3; clear hfk; dsimp only)
            refine hK.out _ _ ((by first | exact ⟨KF.out.cell 0, KF.out.cell 1, KF.out.cell 2⟩ | exact ⟨(((KF.out.far (p := ⟨w.heap.size, 0, none⟩) hfw _).far (p := ⟨w.heap.size, 1, none⟩) hfw _).far (p := ⟨w.heap.size, 2, none⟩) hfw _).cell 0, (((KF.out.far (p := ⟨w.heap.size, 0, none⟩) hfw _).far (p := ⟨w.heap.size, 1, none⟩) hfw _).far (p := ⟨w.heap.size, 2, none⟩) hfw _).cell 1, (((KF.out.far (p := ⟨w.heap.size, 0, none⟩) hfw _).far (p := ⟨w.heap.size, 1, none⟩) hfw _).far (p := ⟨w.heap.size, 2, none⟩) hfw _).cell 2⟩)) (fun hHeld => ?_)
            clear hK K
            (try simp only [Act.put, List.setIfInBounds_toArray, List.set_cons_zero, List.set_cons_succ])
            refine wpAnyH_take (i := 3) (oi := ?oic3) (v := ?vc3) ?hic3 (by kernel_rfl) (by kernel_rfl) (by kernel_rfl) ?hQc3 ?hyc3 (by assumption) ?hrc3
            case hic3 => (simp only [List.getElem?_toArray, List.getElem?_cons_succ, List.getElem?_cons_zero]; rfl)
            case hQc3 => exact fun _ _ _ h => h
            case hyc3 => (refine Or.inl ⟨by rfl, ?_⟩; intro w hSw; (try dsimp only at hSw); (go_simp <;> with_reducible rfl))
            (try simp only [Act.put, List.setIfInBounds_toArray, List.set_cons_zero, List.set_cons_succ])
            refine wpAnyH_take (i := 4) (oi := ?oic4) (v := ?vc4) ?hic4 (by kernel_rfl) (by kernel_rfl) (by kernel_rfl) ?hQc4 ?hyc4 (by assumption) ?hrc4
            case hic4 => (simp only [List.getElem?_toArray, List.getElem?_cons_succ, List.getElem?_cons_zero]; rfl)
            case hQc4 => exact fun _ _ _ h => h
            case hyc4 => (refine Or.inl ⟨by rfl, ?_⟩; intro w hSw; (try dsimp only at hSw); (go_simp <;> with_reducible rfl))
            (try simp only [Act.put, List.setIfInBounds_toArray, List.set_cons_zero, List.set_cons_succ])
            refine wpAnyH_take (i := 6) (oi := ?oic6) (v := ?vc6) ?hic6 (by kernel_rfl) (by kernel_rfl) (by kernel_rfl) ?hQc6 ?hyc6 (by assumption) ?hrc6
            case hic6 => (simp only [List.getElem?_toArray, List.getElem?_cons_succ, List.getElem?_cons_zero]; rfl)
            case hQc6 => exact fun _ _ _ h => h
            case hyc6 => (refine Or.inl ⟨by rfl, ?_⟩; intro w hSw; (try dsimp only at hSw); (go_simp <;> with_reducible rfl))
            (try simp only [Act.put, List.setIfInBounds_toArray, List.set_cons_zero, List.set_cons_succ])
            refine wpAnyH_ready (rs := [5]) (by kernel_rfl) (by simp) ?_
            refine AllReadyH.cons (o := ?oic5) ?hic5 ?hac5 AllReadyH.nil
            case hic5 => (simp only [List.getElem?_toArray, List.getElem?_cons_succ, List.getElem?_cons_zero]; rfl)
            intro K hK
            go_simp
            (go_at_call 44; refine (frame_spec _ _ _ _ _ _ _ OF.out.row HFK.out).mono ?_; rintro e W5 ⟨a8, n8, c8, rfl, O8, b5⟩; replace KF := Lib.hid (KF.out.belowSelf b5); replace OF := Lib.hid (OF.out.below b5 (.inr (Nat.le_refl _))).leave; replace BF := Lib.hid (BF.out.trans (b5.mono BF.out.size)); clear b5; have hn8 : n8 ≤ 1048576 := (by have h1 := O8.row.len; have h2 := frameL_le (k := x0) (m := x1) (frameOk_len HFK.out); omega); have r8 := O8.row; have rX := HX1.out.below BF.out (Nat.le_refl _); clear O8; dsimp only)
            refine hK.out _ _ ((by first | exact ⟨KF.out.cell 0, KF.out.cell 1, KF.out.cell 2⟩ | exact ⟨(((KF.out.far (p := ⟨w.heap.size, 0, none⟩) hfw _).far (p := ⟨w.heap.size, 1, none⟩) hfw _).far (p := ⟨w.heap.size, 2, none⟩) hfw _).cell 0, (((KF.out.far (p := ⟨w.heap.size, 0, none⟩) hfw _).far (p := ⟨w.heap.size, 1, none⟩) hfw _).far (p := ⟨w.heap.size, 2, none⟩) hfw _).cell 1, (((KF.out.far (p := ⟨w.heap.size, 0, none⟩) hfw _).far (p := ⟨w.heap.size, 1, none⟩) hfw _).far (p := ⟨w.heap.size, 2, none⟩) hfw _).cell 2⟩)) (fun hHeld => ?_)
            clear hK K
            (try simp only [Act.put, List.setIfInBounds_toArray, List.set_cons_zero, List.set_cons_succ])
            refine wpAnyH_ready (rs := [7]) (by kernel_rfl) (by simp) ?_
            refine AllReadyH.cons (o := ?oic7) ?hic7 ?hac7 AllReadyH.nil
            case hic7 => (simp only [List.getElem?_toArray, List.getElem?_cons_succ, List.getElem?_cons_zero]; rfl)
            intro K hK
            go_simp
            (go_at_call 78; refine (l01Same_any _ _ _ _ _ _ _ _ _ r8 rX hn8).mono ?_; rintro e W6 ⟨rfl, b6⟩; replace KF := Lib.hid (KF.out.belowSelf b6); replace OF := Lib.hid (OF.out.below b6 (.inr (Nat.le_refl _))).leave; replace BF := Lib.hid (BF.out.trans (b6.mono BF.out.size)); clear b6; clear r8 rX; have HZ := Lib.hid (HK1.out.below BF.out HK1.out.lt); have q0 : W6.cell? ⟨w.heap.size, 0, none⟩ = some (.int .i64 0) := HZ.out.cell 0; have q1 : W6.cell? ⟨w.heap.size, 1, none⟩ = some (.int .i64 0) := HZ.out.cell 1; have q2 : W6.cell? ⟨w.heap.size, 2, none⟩ = some (.slice none 0 0) := HZ.out.cell 2; have f0 := HZ.out.frozen 0; have f1 := HZ.out.frozen 1; have f2 := HZ.out.frozen 2; have hzl := HZ.out.lt; have HBW := Lib.hid (HKB.out.trans (BF.out.mono HKB.out.size)); have HF := Lib.hid (fun W4 e4 => read_fin0 (k := x0) (m := x1) (a := aC) (n := q - 4) (c := cC) (ys := pl) HZ.out rfl HBW.out (OF.out.mono (by have := hwW.out; omega) (Nat.le_refl _)) (W4 := W4) e4); rw [heq]; dsimp only)
            refine hK.out _ _ ((by first | exact ⟨KF.out.cell 0, KF.out.cell 1, KF.out.cell 2⟩ | exact ⟨(((KF.out.far (p := ⟨w.heap.size, 0, none⟩) hfw _).far (p := ⟨w.heap.size, 1, none⟩) hfw _).far (p := ⟨w.heap.size, 2, none⟩) hfw _).cell 0, (((KF.out.far (p := ⟨w.heap.size, 0, none⟩) hfw _).far (p := ⟨w.heap.size, 1, none⟩) hfw _).far (p := ⟨w.heap.size, 2, none⟩) hfw _).cell 1, (((KF.out.far (p := ⟨w.heap.size, 0, none⟩) hfw _).far (p := ⟨w.heap.size, 1, none⟩) hfw _).far (p := ⟨w.heap.size, 2, none⟩) hfw _).cell 2⟩)) (fun hHeld => ?_)
            clear hK K
            (try simp only [Act.put, List.setIfInBounds_toArray, List.set_cons_zero, List.set_cons_succ])
            refine wpAnyH_take (i := 8) (oi := ?oic8) (v := ?vc8) ?hic8 (by kernel_rfl) (by kernel_rfl) (by kernel_rfl) ?hQc8 ?hyc8 (by assumption) ?hrc8
            case hic8 => (simp only [List.getElem?_toArray, List.getElem?_cons_succ, List.getElem?_cons_zero]; rfl)
            case hQc8 => exact fun _ _ _ h => h
            case hyc8 => (refine Or.inl ⟨by rfl, ?_⟩; intro w hSw; (try dsimp only at hSw); (go_simp <;> with_reducible rfl))
            (try simp only [Act.put, List.setIfInBounds_toArray, List.set_cons_zero, List.set_cons_succ])
            refine wpAnyH_ready (rs := [9]) (by kernel_rfl) (by simp) ?_
            refine AllReadyH.cons (o := ?oic9) ?hic9 ?hac9 AllReadyH.nil
            case hic9 => (simp only [List.getElem?_toArray, List.getElem?_cons_succ, List.getElem?_cons_zero]; rfl)
            intro K hK
            go_simp
            skip
            refine hK.out _ _ ((by first | exact ⟨KF.out.cell 0, KF.out.cell 1, KF.out.cell 2⟩ | exact ⟨(((KF.out.far (p := ⟨w.heap.size, 0, none⟩) hfw _).far (p := ⟨w.heap.size, 1, none⟩) hfw _).far (p := ⟨w.heap.size, 2, none⟩) hfw _).cell 0, (((KF.out.far (p := ⟨w.heap.size, 0, none⟩) hfw _).far (p := ⟨w.heap.size, 1, none⟩) hfw _).far (p := ⟨w.heap.size, 2, none⟩) hfw _).cell 1, (((KF.out.far (p := ⟨w.heap.size, 0, none⟩) hfw _).far (p := ⟨w.heap.size, 1, none⟩) hfw _).far (p := ⟨w.heap.size, 2, none⟩) hfw _).cell 2⟩)) (fun hHeld => ?_)
            clear hK K
            (try simp only [Act.put, List.setIfInBounds_toArray, List.set_cons_zero, List.set_cons_succ])
            refine wpAnyH_take (i := 10) (oi := ?oic10) (v := ?vc10) ?hic10 (by kernel_rfl) (by kernel_rfl) (by kernel_rfl) ?hQc10 ?hyc10 (by assumption) ?hrc10
            case hic10 => (simp only [List.getElem?_toArray, List.getElem?_cons_succ, List.getElem?_cons_zero]; rfl)
            case hQc10 => exact fun _ _ _ h => h
            case hyc10 => (refine Or.inl ⟨by rfl, ?_⟩; intro w hSw; (try dsimp only at hSw); (go_simp <;> with_reducible rfl))
            (try simp only [Act.put, List.setIfInBounds_toArray, List.set_cons_zero, List.set_cons_succ])
            refine wpAnyH_done (by kernel_rfl) ?_ _
            go_wp2
            obtain ⟨z0, z1, z2, ho, hb⟩ := HF.out _ rfl
            exact bodyPost_ret (v := .tuple #[.agg #[.int .i64 x0, .int .i64 x1, .slice aC (q - 4) cC], .bool true]) (by simp only [results, Try.results47, Array.size]; simp [go_sem, z0, z1, z2]) rfl ⟨x0, x1, aC, q - 4, cC, pl, by rw [HRD.out]; rfl, ho, hb, (by intro f hf; rw [HRD.out] at hf; injection hf with hf; exact hf.symm), by omega⟩
      · clear e0 e1 g1 g2 g3 g4 g6 g7 g8 g8n g9 gw
        first
          | (have KF1 : Blk (((wC.setCell ⟨W.heap.size, 0, none⟩ (.int .i64 x0)).setCell ⟨W.heap.size, 1, none⟩ (.int .i64 x1)).setCell ⟨W.heap.size, 2, none⟩ (.slice aC (q - 4) cC)) W.heap.size 28 #[.int .i64 x0, .int .i64 x1, .slice aC (q - 4) cC] := ((KB.set_ 0 (.int .i64 x0)).set_ 1 (.int .i64 x1)).set_ 2 (.slice aC (q - 4) cC)
             have BF1 : Below W.heap.size W (((wC.setCell ⟨W.heap.size, 0, none⟩ (.int .i64 x0)).setCell ⟨W.heap.size, 1, none⟩ (.int .i64 x1)).setCell ⟨W.heap.size, 2, none⟩ (.slice aC (q - 4) cC)) := ((BC.setCell (p := ⟨W.heap.size, 0, none⟩) (Nat.le_refl _) _).setCell (p := ⟨W.heap.size, 1, none⟩) (Nat.le_refl _) _).setCell (p := ⟨W.heap.size, 2, none⟩) (Nat.le_refl _) _
             have OF1 : Own (((wC.setCell ⟨W.heap.size, 0, none⟩ (.int .i64 x0)).setCell ⟨W.heap.size, 1, none⟩ (.int .i64 x1)).setCell ⟨W.heap.size, 2, none⟩ (.slice aC (q - 4) cC)) W.heap.size (((wC.setCell ⟨W.heap.size, 0, none⟩ (.int .i64 x0)).setCell ⟨W.heap.size, 1, none⟩ (.int .i64 x1)).setCell ⟨W.heap.size, 2, none⟩ (.slice aC (q - 4) cC)).heap.size 2 1 aC (q - 4) cC (ints pl) := (((OC.setFar (p := ⟨W.heap.size, 0, none⟩) (.inl (by simp)) _).setFar (p := ⟨W.heap.size, 1, none⟩) (.inl (by simp)) _).setFar (p := ⟨W.heap.size, 2, none⟩) (.inl (by simp)) _).leave.mono (by simp) (Nat.le_refl _)
             obtain ⟨W2, hW2⟩ : ∃ W2, ((wC.setCell ⟨W.heap.size, 0, none⟩ (.int .i64 x0)).setCell ⟨W.heap.size, 1, none⟩ (.int .i64 x1)).setCell ⟨W.heap.size, 2, none⟩ (.slice aC (q - 4) cC) = W2 := ⟨_, rfl⟩
             obtain ⟨fB, hfB⟩ : ∃ fB, W.heap.size = fB := ⟨_, rfl⟩
             have hfB1 : W.heap.size ≤ fB := by omega
             rw [hW2] at KF1 BF1 OF1
             rw [hfB] at KF1
             rw [hW2, hfB]
             clear hW2 hfB KB u0 u1 u2 f0 f1 f2 OC bC BC)
          | (have KF1 := Blk.new wC 28 #[.int .i64 x0, .int .i64 x1, .slice aC (q - 4) cC]
             have BF1 : Below W.heap.size W (wC.alloc (.cells #[.int .i64 x0, .int .i64 x1, .slice aC (q - 4) cC] 28)) := BC.alloc BCs _
             have OF1 : Own (wC.alloc (.cells #[.int .i64 x0, .int .i64 x1, .slice aC (q - 4) cC] 28)) W.heap.size (wC.alloc (.cells #[.int .i64 x0, .int .i64 x1, .slice aC (q - 4) cC] 28)).heap.size 2 1 aC (q - 4) cC (ints pl) := (OC.alloc _).leave.mono (by simp) (Nat.le_refl _)
             obtain ⟨W2, hW2⟩ : ∃ W2, wC.alloc (.cells #[.int .i64 x0, .int .i64 x1, .slice aC (q - 4) cC] 28) = W2 := ⟨_, rfl⟩
             obtain ⟨fB, hfB⟩ : ∃ fB, wC.heap.size = fB := ⟨_, rfl⟩
             have hfB1 : W.heap.size ≤ fB := by omega
             rw [hW2] at KF1 BF1 OF1
             rw [hfB] at KF1
             rw [hW2, hfB]
             clear hW2 hfB OC bC BC)
        clear BCs
        have KF := Lib.hid KF1
        have OF := Lib.hid OF1
        have BF := Lib.hid BF1
        have hfw : fB ≠ w.heap.size := by have := hwW.out; omega
        have rF := OF.out.row
        clear KF1 OF1 BF1
        cases hfk : frameOk x0 x1 pl
        · have HRD := Lib.hid (show readL xs = none by rw [HR.out, if_neg (by rw [HPT.out]; simp [okL, hfk])])
          go_wp2_with fail
          refine wp_region_held_drew (S := fun w' => w'.cell? ⟨fB, 0, none⟩ = some (.int .i64 x0) ∧ w'.cell? ⟨fB, 1, none⟩ = some (.int .i64 x1) ∧ w'.cell? ⟨fB, 2, none⟩ = some (.slice aC (q - 4) cC)) (by kernel_rfl) ((by first | exact ⟨KF.out.cell 0, KF.out.cell 1, KF.out.cell 2⟩ | exact ⟨(((KF.out.far (p := ⟨w.heap.size, 0, none⟩) hfw _).far (p := ⟨w.heap.size, 1, none⟩) hfw _).far (p := ⟨w.heap.size, 2, none⟩) hfw _).cell 0, (((KF.out.far (p := ⟨w.heap.size, 0, none⟩) hfw _).far (p := ⟨w.heap.size, 1, none⟩) hfw _).far (p := ⟨w.heap.size, 2, none⟩) hfw _).cell 1, (((KF.out.far (p := ⟨w.heap.size, 0, none⟩) hfw _).far (p := ⟨w.heap.size, 1, none⟩) hfw _).far (p := ⟨w.heap.size, 2, none⟩) hfw _).cell 2⟩)) (fun hHeld => ?_)
          refine wpAnyH_take (i := 0) (oi := ?oid0) (v := ?vd0) ?hid0 (by kernel_rfl) (by kernel_rfl) (by kernel_rfl) ?hQd0 ?hyd0 (by assumption) ?hrd0
          case hid0 => (simp only [List.getElem?_toArray, List.getElem?_cons_succ, List.getElem?_cons_zero]; rfl)
          case hQd0 => exact fun _ _ _ h => h
          case hyd0 => (refine Or.inl ⟨by rfl, ?_⟩; intro w hSw; (try dsimp only at hSw); (go_simp <;> with_reducible rfl))
          (try simp only [Act.put, List.setIfInBounds_toArray, List.set_cons_zero, List.set_cons_succ])
          refine wpAnyH_take (i := 1) (oi := ?oid1) (v := ?vd1) ?hid1 (by kernel_rfl) (by kernel_rfl) (by kernel_rfl) ?hQd1 ?hyd1 (by assumption) ?hrd1
          case hid1 => (simp only [List.getElem?_toArray, List.getElem?_cons_succ, List.getElem?_cons_zero]; rfl)
          case hQd1 => exact fun _ _ _ h => h
          case hyd1 => (refine Or.inl ⟨by rfl, ?_⟩; intro w hSw; (try dsimp only at hSw); (go_simp <;> with_reducible rfl))
          (try simp only [Act.put, List.setIfInBounds_toArray, List.set_cons_zero, List.set_cons_succ])
          refine wpAnyH_ready (rs := [2]) (by kernel_rfl) (by simp) ?_
          refine AllReadyH.cons (o := ?oid2) ?hid2 ?had2 AllReadyH.nil
          case hid2 => (simp only [List.getElem?_toArray, List.getElem?_cons_succ, List.getElem?_cons_zero]; rfl)
          intro K hK
          go_simp
          (go_at_call 35; refine (isFrame_spec _ _ _ _ _ _ _ rF.drew (by omega)).mono ?_; rintro e W3 ⟨rfl, b3⟩; rw [hfk]; replace KF := Lib.hid (KF.out.drew.belowSelf b3); replace OF := Lib.hid (OF.out.drew.below b3 (.inr (Nat.le_refl _))).leave; replace BF := Lib.hid (BF.out.drew.trans (b3.mono BF.out.drew.size)); clear b3; have HZ := Lib.hid (HK1.out.below BF.out HK1.out.lt); have q0 : W3.cell? ⟨w.heap.size, 0, none⟩ = some (.int .i64 0) := HZ.out.cell 0; have q1 : W3.cell? ⟨w.heap.size, 1, none⟩ = some (.int .i64 0) := HZ.out.cell 1; have q2 : W3.cell? ⟨w.heap.size, 2, none⟩ = some (.slice none 0 0) := HZ.out.cell 2; have f0 := HZ.out.frozen 0; have f1 := HZ.out.frozen 1; have f2 := HZ.out.frozen 2; have hzl := HZ.out.lt; have HBW := Lib.hid (HKB.out.trans (BF.out.mono HKB.out.size)); have HF := Lib.hid (fun W4 e4 => read_fin0 (k := x0) (m := x1) (a := aC) (n := q - 4) (c := cC) (ys := pl) HZ.out rfl HBW.out (OF.out.mono (by have := hwW.out; omega) (Nat.le_refl _)) (W4 := W4) e4); dsimp only)
          refine hK.out _ _ ((by first | exact ⟨KF.out.cell 0, KF.out.cell 1, KF.out.cell 2⟩ | exact ⟨(((KF.out.far (p := ⟨w.heap.size, 0, none⟩) hfw _).far (p := ⟨w.heap.size, 1, none⟩) hfw _).far (p := ⟨w.heap.size, 2, none⟩) hfw _).cell 0, (((KF.out.far (p := ⟨w.heap.size, 0, none⟩) hfw _).far (p := ⟨w.heap.size, 1, none⟩) hfw _).far (p := ⟨w.heap.size, 2, none⟩) hfw _).cell 1, (((KF.out.far (p := ⟨w.heap.size, 0, none⟩) hfw _).far (p := ⟨w.heap.size, 1, none⟩) hfw _).far (p := ⟨w.heap.size, 2, none⟩) hfw _).cell 2⟩)) (fun hHeld => ?_)
          clear hK K
          (try simp only [Act.put, List.setIfInBounds_toArray, List.set_cons_zero, List.set_cons_succ])
          refine wpAnyH_take (i := 3) (oi := ?oid3) (v := ?vd3) ?hid3 (by kernel_rfl) (by kernel_rfl) (by kernel_rfl) ?hQd3 ?hyd3 (by assumption) ?hrd3
          case hid3 => (simp only [List.getElem?_toArray, List.getElem?_cons_succ, List.getElem?_cons_zero]; rfl)
          case hQd3 => exact fun _ _ _ h => h
          case hyd3 => (refine Or.inl ⟨by rfl, ?_⟩; intro w hSw; (try dsimp only at hSw); (go_simp <;> with_reducible rfl))
          (try simp only [Act.put, List.setIfInBounds_toArray, List.set_cons_zero, List.set_cons_succ])
          refine wpAnyH_take (i := 4) (oi := ?oid4) (v := undef) ?hid4 (by kernel_rfl) (by kernel_rfl) (by kernel_rfl) ?hQd4 ?hyd4 (by assumption) ?hrd4
          case hid4 => (simp only [List.getElem?_toArray, List.getElem?_cons_succ, List.getElem?_cons_zero]; rfl)
          case hQd4 => exact fun _ _ _ h => h
          case hyd4 => exact Or.inr ⟨by rfl, rfl⟩
          (try simp only [Act.put, List.setIfInBounds_toArray, List.set_cons_zero, List.set_cons_succ])
          refine wpAnyH_take (i := 5) (oi := ?oid5) (v := undef) ?hid5 (by kernel_rfl) (by kernel_rfl) (by kernel_rfl) ?hQd5 ?hyd5 (by assumption) ?hrd5
          case hid5 => (simp only [List.getElem?_toArray, List.getElem?_cons_succ, List.getElem?_cons_zero]; rfl)
          case hQd5 => exact fun _ _ _ h => h
          case hyd5 => exact Or.inr ⟨by rfl, rfl⟩
          (try simp only [Act.put, List.setIfInBounds_toArray, List.set_cons_zero, List.set_cons_succ])
          refine wpAnyH_take (i := 6) (oi := ?oid6) (v := undef) ?hid6 (by kernel_rfl) (by kernel_rfl) (by kernel_rfl) ?hQd6 ?hyd6 (by assumption) ?hrd6
          case hid6 => (simp only [List.getElem?_toArray, List.getElem?_cons_succ, List.getElem?_cons_zero]; rfl)
          case hQd6 => exact fun _ _ _ h => h
          case hyd6 => exact Or.inr ⟨by rfl, rfl⟩
          (try simp only [Act.put, List.setIfInBounds_toArray, List.set_cons_zero, List.set_cons_succ])
          refine wpAnyH_take (i := 7) (oi := ?oid7) (v := undef) ?hid7 (by kernel_rfl) (by kernel_rfl) (by kernel_rfl) ?hQd7 ?hyd7 (by assumption) ?hrd7
          case hid7 => (simp only [List.getElem?_toArray, List.getElem?_cons_succ, List.getElem?_cons_zero]; rfl)
          case hQd7 => exact fun _ _ _ h => h
          case hyd7 => exact Or.inr ⟨by rfl, rfl⟩
          (try simp only [Act.put, List.setIfInBounds_toArray, List.set_cons_zero, List.set_cons_succ])
          refine wpAnyH_take (i := 8) (oi := ?oid8) (v := ?vd8) ?hid8 (by kernel_rfl) (by kernel_rfl) (by kernel_rfl) ?hQd8 ?hyd8 (by assumption) ?hrd8
          case hid8 => (simp only [List.getElem?_toArray, List.getElem?_cons_succ, List.getElem?_cons_zero]; rfl)
          case hQd8 => exact fun _ _ _ h => h
          case hyd8 => (refine Or.inl ⟨by rfl, ?_⟩; intro w hSw; (try dsimp only at hSw); (go_simp <;> with_reducible rfl))
          (try simp only [Act.put, List.setIfInBounds_toArray, List.set_cons_zero, List.set_cons_succ])
          refine wpAnyH_ready (rs := [9]) (by kernel_rfl) (by simp) ?_
          refine AllReadyH.cons (o := ?oid9) ?hid9 ?had9 AllReadyH.nil
          case hid9 => (simp only [List.getElem?_toArray, List.getElem?_cons_succ, List.getElem?_cons_zero]; rfl)
          intro K hK
          go_simp
          skip
          refine hK.out _ _ ((by first | exact ⟨KF.out.cell 0, KF.out.cell 1, KF.out.cell 2⟩ | exact ⟨(((KF.out.far (p := ⟨w.heap.size, 0, none⟩) hfw _).far (p := ⟨w.heap.size, 1, none⟩) hfw _).far (p := ⟨w.heap.size, 2, none⟩) hfw _).cell 0, (((KF.out.far (p := ⟨w.heap.size, 0, none⟩) hfw _).far (p := ⟨w.heap.size, 1, none⟩) hfw _).far (p := ⟨w.heap.size, 2, none⟩) hfw _).cell 1, (((KF.out.far (p := ⟨w.heap.size, 0, none⟩) hfw _).far (p := ⟨w.heap.size, 1, none⟩) hfw _).far (p := ⟨w.heap.size, 2, none⟩) hfw _).cell 2⟩)) (fun hHeld => ?_)
          clear hK K
          (try simp only [Act.put, List.setIfInBounds_toArray, List.set_cons_zero, List.set_cons_succ])
          refine wpAnyH_take (i := 10) (oi := ?oid10) (v := ?vd10) ?hid10 (by kernel_rfl) (by kernel_rfl) (by kernel_rfl) ?hQd10 ?hyd10 (by assumption) ?hrd10
          case hid10 => (simp only [List.getElem?_toArray, List.getElem?_cons_succ, List.getElem?_cons_zero]; rfl)
          case hQd10 => exact fun _ _ _ h => h
          case hyd10 => (refine Or.inl ⟨by rfl, ?_⟩; intro w hSw; (try dsimp only at hSw); (go_simp <;> with_reducible rfl))
          (try simp only [Act.put, List.setIfInBounds_toArray, List.set_cons_zero, List.set_cons_succ])
          refine wpAnyH_done (by kernel_rfl) ?_ _
          go_wp2
          obtain ⟨z0, z1, z2, ho, hb⟩ := HF.out _ rfl
          exact bodyPost_ret (v := .tuple #[.agg #[.int .i64 x0, .int .i64 x1, .slice aC (q - 4) cC], .bool false]) (by simp only [results, Try.results47, Array.size]; simp [go_sem, z0, z1, z2]) rfl ⟨x0, x1, aC, q - 4, cC, pl, by rw [HRD.out]; rfl, ho, hb, (by intro f hf; rw [HRD.out] at hf; cases hf), by omega⟩
        · have HFK := Lib.hid hfk
          cases heq : decide (frameL x0 x1 pl = xs)
          · have HRD := Lib.hid (show readL xs = none by rw [HR.out, if_neg (by rw [HPT.out]; simp only [okL, heq]; simp)])
            go_wp2_with fail
            refine wp_region_held_drew (S := fun w' => w'.cell? ⟨fB, 0, none⟩ = some (.int .i64 x0) ∧ w'.cell? ⟨fB, 1, none⟩ = some (.int .i64 x1) ∧ w'.cell? ⟨fB, 2, none⟩ = some (.slice aC (q - 4) cC)) (by kernel_rfl) ((by first | exact ⟨KF.out.cell 0, KF.out.cell 1, KF.out.cell 2⟩ | exact ⟨(((KF.out.far (p := ⟨w.heap.size, 0, none⟩) hfw _).far (p := ⟨w.heap.size, 1, none⟩) hfw _).far (p := ⟨w.heap.size, 2, none⟩) hfw _).cell 0, (((KF.out.far (p := ⟨w.heap.size, 0, none⟩) hfw _).far (p := ⟨w.heap.size, 1, none⟩) hfw _).far (p := ⟨w.heap.size, 2, none⟩) hfw _).cell 1, (((KF.out.far (p := ⟨w.heap.size, 0, none⟩) hfw _).far (p := ⟨w.heap.size, 1, none⟩) hfw _).far (p := ⟨w.heap.size, 2, none⟩) hfw _).cell 2⟩)) (fun hHeld => ?_)
            refine wpAnyH_take (i := 0) (oi := ?oie0) (v := ?ve0) ?hie0 (by kernel_rfl) (by kernel_rfl) (by kernel_rfl) ?hQe0 ?hye0 (by assumption) ?hre0
            case hie0 => (simp only [List.getElem?_toArray, List.getElem?_cons_succ, List.getElem?_cons_zero]; rfl)
            case hQe0 => exact fun _ _ _ h => h
            case hye0 => (refine Or.inl ⟨by rfl, ?_⟩; intro w hSw; (try dsimp only at hSw); (go_simp <;> with_reducible rfl))
            (try simp only [Act.put, List.setIfInBounds_toArray, List.set_cons_zero, List.set_cons_succ])
            refine wpAnyH_take (i := 1) (oi := ?oie1) (v := ?ve1) ?hie1 (by kernel_rfl) (by kernel_rfl) (by kernel_rfl) ?hQe1 ?hye1 (by assumption) ?hre1
            case hie1 => (simp only [List.getElem?_toArray, List.getElem?_cons_succ, List.getElem?_cons_zero]; rfl)
            case hQe1 => exact fun _ _ _ h => h
            case hye1 => (refine Or.inl ⟨by rfl, ?_⟩; intro w hSw; (try dsimp only at hSw); (go_simp <;> with_reducible rfl))
            (try simp only [Act.put, List.setIfInBounds_toArray, List.set_cons_zero, List.set_cons_succ])
            refine wpAnyH_ready (rs := [2]) (by kernel_rfl) (by simp) ?_
            refine AllReadyH.cons (o := ?oie2) ?hie2 ?hae2 AllReadyH.nil
            case hie2 => (simp only [List.getElem?_toArray, List.getElem?_cons_succ, List.getElem?_cons_zero]; rfl)
            intro K hK
            go_simp
            (go_at_call 35; refine (isFrame_spec _ _ _ _ _ _ _ rF.drew (by omega)).mono ?_; rintro e W3 ⟨rfl, b3⟩; rw [hfk]; replace KF := Lib.hid (KF.out.drew.belowSelf b3); replace OF := Lib.hid (OF.out.drew.below b3 (.inr (Nat.le_refl _))).leave; replace BF := Lib.hid (BF.out.drew.trans (b3.mono BF.out.drew.size)); clear b3; clear hfk; dsimp only)
            refine hK.out _ _ ((by first | exact ⟨KF.out.cell 0, KF.out.cell 1, KF.out.cell 2⟩ | exact ⟨(((KF.out.far (p := ⟨w.heap.size, 0, none⟩) hfw _).far (p := ⟨w.heap.size, 1, none⟩) hfw _).far (p := ⟨w.heap.size, 2, none⟩) hfw _).cell 0, (((KF.out.far (p := ⟨w.heap.size, 0, none⟩) hfw _).far (p := ⟨w.heap.size, 1, none⟩) hfw _).far (p := ⟨w.heap.size, 2, none⟩) hfw _).cell 1, (((KF.out.far (p := ⟨w.heap.size, 0, none⟩) hfw _).far (p := ⟨w.heap.size, 1, none⟩) hfw _).far (p := ⟨w.heap.size, 2, none⟩) hfw _).cell 2⟩)) (fun hHeld => ?_)
            clear hK K
            (try simp only [Act.put, List.setIfInBounds_toArray, List.set_cons_zero, List.set_cons_succ])
            refine wpAnyH_take (i := 3) (oi := ?oie3) (v := ?ve3) ?hie3 (by kernel_rfl) (by kernel_rfl) (by kernel_rfl) ?hQe3 ?hye3 (by assumption) ?hre3
            case hie3 => (simp only [List.getElem?_toArray, List.getElem?_cons_succ, List.getElem?_cons_zero]; rfl)
            case hQe3 => exact fun _ _ _ h => h
            case hye3 => (refine Or.inl ⟨by rfl, ?_⟩; intro w hSw; (try dsimp only at hSw); (go_simp <;> with_reducible rfl))
            (try simp only [Act.put, List.setIfInBounds_toArray, List.set_cons_zero, List.set_cons_succ])
            refine wpAnyH_take (i := 4) (oi := ?oie4) (v := ?ve4) ?hie4 (by kernel_rfl) (by kernel_rfl) (by kernel_rfl) ?hQe4 ?hye4 (by assumption) ?hre4
            case hie4 => (simp only [List.getElem?_toArray, List.getElem?_cons_succ, List.getElem?_cons_zero]; rfl)
            case hQe4 => exact fun _ _ _ h => h
            case hye4 => (refine Or.inl ⟨by rfl, ?_⟩; intro w hSw; (try dsimp only at hSw); (go_simp <;> with_reducible rfl))
            (try simp only [Act.put, List.setIfInBounds_toArray, List.set_cons_zero, List.set_cons_succ])
            refine wpAnyH_take (i := 6) (oi := ?oie6) (v := ?ve6) ?hie6 (by kernel_rfl) (by kernel_rfl) (by kernel_rfl) ?hQe6 ?hye6 (by assumption) ?hre6
            case hie6 => (simp only [List.getElem?_toArray, List.getElem?_cons_succ, List.getElem?_cons_zero]; rfl)
            case hQe6 => exact fun _ _ _ h => h
            case hye6 => (refine Or.inl ⟨by rfl, ?_⟩; intro w hSw; (try dsimp only at hSw); (go_simp <;> with_reducible rfl))
            (try simp only [Act.put, List.setIfInBounds_toArray, List.set_cons_zero, List.set_cons_succ])
            refine wpAnyH_ready (rs := [5]) (by kernel_rfl) (by simp) ?_
            refine AllReadyH.cons (o := ?oie5) ?hie5 ?hae5 AllReadyH.nil
            case hie5 => (simp only [List.getElem?_toArray, List.getElem?_cons_succ, List.getElem?_cons_zero]; rfl)
            intro K hK
            go_simp
            (go_at_call 44; refine (frame_spec _ _ _ _ _ _ _ OF.out.row HFK.out).mono ?_; rintro e W5 ⟨a8, n8, c8, rfl, O8, b5⟩; replace KF := Lib.hid (KF.out.belowSelf b5); replace OF := Lib.hid (OF.out.below b5 (.inr (Nat.le_refl _))).leave; replace BF := Lib.hid (BF.out.trans (b5.mono BF.out.size)); clear b5; have hn8 : n8 ≤ 1048576 := (by have h1 := O8.row.len; have h2 := frameL_le (k := x0) (m := x1) (frameOk_len HFK.out); omega); have r8 := O8.row; have rX := HX1.out.below BF.out (Nat.le_refl _); clear O8; dsimp only)
            refine hK.out _ _ ((by first | exact ⟨KF.out.cell 0, KF.out.cell 1, KF.out.cell 2⟩ | exact ⟨(((KF.out.far (p := ⟨w.heap.size, 0, none⟩) hfw _).far (p := ⟨w.heap.size, 1, none⟩) hfw _).far (p := ⟨w.heap.size, 2, none⟩) hfw _).cell 0, (((KF.out.far (p := ⟨w.heap.size, 0, none⟩) hfw _).far (p := ⟨w.heap.size, 1, none⟩) hfw _).far (p := ⟨w.heap.size, 2, none⟩) hfw _).cell 1, (((KF.out.far (p := ⟨w.heap.size, 0, none⟩) hfw _).far (p := ⟨w.heap.size, 1, none⟩) hfw _).far (p := ⟨w.heap.size, 2, none⟩) hfw _).cell 2⟩)) (fun hHeld => ?_)
            clear hK K
            (try simp only [Act.put, List.setIfInBounds_toArray, List.set_cons_zero, List.set_cons_succ])
            refine wpAnyH_ready (rs := [7]) (by kernel_rfl) (by simp) ?_
            refine AllReadyH.cons (o := ?oie7) ?hie7 ?hae7 AllReadyH.nil
            case hie7 => (simp only [List.getElem?_toArray, List.getElem?_cons_succ, List.getElem?_cons_zero]; rfl)
            intro K hK
            go_simp
            (go_at_call 78; refine (l01Same_any _ _ _ _ _ _ _ _ _ r8 rX hn8).mono ?_; rintro e W6 ⟨rfl, b6⟩; replace KF := Lib.hid (KF.out.belowSelf b6); replace OF := Lib.hid (OF.out.below b6 (.inr (Nat.le_refl _))).leave; replace BF := Lib.hid (BF.out.trans (b6.mono BF.out.size)); clear b6; clear r8 rX; have HZ := Lib.hid (HK1.out.below BF.out HK1.out.lt); have q0 : W6.cell? ⟨w.heap.size, 0, none⟩ = some (.int .i64 0) := HZ.out.cell 0; have q1 : W6.cell? ⟨w.heap.size, 1, none⟩ = some (.int .i64 0) := HZ.out.cell 1; have q2 : W6.cell? ⟨w.heap.size, 2, none⟩ = some (.slice none 0 0) := HZ.out.cell 2; have f0 := HZ.out.frozen 0; have f1 := HZ.out.frozen 1; have f2 := HZ.out.frozen 2; have hzl := HZ.out.lt; have HBW := Lib.hid (HKB.out.trans (BF.out.mono HKB.out.size)); have HF := Lib.hid (fun W4 e4 => read_fin0 (k := x0) (m := x1) (a := aC) (n := q - 4) (c := cC) (ys := pl) HZ.out rfl HBW.out (OF.out.mono (by have := hwW.out; omega) (Nat.le_refl _)) (W4 := W4) e4); rw [heq]; dsimp only)
            refine hK.out _ _ ((by first | exact ⟨KF.out.cell 0, KF.out.cell 1, KF.out.cell 2⟩ | exact ⟨(((KF.out.far (p := ⟨w.heap.size, 0, none⟩) hfw _).far (p := ⟨w.heap.size, 1, none⟩) hfw _).far (p := ⟨w.heap.size, 2, none⟩) hfw _).cell 0, (((KF.out.far (p := ⟨w.heap.size, 0, none⟩) hfw _).far (p := ⟨w.heap.size, 1, none⟩) hfw _).far (p := ⟨w.heap.size, 2, none⟩) hfw _).cell 1, (((KF.out.far (p := ⟨w.heap.size, 0, none⟩) hfw _).far (p := ⟨w.heap.size, 1, none⟩) hfw _).far (p := ⟨w.heap.size, 2, none⟩) hfw _).cell 2⟩)) (fun hHeld => ?_)
            clear hK K
            (try simp only [Act.put, List.setIfInBounds_toArray, List.set_cons_zero, List.set_cons_succ])
            refine wpAnyH_take (i := 8) (oi := ?oie8) (v := ?ve8) ?hie8 (by kernel_rfl) (by kernel_rfl) (by kernel_rfl) ?hQe8 ?hye8 (by assumption) ?hre8
            case hie8 => (simp only [List.getElem?_toArray, List.getElem?_cons_succ, List.getElem?_cons_zero]; rfl)
            case hQe8 => exact fun _ _ _ h => h
            case hye8 => (refine Or.inl ⟨by rfl, ?_⟩; intro w hSw; (try dsimp only at hSw); (go_simp <;> with_reducible rfl))
            (try simp only [Act.put, List.setIfInBounds_toArray, List.set_cons_zero, List.set_cons_succ])
            refine wpAnyH_ready (rs := [9]) (by kernel_rfl) (by simp) ?_
            refine AllReadyH.cons (o := ?oie9) ?hie9 ?hae9 AllReadyH.nil
            case hie9 => (simp only [List.getElem?_toArray, List.getElem?_cons_succ, List.getElem?_cons_zero]; rfl)
            intro K hK
            go_simp
            skip
            refine hK.out _ _ ((by first | exact ⟨KF.out.cell 0, KF.out.cell 1, KF.out.cell 2⟩ | exact ⟨(((KF.out.far (p := ⟨w.heap.size, 0, none⟩) hfw _).far (p := ⟨w.heap.size, 1, none⟩) hfw _).far (p := ⟨w.heap.size, 2, none⟩) hfw _).cell 0, (((KF.out.far (p := ⟨w.heap.size, 0, none⟩) hfw _).far (p := ⟨w.heap.size, 1, none⟩) hfw _).far (p := ⟨w.heap.size, 2, none⟩) hfw _).cell 1, (((KF.out.far (p := ⟨w.heap.size, 0, none⟩) hfw _).far (p := ⟨w.heap.size, 1, none⟩) hfw _).far (p := ⟨w.heap.size, 2, none⟩) hfw _).cell 2⟩)) (fun hHeld => ?_)
            clear hK K
            (try simp only [Act.put, List.setIfInBounds_toArray, List.set_cons_zero, List.set_cons_succ])
            refine wpAnyH_take (i := 10) (oi := ?oie10) (v := ?ve10) ?hie10 (by kernel_rfl) (by kernel_rfl) (by kernel_rfl) ?hQe10 ?hye10 (by assumption) ?hre10
            case hie10 => (simp only [List.getElem?_toArray, List.getElem?_cons_succ, List.getElem?_cons_zero]; rfl)
            case hQe10 => exact fun _ _ _ h => h
            case hye10 => (refine Or.inl ⟨by rfl, ?_⟩; intro w hSw; (try dsimp only at hSw); (go_simp <;> with_reducible rfl))
            (try simp only [Act.put, List.setIfInBounds_toArray, List.set_cons_zero, List.set_cons_succ])
            refine wpAnyH_done (by kernel_rfl) ?_ _
            go_wp2
            obtain ⟨z0, z1, z2, ho, hb⟩ := HF.out _ rfl
            exact bodyPost_ret (v := .tuple #[.agg #[.int .i64 x0, .int .i64 x1, .slice aC (q - 4) cC], .bool false]) (by simp only [results, Try.results47, Array.size]; simp [go_sem, z0, z1, z2]) rfl ⟨x0, x1, aC, q - 4, cC, pl, by rw [HRD.out]; rfl, ho, hb, (by intro f hf; rw [HRD.out] at hf; cases hf), by omega⟩
          · have HRD := Lib.hid (show readL xs = some (x0, x1, pl) by rw [HR.out, if_pos (by rw [HPT.out]; simp only [okL, heq, HFK.out]; rfl), HPT.out])
            go_wp2_with fail
            refine wp_region_held_drew (S := fun w' => w'.cell? ⟨fB, 0, none⟩ = some (.int .i64 x0) ∧ w'.cell? ⟨fB, 1, none⟩ = some (.int .i64 x1) ∧ w'.cell? ⟨fB, 2, none⟩ = some (.slice aC (q - 4) cC)) (by kernel_rfl) ((by first | exact ⟨KF.out.cell 0, KF.out.cell 1, KF.out.cell 2⟩ | exact ⟨(((KF.out.far (p := ⟨w.heap.size, 0, none⟩) hfw _).far (p := ⟨w.heap.size, 1, none⟩) hfw _).far (p := ⟨w.heap.size, 2, none⟩) hfw _).cell 0, (((KF.out.far (p := ⟨w.heap.size, 0, none⟩) hfw _).far (p := ⟨w.heap.size, 1, none⟩) hfw _).far (p := ⟨w.heap.size, 2, none⟩) hfw _).cell 1, (((KF.out.far (p := ⟨w.heap.size, 0, none⟩) hfw _).far (p := ⟨w.heap.size, 1, none⟩) hfw _).far (p := ⟨w.heap.size, 2, none⟩) hfw _).cell 2⟩)) (fun hHeld => ?_)
            refine wpAnyH_take (i := 0) (oi := ?oif0) (v := ?vf0) ?hif0 (by kernel_rfl) (by kernel_rfl) (by kernel_rfl) ?hQf0 ?hyf0 (by assumption) ?hrf0
            case hif0 => (simp only [List.getElem?_toArray, List.getElem?_cons_succ, List.getElem?_cons_zero]; rfl)
            case hQf0 => exact fun _ _ _ h => h
            case hyf0 => (refine Or.inl ⟨by rfl, ?_⟩; intro w hSw; (try dsimp only at hSw); (go_simp <;> with_reducible rfl))
            (try simp only [Act.put, List.setIfInBounds_toArray, List.set_cons_zero, List.set_cons_succ])
            refine wpAnyH_take (i := 1) (oi := ?oif1) (v := ?vf1) ?hif1 (by kernel_rfl) (by kernel_rfl) (by kernel_rfl) ?hQf1 ?hyf1 (by assumption) ?hrf1
            case hif1 => (simp only [List.getElem?_toArray, List.getElem?_cons_succ, List.getElem?_cons_zero]; rfl)
            case hQf1 => exact fun _ _ _ h => h
            case hyf1 => (refine Or.inl ⟨by rfl, ?_⟩; intro w hSw; (try dsimp only at hSw); (go_simp <;> with_reducible rfl))
            (try simp only [Act.put, List.setIfInBounds_toArray, List.set_cons_zero, List.set_cons_succ])
            refine wpAnyH_ready (rs := [2]) (by kernel_rfl) (by simp) ?_
            refine AllReadyH.cons (o := ?oif2) ?hif2 ?haf2 AllReadyH.nil
            case hif2 => (simp only [List.getElem?_toArray, List.getElem?_cons_succ, List.getElem?_cons_zero]; rfl)
            intro K hK
            go_simp
            (go_at_call 35; refine (isFrame_spec _ _ _ _ _ _ _ rF.drew (by omega)).mono ?_; rintro e W3 ⟨rfl, b3⟩; rw [hfk]; replace KF := Lib.hid (KF.out.drew.belowSelf b3); replace OF := Lib.hid (OF.out.drew.below b3 (.inr (Nat.le_refl _))).leave; replace BF := Lib.hid (BF.out.drew.trans (b3.mono BF.out.drew.size)); clear b3; clear hfk; dsimp only)
            refine hK.out _ _ ((by first | exact ⟨KF.out.cell 0, KF.out.cell 1, KF.out.cell 2⟩ | exact ⟨(((KF.out.far (p := ⟨w.heap.size, 0, none⟩) hfw _).far (p := ⟨w.heap.size, 1, none⟩) hfw _).far (p := ⟨w.heap.size, 2, none⟩) hfw _).cell 0, (((KF.out.far (p := ⟨w.heap.size, 0, none⟩) hfw _).far (p := ⟨w.heap.size, 1, none⟩) hfw _).far (p := ⟨w.heap.size, 2, none⟩) hfw _).cell 1, (((KF.out.far (p := ⟨w.heap.size, 0, none⟩) hfw _).far (p := ⟨w.heap.size, 1, none⟩) hfw _).far (p := ⟨w.heap.size, 2, none⟩) hfw _).cell 2⟩)) (fun hHeld => ?_)
            clear hK K
            (try simp only [Act.put, List.setIfInBounds_toArray, List.set_cons_zero, List.set_cons_succ])
            refine wpAnyH_take (i := 3) (oi := ?oif3) (v := ?vf3) ?hif3 (by kernel_rfl) (by kernel_rfl) (by kernel_rfl) ?hQf3 ?hyf3 (by assumption) ?hrf3
            case hif3 => (simp only [List.getElem?_toArray, List.getElem?_cons_succ, List.getElem?_cons_zero]; rfl)
            case hQf3 => exact fun _ _ _ h => h
            case hyf3 => (refine Or.inl ⟨by rfl, ?_⟩; intro w hSw; (try dsimp only at hSw); (go_simp <;> with_reducible rfl))
            (try simp only [Act.put, List.setIfInBounds_toArray, List.set_cons_zero, List.set_cons_succ])
            refine wpAnyH_take (i := 4) (oi := ?oif4) (v := ?vf4) ?hif4 (by kernel_rfl) (by kernel_rfl) (by kernel_rfl) ?hQf4 ?hyf4 (by assumption) ?hrf4
            case hif4 => (simp only [List.getElem?_toArray, List.getElem?_cons_succ, List.getElem?_cons_zero]; rfl)
            case hQf4 => exact fun _ _ _ h => h
            case hyf4 => (refine Or.inl ⟨by rfl, ?_⟩; intro w hSw; (try dsimp only at hSw); (go_simp <;> with_reducible rfl))
            (try simp only [Act.put, List.setIfInBounds_toArray, List.set_cons_zero, List.set_cons_succ])
            refine wpAnyH_take (i := 6) (oi := ?oif6) (v := ?vf6) ?hif6 (by kernel_rfl) (by kernel_rfl) (by kernel_rfl) ?hQf6 ?hyf6 (by assumption) ?hrf6
            case hif6 => (simp only [List.getElem?_toArray, List.getElem?_cons_succ, List.getElem?_cons_zero]; rfl)
            case hQf6 => exact fun _ _ _ h => h
            case hyf6 => (refine Or.inl ⟨by rfl, ?_⟩; intro w hSw; (try dsimp only at hSw); (go_simp <;> with_reducible rfl))
            (try simp only [Act.put, List.setIfInBounds_toArray, List.set_cons_zero, List.set_cons_succ])
            refine wpAnyH_ready (rs := [5]) (by kernel_rfl) (by simp) ?_
            refine AllReadyH.cons (o := ?oif5) ?hif5 ?haf5 AllReadyH.nil
            case hif5 => (simp only [List.getElem?_toArray, List.getElem?_cons_succ, List.getElem?_cons_zero]; rfl)
            intro K hK
            go_simp
            (go_at_call 44; refine (frame_spec _ _ _ _ _ _ _ OF.out.row HFK.out).mono ?_; rintro e W5 ⟨a8, n8, c8, rfl, O8, b5⟩; replace KF := Lib.hid (KF.out.belowSelf b5); replace OF := Lib.hid (OF.out.below b5 (.inr (Nat.le_refl _))).leave; replace BF := Lib.hid (BF.out.trans (b5.mono BF.out.size)); clear b5; have hn8 : n8 ≤ 1048576 := (by have h1 := O8.row.len; have h2 := frameL_le (k := x0) (m := x1) (frameOk_len HFK.out); omega); have r8 := O8.row; have rX := HX1.out.below BF.out (Nat.le_refl _); clear O8; dsimp only)
            refine hK.out _ _ ((by first | exact ⟨KF.out.cell 0, KF.out.cell 1, KF.out.cell 2⟩ | exact ⟨(((KF.out.far (p := ⟨w.heap.size, 0, none⟩) hfw _).far (p := ⟨w.heap.size, 1, none⟩) hfw _).far (p := ⟨w.heap.size, 2, none⟩) hfw _).cell 0, (((KF.out.far (p := ⟨w.heap.size, 0, none⟩) hfw _).far (p := ⟨w.heap.size, 1, none⟩) hfw _).far (p := ⟨w.heap.size, 2, none⟩) hfw _).cell 1, (((KF.out.far (p := ⟨w.heap.size, 0, none⟩) hfw _).far (p := ⟨w.heap.size, 1, none⟩) hfw _).far (p := ⟨w.heap.size, 2, none⟩) hfw _).cell 2⟩)) (fun hHeld => ?_)
            clear hK K
            (try simp only [Act.put, List.setIfInBounds_toArray, List.set_cons_zero, List.set_cons_succ])
            refine wpAnyH_ready (rs := [7]) (by kernel_rfl) (by simp) ?_
            refine AllReadyH.cons (o := ?oif7) ?hif7 ?haf7 AllReadyH.nil
            case hif7 => (simp only [List.getElem?_toArray, List.getElem?_cons_succ, List.getElem?_cons_zero]; rfl)
            intro K hK
            go_simp
            (go_at_call 78; refine (l01Same_any _ _ _ _ _ _ _ _ _ r8 rX hn8).mono ?_; rintro e W6 ⟨rfl, b6⟩; replace KF := Lib.hid (KF.out.belowSelf b6); replace OF := Lib.hid (OF.out.below b6 (.inr (Nat.le_refl _))).leave; replace BF := Lib.hid (BF.out.trans (b6.mono BF.out.size)); clear b6; clear r8 rX; have HZ := Lib.hid (HK1.out.below BF.out HK1.out.lt); have q0 : W6.cell? ⟨w.heap.size, 0, none⟩ = some (.int .i64 0) := HZ.out.cell 0; have q1 : W6.cell? ⟨w.heap.size, 1, none⟩ = some (.int .i64 0) := HZ.out.cell 1; have q2 : W6.cell? ⟨w.heap.size, 2, none⟩ = some (.slice none 0 0) := HZ.out.cell 2; have f0 := HZ.out.frozen 0; have f1 := HZ.out.frozen 1; have f2 := HZ.out.frozen 2; have hzl := HZ.out.lt; have HBW := Lib.hid (HKB.out.trans (BF.out.mono HKB.out.size)); have HF := Lib.hid (fun W4 e4 => read_fin0 (k := x0) (m := x1) (a := aC) (n := q - 4) (c := cC) (ys := pl) HZ.out rfl HBW.out (OF.out.mono (by have := hwW.out; omega) (Nat.le_refl _)) (W4 := W4) e4); rw [heq]; dsimp only)
            refine hK.out _ _ ((by first | exact ⟨KF.out.cell 0, KF.out.cell 1, KF.out.cell 2⟩ | exact ⟨(((KF.out.far (p := ⟨w.heap.size, 0, none⟩) hfw _).far (p := ⟨w.heap.size, 1, none⟩) hfw _).far (p := ⟨w.heap.size, 2, none⟩) hfw _).cell 0, (((KF.out.far (p := ⟨w.heap.size, 0, none⟩) hfw _).far (p := ⟨w.heap.size, 1, none⟩) hfw _).far (p := ⟨w.heap.size, 2, none⟩) hfw _).cell 1, (((KF.out.far (p := ⟨w.heap.size, 0, none⟩) hfw _).far (p := ⟨w.heap.size, 1, none⟩) hfw _).far (p := ⟨w.heap.size, 2, none⟩) hfw _).cell 2⟩)) (fun hHeld => ?_)
            clear hK K
            (try simp only [Act.put, List.setIfInBounds_toArray, List.set_cons_zero, List.set_cons_succ])
            refine wpAnyH_take (i := 8) (oi := ?oif8) (v := ?vf8) ?hif8 (by kernel_rfl) (by kernel_rfl) (by kernel_rfl) ?hQf8 ?hyf8 (by assumption) ?hrf8
            case hif8 => (simp only [List.getElem?_toArray, List.getElem?_cons_succ, List.getElem?_cons_zero]; rfl)
            case hQf8 => exact fun _ _ _ h => h
            case hyf8 => (refine Or.inl ⟨by rfl, ?_⟩; intro w hSw; (try dsimp only at hSw); (go_simp <;> with_reducible rfl))
            (try simp only [Act.put, List.setIfInBounds_toArray, List.set_cons_zero, List.set_cons_succ])
            refine wpAnyH_ready (rs := [9]) (by kernel_rfl) (by simp) ?_
            refine AllReadyH.cons (o := ?oif9) ?hif9 ?haf9 AllReadyH.nil
            case hif9 => (simp only [List.getElem?_toArray, List.getElem?_cons_succ, List.getElem?_cons_zero]; rfl)
            intro K hK
            go_simp
            skip
            refine hK.out _ _ ((by first | exact ⟨KF.out.cell 0, KF.out.cell 1, KF.out.cell 2⟩ | exact ⟨(((KF.out.far (p := ⟨w.heap.size, 0, none⟩) hfw _).far (p := ⟨w.heap.size, 1, none⟩) hfw _).far (p := ⟨w.heap.size, 2, none⟩) hfw _).cell 0, (((KF.out.far (p := ⟨w.heap.size, 0, none⟩) hfw _).far (p := ⟨w.heap.size, 1, none⟩) hfw _).far (p := ⟨w.heap.size, 2, none⟩) hfw _).cell 1, (((KF.out.far (p := ⟨w.heap.size, 0, none⟩) hfw _).far (p := ⟨w.heap.size, 1, none⟩) hfw _).far (p := ⟨w.heap.size, 2, none⟩) hfw _).cell 2⟩)) (fun hHeld => ?_)
            clear hK K
            (try simp only [Act.put, List.setIfInBounds_toArray, List.set_cons_zero, List.set_cons_succ])
            refine wpAnyH_take (i := 10) (oi := ?oif10) (v := ?vf10) ?hif10 (by kernel_rfl) (by kernel_rfl) (by kernel_rfl) ?hQf10 ?hyf10 (by assumption) ?hrf10
            case hif10 => (simp only [List.getElem?_toArray, List.getElem?_cons_succ, List.getElem?_cons_zero]; rfl)
            case hQf10 => exact fun _ _ _ h => h
            case hyf10 => (refine Or.inl ⟨by rfl, ?_⟩; intro w hSw; (try dsimp only at hSw); (go_simp <;> with_reducible rfl))
            (try simp only [Act.put, List.setIfInBounds_toArray, List.set_cons_zero, List.set_cons_succ])
            refine wpAnyH_done (by kernel_rfl) ?_ _
            go_wp2
            obtain ⟨z0, z1, z2, ho, hb⟩ := HF.out _ rfl
            exact bodyPost_ret (v := .tuple #[.agg #[.int .i64 x0, .int .i64 x1, .slice aC (q - 4) cC], .bool true]) (by simp only [results, Try.results47, Array.size]; simp [go_sem, z0, z1, z2]) rfl ⟨x0, x1, aC, q - 4, cC, pl, by rw [HRD.out]; rfl, ho, hb, (by intro f hf; rw [HRD.out] at hf; injection hf with hf; exact hf.symm), by omega⟩
end Go.Proofs.Ytmljcbfpennjkaa
