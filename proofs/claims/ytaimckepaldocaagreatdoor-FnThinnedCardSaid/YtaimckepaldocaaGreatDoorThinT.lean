/- ThinSoundings as the specification has it. -/
import Derived.Test.YtaimckepaldocaaGreatDoorThin
import Derived.Test.YtaimckepaldocaaGreatDoorLike
import Derived.Deep.Cut
import Derived.Handy
namespace Go.Proofs.YtaimckepaldocaaGreatDoor
open Go.RowKit
set_option maxRecDepth 100000
set_option linter.unusedVariables false
set_option linter.unusedSimpArgs false
set_option linter.unusedVariables false

set_option maxHeartbeats 6400000 in
theorem thin_spec (a0 : Option Addr) (n c0 : Nat) (ss : List I4) (z : Int) (w : World) (h : Row w 4 a0 n (frs ss)) (hn : n ≤ 1048576) :
    Calls Tryz.prog 7 #[.slice a0 n c0, .int .i64 z] w fun e w' => ∃ a q cp, e = .returned (.tuple #[.slice a q cp, .int .i64 (thin ss z).2]) ∧ Own w' w.heap.size w'.heap.size 2 1 a q cp (ints (thin ss z).1) ∧ Below w.heap.size w w' := by
  have H := Lib.hid h
  have hfd := field_low
  clear h
  go_enter Tryz.func7, Tryz.ntmps7
  go_wp2_with fail
  go_at_call 16
  refine (areSoundings_spec _ _ _ _ _ H.out hn).mono ?_
  rintro e w1 ⟨rfl, hb⟩
  have B0 := Lib.hid hb
  have H1 := Lib.hid (H.out.below4 hb (Nat.le_refl _))
  clear hb H
  cases hok : sndsOk ss with
  | false =>
    have he := Lib.hid (show thin ss z = ([], 1) by rw [thin, hok]; rfl)
    clear hok
    go_wp2
    go_returns
    exact ⟨none, 0, 0, by rw [he.out]; rfl, by rw [he.out]; exact Own.nil_ _ _ _ _ _, B0.out⟩
  | true =>
    have HOK := Lib.hid hok
    have hn2 := sndsOk_len hok H1.out.len4
    go_wp2_with fail
    go_at_call 24
    refine (l01In_any _ _ _ _).mono ?_
    rintro e w2 ⟨rfl, rfl⟩
    cases hz : inR 1 10000 z with
    | false =>
      have he := Lib.hid (show thin ss z = ([], 2) by rw [thin, hok, hz]; rfl)
      clear hok hz
      go_wp2
      go_returns
      exact ⟨none, 0, 0, by rw [he.out]; rfl, by rw [he.out]; exact Own.nil_ _ _ _ _ _, B0.out⟩
    | true =>
      have he := Lib.hid (show thin ss z = (thinL ss z, 0) by rw [thin, hok, hz]; rfl)
      have hz1 : 1 ≤ z ∧ z ≤ 10000 := by simpa [inR] using hz
      clear hok hz
      have O0 := Lib.hid ((Own.lit0 w1 2 1).mono (lo' := w1.heap.size) (hi' := (w1.alloc (.cells #[] 2)).heap.size) (by omega) (by simp))
      have B1 := (Below.refl w1.heap.size w1).alloc (Nat.le_refl _) (.cells #[] 2)
      have hz0 : (z == 0) = false := by simp; omega
      have hzn : ¬ z = 0 := by omega
      go_wp2
      go_loopw [6, 7, 8, 9, 10, 11, 12] (fun o i _ _ _ _ _ wr => ∃ (k q cp : Nat) (a : Option Addr), o = .slice a q cp ∧ i = .int .i64 k ∧ k ≤ n ∧ q ≤ k ∧ Hid (Own wr w1.heap.size wr.heap.size 2 1 a q cp (ints (pick (fun i => keepTo ss z i ss.length) k))) ∧ Below w1.heap.size w1 wr) (fun _ i _ _ _ _ _ _ => n - (intOf i).toNat)
      case atStart => exact ⟨0, 0, 0, _, rfl, rfl, by omega, by omega, O0, B1⟩
      case round =>
        clear O0 B1
        obtain ⟨i, q, cp, a, rfl, rfl, hi, hq, HO, B⟩ := hrel
        have hzB := B.size
        by_cases hlt : i < n
        · have hiI : (i : Int) < (n : Int) := by omega
          obtain ⟨b, off, x, y, d, e, rfl, -, hx⟩ := (H1.out.below4 B (Nat.le_refl _)).at4 hlt
          obtain ⟨x0, y0, d0, e0⟩ := sndOk_bd (sndsOk_get HOK.out hx.out)
          have HX := Lib.hid hx.out
          have HI := Lib.hid (at4_get hx.out)
          clear hx
          obtain ⟨w4, rfl⟩ : ∃ w4 : World, w4 = wr := ⟨_, rfl⟩
          obtain ⟨qx, hqx⟩ : ∃ qx, x / z = qx := ⟨_, rfl⟩
          obtain ⟨qy, hqy⟩ : ∃ qy, y / z = qy := ⟨_, rfl⟩
          have HQX := Lib.hid hqx
          have HQY := Lib.hid hqy
          have hqb : 0 ≤ qx ∧ qx ≤ 10000 ∧ 0 ≤ qy ∧ qy ≤ 10000 := by
            rw [← hqx, ← hqy]
            exact ⟨Int.ediv_nonneg (by omega) (by omega), Int.le_trans (Int.ediv_le_self _ (by omega)) (by omega), Int.ediv_nonneg (by omega) (by omega), Int.le_trans (Int.ediv_le_self _ (by omega)) (by omega)⟩
          go_wp2
          go_loopw [8, 9, 10, 11, 12] (fun kp j _ _ _ wi => ∃ k : Nat, kp = .bool (keepTo ss z i k) ∧ j = .int .i64 k ∧ k ≤ n ∧ Below w4.heap.size w4 wi) (fun _ j _ _ _ _ => n - (intOf j).toNat)
          case atStart => exact ⟨0, rfl, rfl, by omega, Below.refl _ _⟩
          case round =>
            obtain ⟨k, rfl, rfl, hk, B2⟩ := hrel
            by_cases hlk : k < n
            · have hkI : (k : Int) < (n : Int) := by omega
              have hks := H1.out.len4
              obtain ⟨⟨x', y', d', e'⟩, hx'⟩ : ∃ t, ss[k]? = some t := ⟨_, List.getElem?_eq_getElem (by omega)⟩
              obtain ⟨x1, y1, d1, e1⟩ := sndOk_bd (sndsOk_get HOK.out hx')
              have HX' := Lib.hid hx'
              have HK := Lib.hid (at4_get hx')
              have BB := B.trans (B2.mono B.size)
              have RR := Lib.hid (H1.out.below4 BB (Nat.le_refl _))
              clear hx' hks
              obtain ⟨g0, g1, g2, g3⟩ := RR.out.get4_ HX.out
              obtain ⟨f0, f1, f2, f3⟩ := RR.out.get4_ HX'.out
              obtain ⟨px, hpx⟩ : ∃ px, x' / z = px := ⟨_, rfl⟩
              obtain ⟨py, hpy⟩ : ∃ py, y' / z = py := ⟨_, rfl⟩
              have HPX := Lib.hid hpx
              have HPY := Lib.hid hpy
              have hpb : 0 ≤ px ∧ px ≤ 10000 ∧ 0 ≤ py ∧ py ≤ 10000 := by
                rw [← hpx, ← hpy]
                exact ⟨Int.ediv_nonneg (by omega) (by omega), Int.le_trans (Int.ediv_le_self _ (by omega)) (by omega), Int.ediv_nonneg (by omega) (by omega), Int.le_trans (Int.ediv_le_self _ (by omega)) (by omega)⟩
              have HS := Lib.hid (show sq z (at4 ss k) = (px, py) ∧ sq z (at4 ss i) = (qx, qy) by rw [HK.out, HI.out]; exact ⟨by simp only [sq]; rw [hpx, hpy], by simp only [sq]; rw [HQX.out, HQY.out]⟩)
              by_cases hx1 : px = qx
              · by_cases hy1 : py = qy
                · have hxt : (px == qx) = true := by simpa using hx1
                  have hyt : (py == qy) = true := by simpa using hy1
                  have hsq := Lib.hid (show sq z (at4 ss k) = sq z (at4 ss i) by rw [HS.out.1, HS.out.2, hx1, hy1])
                  have hlo := Lib.hid (show lowOf (at4 ss k) = d' - e' ∧ lowOf (at4 ss i) = d - e by rw [HK.out, HI.out]; exact ⟨rfl, rfl⟩)
                  by_cases hl : d' - e' < d - e
                  · have hbt := Lib.hid (beats_yes1 (ss := ss) (z := z) (i := i) (j := k) hsq.out (by rw [hlo.out.1, hlo.out.2]; exact hl))
                    clear hsq hlo HS HK
                    go_wp2_with fail
                    go_quiet (fail)
                    have B3 := bdnG B2 nq
                    have R3 := Lib.hid (RR.out.drewN nq)
                    clear g0 g1 g2 g3 f0 f1 f2 f3 RR
                    go_wp2_with fail
                    replace B3 := B3.drew
                    replace R3 := Lib.hid R3.out.drew
                    go_region_held3 (fun w' => w'.cell? ⟨b, off + k * 4, none⟩ = some (.int .i64 x') ∧ w'.cell? ⟨b, off + k * 4 + 1, none⟩ = some (.int .i64 y') ∧ w'.cell? ⟨b, off + k * 4 + 2, none⟩ = some (.int .i64 d') ∧ w'.cell? ⟨b, off + k * 4 + 3, none⟩ = some (.int .i64 e') ∧ w'.cell? ⟨b, off + i * 4, none⟩ = some (.int .i64 x) ∧ w'.cell? ⟨b, off + i * 4 + 1, none⟩ = some (.int .i64 y) ∧ w'.cell? ⟨b, off + i * 4 + 2, none⟩ = some (.int .i64 d) ∧ w'.cell? ⟨b, off + i * 4 + 3, none⟩ = some (.int .i64 e)) (exact ⟨(R3.out.get4_ HX'.out).1, (R3.out.get4_ HX'.out).2.1, (R3.out.get4_ HX'.out).2.2.1, (R3.out.get4_ HX'.out).2.2.2, R3.out.get4_ HX.out⟩) (first | (go_at_call 25; refine (l21Bounds_any _ _ _ _ _ (by omega) (by omega)).mono ?_; rintro e9 w9 ⟨rfl, hb⟩; replace B3 := B3.trans (hb.mono B3.size); replace R3 := Lib.hid (R3.out.below4 hb (Nat.le_refl _)); clear hb))
                    all_goals (
                      go_wp2
                      go_roundw
                      case rel => exact ⟨k + 1, by rw [keepTo_succ, hbt.out]; simp, by go_num, by omega, B3⟩
                      case measure => simp [intOf] <;> omega)
                  · by_cases he1 : d' - e' = d - e
                    · have he1t : (d' - e' == d - e) = true := by simpa using he1
                      by_cases hki : k < i
                      · have hbt := Lib.hid (beats_yes2 (ss := ss) (z := z) (i := i) (j := k) hsq.out (by rw [hlo.out.1, hlo.out.2]; exact he1) hki)
                        have hkiI : (k : Int) < (i : Int) := by omega
                        clear hsq hlo HS HK he1
                        go_wp2_with fail
                        go_quiet (fail)
                        have B3 := bdnG B2 nq
                        have R3 := Lib.hid (RR.out.drewN nq)
                        clear g0 g1 g2 g3 f0 f1 f2 f3 RR
                        go_wp2_with fail
                        replace B3 := B3.drew
                        replace R3 := Lib.hid R3.out.drew
                        go_region_held3 (fun w' => w'.cell? ⟨b, off + k * 4, none⟩ = some (.int .i64 x') ∧ w'.cell? ⟨b, off + k * 4 + 1, none⟩ = some (.int .i64 y') ∧ w'.cell? ⟨b, off + k * 4 + 2, none⟩ = some (.int .i64 d') ∧ w'.cell? ⟨b, off + k * 4 + 3, none⟩ = some (.int .i64 e') ∧ w'.cell? ⟨b, off + i * 4, none⟩ = some (.int .i64 x) ∧ w'.cell? ⟨b, off + i * 4 + 1, none⟩ = some (.int .i64 y) ∧ w'.cell? ⟨b, off + i * 4 + 2, none⟩ = some (.int .i64 d) ∧ w'.cell? ⟨b, off + i * 4 + 3, none⟩ = some (.int .i64 e)) (exact ⟨(R3.out.get4_ HX'.out).1, (R3.out.get4_ HX'.out).2.1, (R3.out.get4_ HX'.out).2.2.1, (R3.out.get4_ HX'.out).2.2.2, R3.out.get4_ HX.out⟩) (first | (go_at_call 25; refine (l21Bounds_any _ _ _ _ _ (by omega) (by omega)).mono ?_; rintro e9 w9 ⟨rfl, hb⟩; replace B3 := B3.trans (hb.mono B3.size); replace R3 := Lib.hid (R3.out.below4 hb (Nat.le_refl _)); clear hb))
                        all_goals (
                          go_wp2
                          go_roundw
                          case rel => exact ⟨k + 1, by rw [keepTo_succ, hbt.out]; simp, by go_num, by omega, B3⟩
                          case measure => simp [intOf] <;> omega)
                      · have hbt := Lib.hid (beats_no3 (ss := ss) (z := z) (i := i) (j := k) (by rw [hlo.out.1, hlo.out.2]; exact hl) hki)
                        have hkiI : ¬ (k : Int) < (i : Int) := by omega
                        clear hsq hlo HS HK he1
                        go_wp2_with fail
                        go_quiet (fail)
                        have B3 := bdnG B2 nq
                        have R3 := Lib.hid (RR.out.drewN nq)
                        clear g0 g1 g2 g3 f0 f1 f2 f3 RR
                        go_wp2_with fail
                        replace B3 := B3.drew
                        replace R3 := Lib.hid R3.out.drew
                        go_region_held3 (fun w' => w'.cell? ⟨b, off + k * 4, none⟩ = some (.int .i64 x') ∧ w'.cell? ⟨b, off + k * 4 + 1, none⟩ = some (.int .i64 y') ∧ w'.cell? ⟨b, off + k * 4 + 2, none⟩ = some (.int .i64 d') ∧ w'.cell? ⟨b, off + k * 4 + 3, none⟩ = some (.int .i64 e') ∧ w'.cell? ⟨b, off + i * 4, none⟩ = some (.int .i64 x) ∧ w'.cell? ⟨b, off + i * 4 + 1, none⟩ = some (.int .i64 y) ∧ w'.cell? ⟨b, off + i * 4 + 2, none⟩ = some (.int .i64 d) ∧ w'.cell? ⟨b, off + i * 4 + 3, none⟩ = some (.int .i64 e)) (exact ⟨(R3.out.get4_ HX'.out).1, (R3.out.get4_ HX'.out).2.1, (R3.out.get4_ HX'.out).2.2.1, (R3.out.get4_ HX'.out).2.2.2, R3.out.get4_ HX.out⟩) (first | (go_at_call 25; refine (l21Bounds_any _ _ _ _ _ (by omega) (by omega)).mono ?_; rintro e9 w9 ⟨rfl, hb⟩; replace B3 := B3.trans (hb.mono B3.size); replace R3 := Lib.hid (R3.out.below4 hb (Nat.le_refl _)); clear hb))
                        all_goals (
                          go_wp2
                          go_roundw
                          case rel => exact ⟨k + 1, by rw [keepTo_succ, hbt.out]; simp, by go_num, by omega, B3⟩
                          case measure => simp [intOf] <;> omega)
                    · have he1f : (d' - e' == d - e) = false := by simpa using he1
                      have hbt := Lib.hid (beats_no2 (ss := ss) (z := z) (i := i) (j := k) (by rw [hlo.out.1, hlo.out.2]; exact hl) (by rw [hlo.out.1, hlo.out.2]; exact he1))
                      clear hsq hlo HS HK he1
                      go_wp2_with fail
                      go_quiet (fail)
                      have B3 := bdnG B2 nq
                      have R3 := Lib.hid (RR.out.drewN nq)
                      clear g0 g1 g2 g3 f0 f1 f2 f3 RR
                      go_wp2_with fail
                      replace B3 := B3.drew
                      replace R3 := Lib.hid R3.out.drew
                      go_region_held3 (fun w' => w'.cell? ⟨b, off + k * 4, none⟩ = some (.int .i64 x') ∧ w'.cell? ⟨b, off + k * 4 + 1, none⟩ = some (.int .i64 y') ∧ w'.cell? ⟨b, off + k * 4 + 2, none⟩ = some (.int .i64 d') ∧ w'.cell? ⟨b, off + k * 4 + 3, none⟩ = some (.int .i64 e') ∧ w'.cell? ⟨b, off + i * 4, none⟩ = some (.int .i64 x) ∧ w'.cell? ⟨b, off + i * 4 + 1, none⟩ = some (.int .i64 y) ∧ w'.cell? ⟨b, off + i * 4 + 2, none⟩ = some (.int .i64 d) ∧ w'.cell? ⟨b, off + i * 4 + 3, none⟩ = some (.int .i64 e)) (exact ⟨(R3.out.get4_ HX'.out).1, (R3.out.get4_ HX'.out).2.1, (R3.out.get4_ HX'.out).2.2.1, (R3.out.get4_ HX'.out).2.2.2, R3.out.get4_ HX.out⟩) (first | (go_at_call 25; refine (l21Bounds_any _ _ _ _ _ (by omega) (by omega)).mono ?_; rintro e9 w9 ⟨rfl, hb⟩; replace B3 := B3.trans (hb.mono B3.size); replace R3 := Lib.hid (R3.out.below4 hb (Nat.le_refl _)); clear hb))
                      all_goals (
                        go_wp2
                        go_roundw
                        case rel => exact ⟨k + 1, by rw [keepTo_succ, hbt.out]; simp, by go_num, by omega, B3⟩
                        case measure => simp [intOf] <;> omega)
                · have hxt : (px == qx) = true := by simpa using hx1
                  have hyf : (py == qy) = false := by simpa using hy1
                  have hbt := Lib.hid (beats_no1 (ss := ss) (z := z) (i := i) (j := k) (by rw [HS.out.1, HS.out.2]; intro h; exact hy1 (congrArg Prod.snd h)))
                  clear HS HK
                  go_wp2_with fail
                  go_quiet (fail)
                  have B3 := bdnG B2 nq
                  have R3 := Lib.hid (RR.out.drewN nq)
                  clear g0 g1 g2 g3 f0 f1 f2 f3 RR
                  go_wp2_with fail
                  replace B3 := B3.drew
                  replace R3 := Lib.hid R3.out.drew
                  go_region_held3 (fun w' => w'.cell? ⟨b, off + k * 4, none⟩ = some (.int .i64 x') ∧ w'.cell? ⟨b, off + k * 4 + 1, none⟩ = some (.int .i64 y') ∧ w'.cell? ⟨b, off + k * 4 + 2, none⟩ = some (.int .i64 d') ∧ w'.cell? ⟨b, off + k * 4 + 3, none⟩ = some (.int .i64 e') ∧ w'.cell? ⟨b, off + i * 4, none⟩ = some (.int .i64 x) ∧ w'.cell? ⟨b, off + i * 4 + 1, none⟩ = some (.int .i64 y) ∧ w'.cell? ⟨b, off + i * 4 + 2, none⟩ = some (.int .i64 d) ∧ w'.cell? ⟨b, off + i * 4 + 3, none⟩ = some (.int .i64 e)) (exact ⟨(R3.out.get4_ HX'.out).1, (R3.out.get4_ HX'.out).2.1, (R3.out.get4_ HX'.out).2.2.1, (R3.out.get4_ HX'.out).2.2.2, R3.out.get4_ HX.out⟩) (first | (go_at_call 25; refine (l21Bounds_any _ _ _ _ _ (by omega) (by omega)).mono ?_; rintro e9 w9 ⟨rfl, hb⟩; replace B3 := B3.trans (hb.mono B3.size); replace R3 := Lib.hid (R3.out.below4 hb (Nat.le_refl _)); clear hb))
                  all_goals (
                    go_wp2
                    go_roundw
                    case rel => exact ⟨k + 1, by rw [keepTo_succ, hbt.out]; simp, by go_num, by omega, B3⟩
                    case measure => simp [intOf] <;> omega)
              · have hxf : (px == qx) = false := by simpa using hx1
                have hbt := Lib.hid (beats_no1 (ss := ss) (z := z) (i := i) (j := k) (by rw [HS.out.1, HS.out.2]; intro h; exact hx1 (congrArg Prod.fst h)))
                clear HS HK
                go_wp2_with fail
                go_quiet (fail)
                have B3 := bdnG B2 nq
                have R3 := Lib.hid (RR.out.drewN nq)
                clear g0 g1 g2 g3 f0 f1 f2 f3 RR
                go_wp2_with fail
                replace B3 := B3.drew
                replace R3 := Lib.hid R3.out.drew
                go_region_held3 (fun w' => w'.cell? ⟨b, off + k * 4, none⟩ = some (.int .i64 x') ∧ w'.cell? ⟨b, off + k * 4 + 1, none⟩ = some (.int .i64 y') ∧ w'.cell? ⟨b, off + k * 4 + 2, none⟩ = some (.int .i64 d') ∧ w'.cell? ⟨b, off + k * 4 + 3, none⟩ = some (.int .i64 e') ∧ w'.cell? ⟨b, off + i * 4, none⟩ = some (.int .i64 x) ∧ w'.cell? ⟨b, off + i * 4 + 1, none⟩ = some (.int .i64 y) ∧ w'.cell? ⟨b, off + i * 4 + 2, none⟩ = some (.int .i64 d) ∧ w'.cell? ⟨b, off + i * 4 + 3, none⟩ = some (.int .i64 e)) (exact ⟨(R3.out.get4_ HX'.out).1, (R3.out.get4_ HX'.out).2.1, (R3.out.get4_ HX'.out).2.2.1, (R3.out.get4_ HX'.out).2.2.2, R3.out.get4_ HX.out⟩) (first | (go_at_call 25; refine (l21Bounds_any _ _ _ _ _ (by omega) (by omega)).mono ?_; rintro e9 w9 ⟨rfl, hb⟩; replace B3 := B3.trans (hb.mono B3.size); replace R3 := Lib.hid (R3.out.below4 hb (Nat.le_refl _)); clear hb))
                all_goals (
                  go_wp2
                  go_roundw
                  case rel => exact ⟨k + 1, by rw [keepTo_succ, hbt.out]; simp, by go_num, by omega, B3⟩
                  case measure => simp [intOf] <;> omega)
            · obtain rfl : k = n := by omega
              have hkl := Lib.hid (show ss.length = k from H1.out.len4)
              have hzz := B2.size
              have HO2 := Lib.hid (HO.out.below B2 (.inr (Nat.le_refl _))).leave
              have B5 := B.trans (B2.mono B.size)
              clear hqx hqy
              cases hkp : keepTo ss z i k with
              | false =>
                have hpk := Lib.hid (pick_no (p := fun i => keepTo ss z i ss.length) (k := i) (by rw [hkl.out]; exact hkp))
                clear hkp
                go_wp2
                go_roundw
                case rel => exact ⟨i + 1, q, cp, a, rfl, by go_num, by omega, by omega, Lib.hid (by rw [hpk.out]; exact HO2.out), B5⟩
                case measure => simp [intOf] <;> omega
              | true =>
                have hpk := Lib.hid (pick_yes (p := fun i => keepTo ss z i ss.length) (k := i) (by rw [hkl.out]; exact hkp))
                clear hkp
                have hz5 := B5.size
                go_wp2_with (at_builtin; refine wpList_app _ rfl (.tmp 93) (.tmp 95) _ rfl Tryz.underlying27 info_i64 rfl (by decide) rfl (HO2.out.alloc _) rfl (Row.one _ _ _) (ints_one [(i : Int)]) (by decide) (by simp only [maxLen]; omega) (by omega) (by simp; omega) ?_; intro A2 c2 w9 hown9 hb9 hg9)
                have O9 := Lib.hid (show Own w9 w1.heap.size w9.heap.size 2 1 A2 (q + 1) c2 (ints (pick (fun i => keepTo ss z i ss.length) (i + 1))) by rw [hpk.out, ints_app]; exact hown9)
                have B9 := (B5.alloc B5.size (.cells #[.int .i64 (i : Int)] 2)).trans hb9
                clear hown9 hg9 HO HO2 hb9
                go_roundw
                case rel => exact ⟨i + 1, q + 1, c2, A2, rfl, by go_num, by omega, by omega, O9, B9⟩
                case measure => simp [intOf] <;> omega
        · obtain rfl : i = n := by omega
          have hkl := H1.out.len4
          have hE := Lib.hid (show (thin ss z).1 = pick (fun j => keepTo ss z j ss.length) i by rw [he.out, ← hkl]; rfl)
          have hE2 := Lib.hid (show (thin ss z).2 = 0 by rw [he.out])
          clear hkl
          go_wp2
          go_returns
          exact ⟨a, q, cp, by rw [hE2.out]; rfl, by rw [hE.out]; exact HO.out.mono B0.out.size (Nat.le_refl _), B0.out.trans (B.mono B0.out.size)⟩
end Go.Proofs.YtaimckepaldocaaGreatDoor
