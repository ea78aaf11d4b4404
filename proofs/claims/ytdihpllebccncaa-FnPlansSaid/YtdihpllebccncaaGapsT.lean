/- The reference's gaps of a width: the loop over the units; IsCovered and GapsOf. -/
import Derived.Test.YtdihpllebccncaaGapsS
namespace Go.Proofs.Ytdihpllebccncaa
open Go.RowKit
set_option maxRecDepth 100000
set_option linter.unusedVariables false

theorem stepG_unit {ss : List I2} {k : Int} {out : List I2} (h : unitB ss k = true) : stepG ss k out = out := by simp [stepG, h]
theorem stepG_nil0 {ss : List I2} {k : Int} (h : unitB ss k = false) : stepG ss k [] = [] ++ [(k, k + 1)] := by simp [stepG, h]
theorem stepG_new {ss : List I2} {k u v : Int} {l : List I2} (h : unitB ss k = false) (hv : v ≠ k ∨ touchB ss k = true) : stepG ss k (l ++ [(u, v)]) = (l ++ [(u, v)]) ++ [(k, k + 1)] := by
  simp only [stepG, h, Bool.false_eq_true, if_false, List.getLast?_concat]
  rw [if_neg]
  rintro ⟨h1, h2⟩
  rcases hv with hv | hv
  · exact hv h1
  · rw [h2] at hv; cases hv
theorem stepG_ext {ss : List I2} {k u : Int} {l : List I2} (h : unitB ss k = false) (ht : touchB ss k = false) : stepG ss k (l ++ [(u, k)]) = l ++ [(u, k + 1)] := by
  simp [stepG, h, ht]
theorem prs_setLast {l : List I2} {u v z : Int} {q : Nat} (hq : l.length = q) : (prs (l ++ [(u, v)])).set (q * 2 + 1) (.int .i64 z) = prs (l ++ [(u, z)]) := by
  have hlen : (prs l).length = q * 2 := by rw [prs_length, hq]
  rw [prs_app, prs_app, List.set_append_right _ _ (by omega), hlen, show q * 2 + 1 - q * 2 = 1 by omega]
  rfl

set_option maxHeartbeats 6400000 in
theorem l24Gaps_any (W : Int) (a : Option Addr) (n c : Nat) (ss : List I2) (w : World) (h : Row w 2 a n (prs ss)) (hs : spansOk ss = true) (hW : 1 ≤ W ∧ W ≤ 10000) :
    Calls Try.prog 34 #[.int .i64 W, .slice a n c] w fun e w' => ∃ a' n' c', e = .returned (.slice a' n' c') ∧ Own w' w.heap.size w'.heap.size 55 2 a' n' c' (prs (gapsL W ss)) ∧ Below w.heap.size w w' := by
  obtain ⟨N, rfl⟩ := Int.eq_ofNat_of_zero_le (show 0 ≤ W by omega)
  have hN : 1 ≤ N ∧ N ≤ 10000 := by omega
  have hG := Lib.hid (show unitsG ss N 0 [] = gapsL N ss from rfl)
  generalize gapsL (N : Int) ss = G at *
  have HS := Lib.hid hs
  have B0 := (Below.refl w.heap.size w).alloc (Nat.le_refl _) (.cells #[] 55)
  have O0 := Lib.hid ((Own.lit0 w 55 2).mono (Nat.le_refl _) (show w.heap.size + 1 ≤ (w.alloc (.cells #[] 55)).heap.size by simp))
  clear hs hW
  go_enter Try.func34, Try.ntmps34
  go_wp2
  go_loopw [5, 6, 7] (fun o i _ wr => ∃ (k q cp : Nat) (a' : Option Addr) (ys : List I2), i = .int .i64 k ∧ o = .slice a' q cp ∧ k ≤ N ∧ q ≤ k ∧ Hid (Own wr w.heap.size wr.heap.size 55 2 a' q cp (prs ys)) ∧ Hid (unitsG ss k 0 [] = ys) ∧ Below w.heap.size w wr) (fun _ i _ _ => N - (intOf i).toNat)
  case atStart => exact ⟨0, 0, 0, _, [], rfl, rfl, by omega, by omega, O0, rfl, B0⟩
  case round =>
    clear B0 O0
    obtain ⟨k, q, cp, a', ys, rfl, rfl, hk, hq, HO, HU, B⟩ := hrel
    by_cases hlt : k < N
    · have hkI : (k : Int) < (N : Int) := by omega
      have hst := Lib.hid ((unitsG_snoc ss k 0 []).trans (by rw [HU.out, Int.zero_add]) : unitsG ss (k + 1) 0 [] = stepG ss k ys)
      clear HU
      go_wp2_with fail
      go_at_call 59
      refine (l24Unit_any _ _ _ _ _ _ (h.below2 B (Nat.le_refl _)) HS.out (by omega)).mono ?_
      rintro e w1 ⟨rfl, hb⟩
      replace B := B.trans (hb.mono B.size)
      replace HO := Lib.hid ((HO.out.below hb (.inr (Nat.le_refl _))).mono (Nat.le_refl _) hb.size)
      clear hb
      cases hu : unitB ss k
      · have HN := Lib.hid hu
        clear hu
        have Hz := B.size
        by_cases hq0 : q = 0
        · subst hq0
          have hys : ys = [] := by have := HO.out.row.len2; exact List.eq_nil_of_length_eq_zero this
          subst hys
          have hst2 := Lib.hid (hst.out.trans (stepG_nil0 HN.out))
          clear hst
          go_wp2_with (at_builtin; refine wpList_app _ rfl (.tmp 44) (.tmp 49) _ rfl Try.underlying30 info_Interval rfl (by decide) rfl (HO.out.alloc _) rfl (by exact Row.litK _ (prs [((k : Int), (k : Int) + 1)]) _ _ 1 2 (by simp) (by rfl)) (prs_one [((k : Int), (k : Int) + 1)]) (by decide) (by simp only [maxLen]; omega) (by omega) (by simp; omega) ?_; intro A2 c2 w9 hown9 hb9 hg9)
          go_roundw
          case rel => exact ⟨k + 1, 0 + 1, c2, A2, [] ++ [((k : Int), (k : Int) + 1)], by go_num, rfl, by omega, by omega, by rw [prs_app]; exact hown9, hst2, (B.alloc B.size _).trans hb9⟩
          case measure => simp [intOf]; omega
        · obtain ⟨q', rfl⟩ : ∃ q', q = q' + 1 := ⟨q - 1, by omega⟩
          clear hq0
          have hly : ys.length = q' + 1 := HO.out.row.len2
          obtain ⟨l, u, v, rfl⟩ : ∃ l u v, ys = l ++ [(u, v)] := by
            have hne : ys ≠ [] := by rintro rfl; simp at hly
            exact ⟨ys.dropLast, (ys.getLast hne).1, (ys.getLast hne).2, (List.dropLast_concat_getLast hne).symm⟩
          have hll : l.length = q' := by simpa using hly
          have HLL := Lib.hid hll
          obtain ⟨g, rfl, hg1, hg2, hg3⟩ := HO.out.head (by omega)
          have hcv : w1.cell? ⟨g, q' * 2 + 1, none⟩ = some (.int .i64 v) := by
            rw [HO.out.cellAt (q' * 2 + 1) (by omega)]
            exact (prs_get (ss := l ++ [(u, v)]) (k := q') (s := (u, v)) (by rw [← hll]; simp)).2
          have hsub : ((q' + 1 : Nat) : Int) - 1 = (q' : Int) := by omega
          have hq0 : (0 : Int) < ((q' + 1 : Nat) : Int) := by omega
          clear hly hll
          by_cases hvk : v = k
          · subst hvk
            go_wp2_with fail
            go_at_call 60
            refine (l24Touched_any _ _ _ _ _ _ (h.below2 B (Nat.le_refl _)) HS.out (by omega)).mono ?_
            rintro e w2 ⟨rfl, hb⟩
            replace B := B.trans (hb.mono B.size)
            replace HO := Lib.hid ((HO.out.below hb (.inr (Nat.le_refl _))).mono (Nat.le_refl _) hb.size)
            replace Hz := B.size
            clear hb hcv hg2 hg3
            have hfz := HO.out.frozenAt (q' * 2 + 1)
            have hcv := HO.out.cellAt (q' * 2 + 1) (by omega)
            rw [(prs_get (ss := l ++ [(u, (k : Int))]) (k := q') (s := (u, (k : Int))) (by rw [← HLL.out]; simp)).2] at hcv
            cases ht : touchB ss k
            · have hst2 := Lib.hid (hst.out.trans (stepG_ext HN.out ht))
              have hso := HO.out.stored (q' * 2 + 1) (.int .i64 ((k : Int) + 1))
              rw [prs_setLast HLL.out] at hso
              have HO2 := Lib.hid hso.1
              have hB2 := B.setCell (p := ⟨g, q' * 2 + 1, none⟩) hg1 (.int .i64 ((k : Int) + 1))
              clear ht hso hst B HO
              go_wp2
              go_roundw
              case rel => exact ⟨k + 1, q' + 1, cp, some ⟨g, 0, none⟩, _, by go_num, rfl, by omega, by omega, Lib.hid (HO2.out.mono (Nat.le_refl _) (by simp)), hst2, hB2⟩
              case measure => simp [intOf]; omega
            · have hst2 := Lib.hid (hst.out.trans (stepG_new HN.out (.inr ht)))
              clear hst ht
              go_wp2_with (at_builtin; refine wpList_app _ rfl (.tmp 44) (.tmp 49) _ rfl Try.underlying30 info_Interval rfl (by decide) rfl (HO.out.alloc _) rfl (by exact Row.litK _ (prs [((k : Int), (k : Int) + 1)]) _ _ 1 2 (by simp) (by rfl)) (prs_one [((k : Int), (k : Int) + 1)]) (by decide) (by simp only [maxLen]; omega) (by omega) (by simp; omega) ?_; intro A2 c2 w9 hown9 hb9 hg9)
              go_roundw
              case rel => exact ⟨k + 1, q' + 1 + 1, c2, A2, (l ++ [(u, (k : Int))]) ++ [((k : Int), (k : Int) + 1)], by go_num, rfl, by omega, by omega, by rw [prs_app]; exact hown9, hst2, (B.alloc B.size _).trans hb9⟩
              case measure => simp [intOf]; omega
          · have hst2 := Lib.hid (hst.out.trans (stepG_new HN.out (.inl hvk)))
            have hvk2 : (v == (k : Int)) = false := by simpa using hvk
            clear hst hvk
            go_wp2_with (at_builtin; refine wpList_app _ rfl (.tmp 44) (.tmp 49) _ rfl Try.underlying30 info_Interval rfl (by decide) rfl (HO.out.alloc _) rfl (by exact Row.litK _ (prs [((k : Int), (k : Int) + 1)]) _ _ 1 2 (by simp) (by rfl)) (prs_one [((k : Int), (k : Int) + 1)]) (by decide) (by simp only [maxLen]; omega) (by omega) (by simp; omega) ?_; intro A2 c2 w9 hown9 hb9 hg9)
            go_roundw
            case rel => exact ⟨k + 1, q' + 1 + 1, c2, A2, (l ++ [(u, v)]) ++ [((k : Int), (k : Int) + 1)], by go_num, rfl, by omega, by omega, by rw [prs_app]; exact hown9, hst2, (B.alloc B.size _).trans hb9⟩
            case measure => simp [intOf]; omega
      · have hst2 := Lib.hid (hst.out.trans (stepG_unit hu))
        clear hst hu
        go_wp2
        go_roundw
        case rel => exact ⟨k + 1, q, cp, a', ys, by go_num, rfl, by omega, by omega, HO, hst2, B⟩
        case measure => simp [intOf]; omega
    · obtain rfl : k = N := by omega
      go_wp2
      go_ret
      exact ⟨_, _, _, rfl, by rw [← hG.out, HU.out]; exact HO.out, B⟩
end Go.Proofs.Ytdihpllebccncaa
