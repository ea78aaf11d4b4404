/- The program's gaps of a width: a sweep over the sorted spans. -/
import Derived.Test.YtdihpllebccncaaSortS
import Derived.Test.YtdihpllebccncaaInterval
namespace Go.Proofs.Ytdihpllebccncaa
open Go.RowKit Go.Shelf Go.Sort
set_option maxRecDepth 100000

theorem spanOk_perm {ss ts : List I2} (hs : spansOk ss = true) (h : SortedS ss ts) : ∀ s ∈ ts, spanOk s = true := by
  intro s hm
  simp only [spansOk, Bool.and_eq_true, List.all_eq_true] at hs
  exact hs.1 s (h.1.mem_iff.1 hm)
theorem keyS_lo {s : I2} (h : spanOk s = true) : keyS s = loS s := by
  obtain ⟨x, y⟩ := s
  obtain ⟨d1, d2⟩ := spanOk_bd h
  unfold keyS loS wrap64
  simp only
  omega
theorem gaps_of {ss ts : List I2} (W : Int) (hs : spansOk ss = true) (h : SortedS ss ts) : [] ++ sweepG W 0 (ts.drop 0) = gapsL W ss := by
  have hk := spanOk_perm hs h
  rw [List.nil_append, List.drop_zero]
  refine gaps_sweep W h.1.symm (List.Pairwise.imp_of_mem (fun {a b} ha hb hab => ?_) h.2) (fun s hm => (spanOk_bd (hk s hm)).2.1)
  rw [keyS_lo (hk a ha), keyS_lo (hk b hb)] at hab
  exact hab

set_option maxHeartbeats 6400000 in
theorem gaps_impl (W : Int) (a : Option Addr) (n c : Nat) (ss : List I2) (w : World) (h : Row w 2 a n (prs ss)) (hs : spansOk ss = true) (hW : 1 ≤ W ∧ W ≤ 10000) :
    Calls Try.prog 37 #[.int .i64 W, .slice a n c] w fun e w' => ∃ a' n' c', e = .returned (.slice a' n' c') ∧ Own w' w.heap.size w'.heap.size 55 2 a' n' c' (prs (gapsL W ss)) ∧ Below w.heap.size w w' := by
  have hl := h.len2
  have hn60 := spansOk_len hs hl
  obtain ⟨G, hGG⟩ : ∃ G, gapsL W ss = G := ⟨_, rfl⟩
  rw [hGG]
  replace hGG := Lib.hid hGG
  go_enter Try.func37, Try.ntmps37
  go_wp2_with fail
  go_at_call 62
  refine (values_any _ _ _ _).mono ?_
  rintro e w1 ⟨rfl, rfl⟩
  have hbx : Below w.heap.size w (w.alloc (.cells #[.slice a n c] 26)) := (Below.refl _ _).alloc (Nat.le_refl _) _
  have hbc := (Boxed.new w 26 (.slice a n c)).cell
  have hsa := Row.spansAt (h.below2 hbx (Nat.le_refl _))
  go_wp2_with fail
  go_at_call 61
  refine (sortedFunc_any w.heap.size n c a ss (by omega) _ (by simp) hbc hsa).mono ?_
  rintro e w2 ⟨a3, c3, ts, rfl, hts, O3, hb⟩
  have B := hbx.trans (hb.mono hbx.size)
  have HR0 := Lib.hid O3.row
  have hlt3 : ∀ b off, a3 = some ⟨b, off, none⟩ → b < w2.heap.size := by
    intro b off e
    subst e
    exact (O3.lt b (by simp [Value.ownBlock])).2.1
  have hG := Lib.hid (gaps_of W hs hts)
  have HT := Lib.hid (spanOk_perm hs hts)
  have hlt4 : ts.length = ss.length := hts.1.length_eq
  have hG2 := hG.out
  rw [hGG.out] at hG2
  replace hG := Lib.hid hG2
  clear hG2
  obtain ⟨H0, hH0⟩ : ∃ H0, w2.heap.size = H0 := ⟨_, rfl⟩
  have hH := Lib.hid hH0
  have hH1 : w.heap.size ≤ H0 := by have := B.size; omega
  rw [hH0] at hlt3
  obtain ⟨m, hm⟩ : ∃ m, ss.length = m := ⟨_, rfl⟩
  rw [hm] at HR0 hlt4 ⊢
  have hm60 : m ≤ 60 := by omega
  have HL3 := Lib.hid hlt3
  have HL4 := Lib.hid hlt4
  have hz2 : H0 ≤ w2.heap.size := by omega
  clear hl hn60 h hs hbx hbc hsa hb O3 hts hGG hH0 hm hlt3 hlt4
  go_wp2
  go_loopw [6, 7, 9, 15] (fun o p _ i wr => ∃ (k : Nat) (pz : Int) (q cp : Nat) (a' : Option Addr) (ys : List I2), i = .int .i64 k ∧ p = .int .i64 pz ∧ o = .slice a' q cp ∧ k ≤ m ∧ (0 ≤ pz ∧ pz ≤ 20000) ∧ q ≤ k ∧ Hid (Own wr H0 wr.heap.size 55 2 a' q cp (prs ys)) ∧ Hid (ys ++ sweepG W pz (ts.drop k) = G) ∧ Hid (Row wr 2 a3 m (prs ts)) ∧ Below w.heap.size w wr ∧ H0 ≤ wr.heap.size) (fun _ _ _ i _ => m - (intOf i).toNat)
  case atStart => exact ⟨0, 0, 0, 0, none, [], rfl, rfl, rfl, by omega, by omega, by omega, Own.nil_ _ _ _ _ _, hG, HR0, B, hz2⟩
  case round =>
    clear B hz2 HR0
    obtain ⟨k, p, q, cp, a', ys, rfl, rfl, rfl, hk, ⟨hp0, hp1⟩, hq, HO, HS, HR, B, Hz⟩ := hrel
    by_cases hlt : k < m
    · obtain ⟨b, off, x, y, rfl, hc0, hc1, hx⟩ := HR.out.at2 hlt
      obtain ⟨d1, d2⟩ := spanOk_bd (HT.out (x, y) (List.mem_of_getElem? hx.out))
      have hsw := HS.out
      rw [drop_at hx.out] at hsw
      have hkI : (k : Int) < (m : Int) := by omega
      clear HS
      go_wp2_with fail
      obtain ⟨wa, hwa⟩ : ∃ wa, wr.alloc (.cells #[.int .i64 x, .int .i64 y] 49) = wa := ⟨_, rfl⟩
      rw [hwa]
      obtain ⟨A, hA⟩ : ∃ A, wr.heap.size = A := ⟨_, rfl⟩
      rw [hA]
      replace B : Below w.heap.size w wa := hwa ▸ B.alloc B.size _
      have HX := Lib.hid (show Blk wa A 49 #[.int .i64 x, .int .i64 y] from hwa ▸ hA ▸ Blk.new wr _ _)
      replace HR := Lib.hid (show Row wa 2 (some ⟨b, off, none⟩) m (prs ts) from hwa ▸ HR.out.below2 ((Below.refl _ _).alloc (Nat.le_refl _) _) (Nat.le_refl _))
      replace HO := Lib.hid (show Own wa H0 A 55 2 a' q cp (prs ys) from hwa ▸ hA ▸ HO.out.alloc _)
      have hAz : H0 ≤ A := by omega
      replace Hz : H0 ≤ wa.heap.size := by rw [← hwa]; simp; omega
      clear hwa hA hc0 hc1
      have x0 := HX.out.cell 0
      have x1 := HX.out.cell 1
      go_wp2_with fail
      go_at_call 65
      refine (low_any _ _ _ d1 d2).mono ?_
      rintro e w3 ⟨rfl, hb⟩
      replace B := B.trans (hb.mono B.size)
      replace HX := Lib.hid (HX.out.belowSelf hb)
      replace HR := Lib.hid (HR.out.below2 hb (Nat.le_refl _))
      replace HO := Lib.hid (HO.out.below hb (.inr (Nat.le_refl _)))
      replace Hz := Nat.le_trans Hz hb.size
      clear hb x0 x1
      have x0 := HX.out.cell 0
      have x1 := HX.out.cell 1
      by_cases hbr : W ≤ x - y
      · rw [sweepG, if_pos (show W ≤ loS (x, y) from hbr)] at hsw
        by_cases hpw : p < W
        · rw [if_pos hpw] at hsw
          go_wp2_with (at_builtin; refine wpList_app _ rfl (.tmp 42) (.tmp 46) _ rfl Try.underlying30 info_Interval rfl (by decide) rfl (HO.out.alloc _) rfl (by exact Row.litK _ (prs [(p, W)]) _ _ 1 2 (by simp) (by rfl)) (prs_one [(p, W)]) (by decide) (by simp only [maxLen]; omega) (by omega) (by simp; omega) ?_; intro A2 c2 w9 hown9 hb9 hg9)
          go_ret
          refine ⟨_, _, _, rfl, ?_, B.trans ((((Below.refl _ _).alloc (Nat.le_refl _) _).mono B.size).trans (hb9.mono (by omega)))⟩
          rw [← prs_app, hsw] at hown9
          exact hown9.mono (by omega) (Nat.le_refl _)
        · rw [if_neg hpw, List.append_nil] at hsw
          go_wp2
          go_ret
          exact ⟨_, _, _, rfl, by rw [← hsw]; exact HO.out.mono (by omega) (by have := HX.out.lt; omega), B⟩
      rw [sweepG, if_neg (show ¬ W ≤ loS (x, y) from hbr)] at hsw
      go_wp2_with fail
      go_at_call 65
      refine (low_any _ _ _ d1 d2).mono ?_
      rintro e w4 ⟨rfl, hb⟩
      replace B := B.trans (hb.mono B.size)
      replace HX := Lib.hid (HX.out.belowSelf hb)
      replace HR := Lib.hid (HR.out.below2 hb (Nat.le_refl _))
      replace HO := Lib.hid (HO.out.below hb (.inr (Nat.le_refl _)))
      replace Hz := Nat.le_trans Hz hb.size
      clear hb x0 x1
      have x0 := HX.out.cell 0
      have x1 := HX.out.cell 1
      by_cases hgp : p < x - y
      · rw [if_pos (show p < loS (x, y) from hgp), ← List.append_assoc] at hsw
        go_wp2_with fail
        go_at_call 65
        refine (low_any _ _ _ d1 d2).mono ?_
        rintro e w5 ⟨rfl, hb⟩
        replace B := B.trans (hb.mono B.size)
        replace HX := Lib.hid (HX.out.belowSelf hb)
        replace HR := Lib.hid (HR.out.below2 hb (Nat.le_refl _))
        replace HO := Lib.hid (HO.out.below hb (.inr (Nat.le_refl _)))
        replace Hz := Nat.le_trans Hz hb.size
        clear hb x0 x1
        have x0 := HX.out.cell 0
        have x1 := HX.out.cell 1
        have hne : some A ≠ (Value.slice a' q cp).ownBlock := fun e => by have := (HO.out.lt A e.symm).2.1; omega
        have hnr : ∀ b' off', (some ⟨b, off, none⟩ : Option Addr) = some ⟨b', off', none⟩ → (Value.slice a' q cp).ownBlock ≠ some b' := fun b' off' e e2 => by have h1 := (HO.out.lt b' e2).1; have h2 := HL3.out b' off' e; omega
        have HNE := Lib.hid hne
        have HNR := Lib.hid hnr
        clear hne hnr
        go_wp2_with (at_builtin; refine wpList_app _ rfl (.tmp 27) (.tmp 32) _ rfl Try.underlying30 info_Interval rfl (by decide) rfl (HO.out.alloc _) rfl (by exact Row.litK _ (prs [(p, x - y)]) _ _ 1 2 (by simp) (by rfl)) (prs_one [(p, x - y)]) (by decide) (by simp only [maxLen]; omega) (by omega) (by simp; omega) ?_; intro A2 c2 w9 hown9 hb9 hg9; have HX9 := Lib.hid ((HX.out.alloc (.cells #[.int .i64 p, .int .i64 (x - y)] 55)).grown hg9 HNE.out); have HR9 := Lib.hid ((HR.out.below2 ((Below.refl _ _).alloc (Nat.le_refl _) (.cells #[.int .i64 p, .int .i64 (x - y)] 55)) (Nat.le_refl _)).apart (by omega) hg9 HNR.out); have B9 := (B.alloc B.size (.cells #[.int .i64 p, .int .i64 (x - y)] 55)).trans (hb9.mono hH1); have Hz9 := Nat.le_trans (show H0 ≤ (w5.alloc (.cells #[.int .i64 p, .int .i64 (x - y)] 55)).heap.size by simp; omega) hb9.size; have HO9 := Lib.hid hown9; clear hown9 hb9 hg9 x0 x1; have x0 := HX9.out.cell 0; have x1 := HX9.out.cell 1; go_wp2_with fail; go_at_call 55; refine (high_any _ _ _ d1 d2).mono ?_; rintro e wz ⟨rfl, hb⟩)
        replace B := B9.trans (hb.mono B9.size)
        replace HR := Lib.hid (HR9.out.below2 hb (Nat.le_refl _))
        replace HO := Lib.hid ((HO9.out.below hb (.inr (Nat.le_refl _))).mono (Nat.le_refl _) hb.size)
        replace Hz := Nat.le_trans Hz9 hb.size
        clear hb x0 x1 HX HX9 HR9 HO9 B9 Hz9 HNE HNR
        go_wp2
        go_roundw
        case rel => exact ⟨k + 1, max p (x + y), _, _, _, ys ++ [(p, x - y)], by go_num, rfl, rfl, by omega, by omega, by omega, by rw [prs_app]; exact HO, Lib.hid hsw, HR, B, Hz⟩
        case measure => simp [intOf]; omega
      · rw [if_neg (show ¬ p < loS (x, y) from hgp), List.nil_append] at hsw
        go_wp2_with fail
        go_at_call 55
        refine (high_any _ _ _ d1 d2).mono ?_
        rintro e w5 ⟨rfl, hb⟩
        replace B := B.trans (hb.mono B.size)
        replace HX := Lib.hid (HX.out.belowSelf hb)
        replace HR := Lib.hid (HR.out.below2 hb (Nat.le_refl _))
        replace HO := Lib.hid (HO.out.below hb (.inr (Nat.le_refl _)))
        replace Hz := Nat.le_trans Hz hb.size
        clear hb x0 x1
        have x0 := HX.out.cell 0
        have x1 := HX.out.cell 1
        replace HO := Lib.hid (HO.out.mono (lo' := H0) (hi' := w5.heap.size) (Nat.le_refl _) (Nat.le_of_lt HX.out.lt))
        clear x0 x1 HX
        go_wp2
        go_roundw
        case rel => exact ⟨k + 1, max p (x + y), _, _, _, ys, by go_num, rfl, rfl, by omega, by omega, by omega, HO, Lib.hid hsw, HR, B, Hz⟩
        case measure => simp [intOf]; omega
    · obtain rfl : k = m := by omega
      have hsw := HS.out
      rw [List.drop_of_length_le (by have := HL4.out; omega), sweepG] at hsw
      clear HS
      by_cases hpw : p < W
      · rw [if_pos hpw] at hsw
        go_wp2_with (at_builtin; refine wpList_app _ rfl (.tmp 42) (.tmp 46) _ rfl Try.underlying30 info_Interval rfl (by decide) rfl (HO.out.alloc _) rfl (by exact Row.litK _ (prs [(p, W)]) _ _ 1 2 (by simp) (by rfl)) (prs_one [(p, W)]) (by decide) (by simp only [maxLen]; omega) (by omega) (by simp; omega) ?_; intro A2 c2 w9 hown9 hb9 hg9)
        go_ret
        refine ⟨_, _, _, rfl, ?_, B.trans ((((Below.refl _ _).alloc (Nat.le_refl _) _).mono B.size).trans (hb9.mono (by omega)))⟩
        rw [← prs_app, hsw] at hown9
        exact hown9.mono (by omega) (Nat.le_refl _)
      · rw [if_neg hpw, List.append_nil] at hsw
        go_wp2
        go_ret
        exact ⟨_, _, _, rfl, by rw [← hsw]; exact HO.out.mono (by omega) (by omega), B⟩
end Go.Proofs.Ytdihpllebccncaa
