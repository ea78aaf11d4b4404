/- Soundings without their deep spikes, by the reference; the three functions by both programs. -/
import Derived.Test.YtcbehnlpefjhdaaClean
namespace Go.Proofs.Ytcbehnlpefjhdaa
open Go.RowKit
set_option maxRecDepth 100000
set_option linter.unusedVariables false

theorem at_idx {xs : List I4} {ks : List Int} {n i : Nat} {v : Int} (hl : xs.length = n) (hi : Idx xs ks) (hv : ks[i]? = some v) : ∃ j : Nat, v = j ∧ j < n := by
  obtain ⟨j, h1, h2⟩ := hi.get hv
  exact ⟨j, h1, by omega⟩

set_option maxHeartbeats 6400000 in
theorem l23Keep_any (a : Option Addr) (n c : Nat) (xs : List I4) (r l m : Int) (most : Nat) (hmost : most ≤ 200) (w : World) (h : Row w 4 a n (frs xs)) (hs : sndsOk xs = true) (hro : spikeRuleOk r l m = true) :
    Calls Try.prog 48 #[.slice a n c, .agg #[.int .i64 r, .int .i64 l, .int .i64 m], .int .i64 (most : Int)] w fun e w' => ∃ a' p cp, e = .returned (.tuple #[.slice a' p cp, .int .i64 (cleanF xs r l m most (allL xs) 0).2]) ∧ Own w' w.heap.size w'.heap.size 2 1 a' p cp (ints (cleanF xs r l m most (allL xs) 0).1) ∧ Below w.heap.size w w' := by
  have hn2 := sndsOk_len hs h.len4
  have hxl := Lib.hid h.len4
  have HS := Lib.hid hs; clear hs
  have HO := Lib.hid hro; clear hro
  generalize hres : cleanF xs r l m most (allL xs) 0 = res
  replace hres := Lib.hid hres
  go_enter Try.func48, Try.ntmps48
  go_wp2
  go_loopw [8, 9] (fun o kk wr => ∃ (k : Nat) (a' : Option Addr) (q cp : Nat), k ≤ n ∧ kk = .int .i64 k ∧ o = .slice a' q cp ∧ Own wr (w.heap.size + 1) wr.heap.size 2 1 a' q cp (ints (pick (fun _ => true) k)) ∧ Below w.heap.size w wr ∧ Hid (Blk wr w.heap.size 26 #[.int .i64 r, .int .i64 l, .int .i64 m])) (fun _ i _ => n - (intOf i).toNat)
  case atStart => exact ⟨0, _, 0, 0, Nat.zero_le _, rfl, rfl, by have := (Own.lit0 (w.alloc (.cells #[.int .i64 r, .int .i64 l, .int .i64 m] 26)) 2 1).mono (lo' := w.heap.size + 1) (hi' := ((w.alloc (.cells #[.int .i64 r, .int .i64 l, .int .i64 m] 26)).alloc (.cells #[] 2)).heap.size) (by simp) (by simp); rw [World.size_alloc w] at this; exact this, ((Below.refl _ _).alloc (Nat.le_refl _) _).alloc (by simp) _, (Blk.new _ _ _).alloc _⟩
  case round =>
    obtain ⟨k, a', q, cp, hk', rfl, rfl, hown, hbel, K⟩ := hrel
    have hq : q ≤ k := by have := hown.row.len; rw [pick_all] at this; omega
    by_cases hlt : k < n
    · have hp := Lib.hid (pick_yes (p := fun _ => true) (k := k) rfl)
      have hsz := K.out.lt
      go_wp2_with (at_builtin; refine wpList_app _ rfl (.tmp 23) (.tmp 25) _ rfl Try.underlying29 info_i64 rfl (by decide) rfl (hown.alloc _) rfl (Row.one _ _ _) (ints_one [(k : Int)]) (by decide) (by simp only [maxLen]; omega) (by omega) (by simp; omega) ?_; intro A2 c2 w2 hown2 hb2 _)
      go_roundw
      case rel => exact ⟨k + 1, A2, q + 1, c2, by omega, by go_num, rfl, by rw [hp.out, ints_app]; exact hown2, (hbel.alloc hbel.size _).trans (hb2.mono (Nat.le_succ _)), (K.out.alloc _).below hb2 (Nat.lt_succ_self _)⟩
      case measure => simp [intOf]; omega
    · have hdk : k = n := by omega
      have hown0 : Hid (Own wr (w.heap.size + 1) wr.heap.size 2 1 a' q cp (ints (allL xs))) := by
        unfold Hid; rw [allL, hxl.out, ← hdk]; exact hown
      clear hown
      go_wp2
      go_loopw [8, 10] (fun s kk wr => ∃ (a' : Option Addr) (p cp f cnt : Nat) (ks : List Int), kk = .int .i64 cnt ∧ s = .slice a' p cp ∧ Hid (Own wr (w.heap.size + 1) wr.heap.size 2 1 a' p cp (ints ks)) ∧ Below w.heap.size w wr ∧ Hid (Blk wr w.heap.size 26 #[.int .i64 r, .int .i64 l, .int .i64 m]) ∧ Hid (Idx xs ks) ∧ p ≤ 200 ∧ cnt + f ≤ most ∧ most ≤ cnt + f ∧ Hid (cleanF xs r l m f ks cnt = res)) (fun _ c _ => most - (intOf c).toNat)
      case atStart => exact ⟨a', q, cp, most, 0, _, rfl, rfl, hown0, hbel, K, Idx.all xs, by omega, by omega, by omega, hres⟩
      case round =>
        clear hown0 hbel K hq hdk
        obtain ⟨a2, p, cp2, f, cnt, ks, rfl, rfl, hown, hbel, K, hix, hp2, hcf, hcf2, hcl⟩ := hrel
        have hkl := Lib.hid hown.out.row.len
        by_cases hcm : cnt < most
        · obtain ⟨w1, rfl⟩ : ∃ w1 : World, w1 = wr := ⟨_, rfl⟩
          have hr0 := hown.out.row
          have hK1 := K.out.lt
          go_wp2
          go_loopw [11, 12] (fun o kk wi => ∃ (k : Nat) (aR : Option Addr) (q cR : Nat), k ≤ p ∧ kk = .int .i64 k ∧ o = .slice aR q cR ∧ Own wi w1.heap.size wi.heap.size 46 4 aR q cR (frs (chosen xs (ks.take k))) ∧ Below w1.heap.size w1 wi) (fun _ i _ => p - (intOf i).toNat)
          case atStart => exact ⟨0, _, 0, 0, Nat.zero_le _, rfl, rfl, (Own.lit0 _ _ _).mono (Nat.le_refl _) (by simp), (Below.refl _ _).alloc (Nat.le_refl _) _⟩
          case round =>
            obtain ⟨k, aR, q, cR, hk2, rfl, rfl, hoR, hbi⟩ := hrel
            have hq : q ≤ k := by have := hoR.row.len4; rw [chosen_length, List.length_take] at this; omega
            by_cases hlt : k < p
            · obtain ⟨b1, off1, v, rfl, hcv, hv⟩ := (hr0.below hbi (Nat.le_refl _)).at_ hlt
              obtain ⟨j, rfl, hj⟩ := at_idx hxl.out hix.out hv.out
              have hjI : (j : Int) < (n : Int) := by omega
              obtain ⟨x, y, z, u, hx⟩ := snd_at hxl.out hj
              obtain ⟨b2, off2, rfl, hbw⟩ := h.head4 hj
              obtain ⟨x0, x1, x2, x3⟩ := (h.below4 (hbel.trans (hbi.mono hbel.size)) (Nat.le_refl _)).get4_ hx.out
              have hch := Lib.hid (show chosen xs (ks.take (k + 1)) = chosen xs (ks.take k) ++ [(x, y, z, u)] by rw [chosen_snoc hv.out, Int.toNat_natCast, at4_get hx.out])
              have hsz := hbi.size
              go_wp2_with (at_builtin; refine wpList_app _ rfl (.tmp 37) (.tmp 45) _ rfl Try.underlying24 info_Sounding rfl (by decide) rfl (hoR.alloc _) rfl (by exact Row.litK _ (frs [(x, y, z, u)]) _ _ 1 4 (by simp) (by rfl)) (frs_one [(x, y, z, u)]) (by decide) (by simp only [maxLen]; omega) (by omega) (by simp; omega) ?_; intro A2 c2 w2 hown2 hb2 _)
              go_roundw
              case rel => exact ⟨k + 1, A2, q + 1, c2, by omega, by go_num, rfl, by rw [hch.out, frs_app]; exact hown2, (hbi.alloc hbi.size _).trans hb2⟩
              case measure => simp [intOf]; omega
            · have hrR := hoR.row
              rw [take_done hkl.out hk2 hlt] at hrR
              have hqp : q ≤ p ∧ p ≤ q := by have := hrR.len4; rw [chosen_length] at this; have := hkl.out; omega
              have hok := Lib.hid (hix.out.ok HS.out (by have := hkl.out; omega))
              have hbel2 := hbel.trans (hbi.mono hbel.size)
              have K2 := Lib.hid (K.out.belowSelf hbi)
              have hown2 := Lib.hid ((hown.out.below hbi (.inr (Nat.le_refl _))).leave)
              have k0 : wr.cell? ⟨w.heap.size, 0, none⟩ = some (.int .i64 r) := K2.out.cell 0
              have k1 : wr.cell? ⟨w.heap.size, 1, none⟩ = some (.int .i64 l) := K2.out.cell 1
              have k2 : wr.cell? ⟨w.heap.size, 2, none⟩ = some (.int .i64 m) := K2.out.cell 2
              clear hoR hbi hown hbel K hr0 hq
              go_wp2_with fail
              go_at_call 34
              refine (deep_l23 _ _ _ _ _ _ _ _ hrR hok.out HO.out).mono ?_
              rintro e w3 ⟨aS, qS, cS, rfl, hoS, hb⟩
              have hbel3 := hbel2.trans (hb.mono hbel2.size)
              have K3 := Lib.hid (K2.out.belowSelf hb)
              have hown3 := Lib.hid ((hown2.out.below hb (.inr (Nat.le_refl _))).leave)
              have hrS := hoS.row
              have hsl := Lib.hid hrS.len
              have hos := Lib.hid (onceL_spikes xs r l m ks)
              have hqS : qS ≤ 200 := by have := hos.out; have := hsl.out; have := hkl.out; omega
              clear hb hoS hrR hown2 K2 hbel2 k0 k1 k2
              by_cases hz : qS = 0
              · have e1 : ((qS : Int) == 0) = true := by simp [hz]
                have hst := Lib.hid (show res = (ks, (cnt : Int)) by
                  rw [← hcl.out]; exact cleanF_stop (by have := hos.out; have := hsl.out; omega) f cnt)
                clear hz hcl
                go_wp2
                go_ret2
                rw [hst.out]
                exact ⟨_, _, _, rfl, hown3.out.mono (Nat.le_succ _) (Nat.le_refl _), hbel3⟩
              · have e1 : ((qS : Int) == 0) = false := by simp; omega
                obtain ⟨g, hg⟩ : ∃ g, f = g + 1 := ⟨f - 1, by omega⟩
                have hgo := Lib.hid (show cleanF xs r l m g (onceL xs r l m ks) ((cnt + 1 : Nat) : Int) = res by
                  rw [← hcl.out, hg, cleanF_go (by have := hos.out; have := hsl.out; omega)]; rfl)
                have hg2 : cnt + 1 + g ≤ most ∧ most ≤ cnt + 1 + g := by omega
                have hr3 := hown3.out.row
                have hK3 := K3.out.lt
                have hid4 : Hid (∀ i : Nat, i < p → decide ((i : Int) ∈ spikeL true (chosen xs ks) r l m) = spikeB true (chosen xs ks) r l m i) := by
                  intro i hi
                  rw [Bool.eq_iff_iff, decide_eq_true_iff, spikeL, mem_pick]
                  constructor
                  · rintro ⟨j, h1, h2, h3⟩
                    have : i = j := by omega
                    subst this; exact h3
                  · intro h3
                    exact ⟨i, rfl, by rw [chosen_length, hkl.out]; exact hi, h3⟩
                clear hg hcl hz
                go_wp2
                go_loopw [14, 15] (fun o kk wj => ∃ (k : Nat) (aR : Option Addr) (q cR : Nat), k ≤ p ∧ kk = .int .i64 k ∧ o = .slice aR q cR ∧ Own wj w3.heap.size wj.heap.size 2 1 aR q cR (ints (sel (fun i => !spikeB true (chosen xs ks) r l m i) ks k)) ∧ Below w3.heap.size w3 wj) (fun _ i _ => p - (intOf i).toNat)
                case atStart => exact ⟨0, _, 0, 0, Nat.zero_le _, rfl, rfl, (Own.lit0 _ _ _).mono (Nat.le_refl _) (by simp), (Below.refl _ _).alloc (Nat.le_refl _) _⟩
                case round =>
                  obtain ⟨k, aR, q, cR, hk2, rfl, rfl, hoR, hbi⟩ := hrel
                  have hq : q ≤ k := by have := hoR.row.len; have := sel_len (fun i => !spikeB true (chosen xs ks) r l m i) ks k; omega
                  by_cases hlt : k < p
                  · have hrS4 := hrS.below hbi (Nat.le_refl _)
                    have hm4 := Lib.hid (hid4.out k hlt)
                    obtain ⟨b1, off1, v, rfl, hcv, hv⟩ := (hr3.below hbi (Nat.le_refl _)).at_ hlt
                    have hsz := hbi.size
                    cases hin : spikeB true (chosen xs ks) r l m k
                    · have hp3 := Lib.hid (sel_yes (p := fun i => !spikeB true (chosen xs ks) r l m i) (by simp [hin]) hv.out)
                      go_wp2_with fail
                      go_at_call 65
                      refine (l01Has_any _ _ _ _ _ _ hrS4 (by omega)).mono ?_
                      rintro e w4 ⟨rfl, rfl⟩
                      rw [hm4.out, hin]
                      clear hrS4
                      go_wp2_with (at_builtin; refine wpList_app _ rfl (.tmp 64) (.tmp 69) _ rfl Try.underlying29 info_i64 rfl (by decide) rfl (hoR.alloc _) rfl (Row.one _ _ _) (ints_one [v]) (by decide) (by simp only [maxLen]; omega) (by omega) (by simp; omega) ?_; intro A2 c2 w5 hown5 hb5 _)
                      go_roundw
                      case rel => exact ⟨k + 1, A2, q + 1, c2, by omega, by go_num, rfl, by rw [hp3.out, ints_app]; exact hown5, (hbi.alloc hbi.size _).trans hb5⟩
                      case measure => simp [intOf]; omega
                    · have hp3 := Lib.hid (sel_no (p := fun i => !spikeB true (chosen xs ks) r l m i) (ks := ks) (k := k) (by simp [hin]))
                      go_wp2_with fail
                      go_at_call 65
                      refine (l01Has_any _ _ _ _ _ _ hrS4 (by omega)).mono ?_
                      rintro e w4 ⟨rfl, rfl⟩
                      rw [hm4.out, hin]
                      clear hrS4
                      go_wp2
                      go_roundw
                      case rel => exact ⟨k + 1, aR, q, cR, by omega, by go_num, rfl, by rw [hp3.out]; exact hoR, hbi⟩
                      case measure => simp [intOf]; omega
                  · have hdk : k = p := by omega
                    have hoR2 : Hid (Own wr (w.heap.size + 1) wr.heap.size 2 1 aR q cR (ints (onceL xs r l m ks))) := by
                      unfold Hid; rw [onceL, hkl.out, ← hdk]; exact hoR.mono hK3 (Nat.le_refl _)
                    have hbel5 := hbel3.trans (hbi.mono hbel3.size)
                    have K5 := Lib.hid (K3.out.belowSelf hbi)
                    clear hoR hdk hbi
                    go_wp2
                    go_roundw
                    case rel => exact ⟨aR, q, cR, g, cnt + 1, _, by go_num, rfl, hoR2, hbel5, K5, hix.out.once, by omega, hg2.1, hg2.2, hgo⟩
                    case measure => simp [intOf]; omega
        · have hst := Lib.hid (show res = (ks, (cnt : Int)) by rw [← hcl.out, show f = 0 from by omega]; rfl)
          clear hcl
          go_wp2
          go_ret2
          rw [hst.out]
          exact ⟨_, _, _, rfl, hown.out.mono (Nat.le_succ _) (Nat.le_refl _), hbel⟩
end Go.Proofs.Ytcbehnlpefjhdaa
