/- The neighbours of a sounding, by both programs. -/
import Derived.Test.YtcbehnlpefjhdaaSndOk
import Derived.Test.YtcbehnlpefjhdaaLib
import Derived.StillTailTactics
import Derived.Outline
namespace Go.Proofs.Ytcbehnlpefjhdaa
open Go.RowKit
set_option maxRecDepth 100000
set_option linter.unusedVariables false

theorem snd_at {xs : List I4} {k n : Nat} (hl : xs.length = n) (hk : k < n) : ∃ x y d e, Hid (xs[k]? = some (x, y, d, e)) := by
  have hx : xs[k]? = some xs[k] := List.getElem?_eq_getElem (by omega)
  exact ⟨_, _, _, _, hx⟩
theorem Row.head4 {w : World} {a : Option Addr} {n k : Nat} {xs : List I4} (h : Row w 4 a n (frs xs)) (hk : k < n) : ∃ b off, a = some ⟨b, off, none⟩ ∧ b < w.heap.size := by
  obtain ⟨b, off, x, y, z, u, rfl, ⟨hc, _⟩, _⟩ := h.at4 hk
  exact ⟨b, off, rfl, World.block_lt_of_cell? w _ hc⟩

set_option maxHeartbeats 1600000 in
theorem neighbours_any (r l m : Int) (a : Option Addr) (n c : Nat) (xs : List I4) (i : Nat) (w : World) (h : Row w 4 a n (frs xs)) (hs : sndsOk xs = true) (hr : 0 ≤ r ∧ r ≤ 10000) (hi : i < n) :
    Calls Try.prog 38 #[.agg #[.int .i64 r, .int .i64 l, .int .i64 m], .slice a n c, .int .i64 (i : Int)] w fun e w' => ∃ a' q c', e = .returned (.slice a' q c') ∧ Own w' w.heap.size w'.heap.size 2 1 a' q c' (ints (nearL xs r i)) ∧ Below w.heap.size w w' := by
  have hn := sndsOk_len hs h.len4
  have HL := Lib.hid h.len4
  obtain ⟨xi, yi, di, ei, hxi⟩ := snd_at h.len4 hi
  obtain ⟨b1, b2, -, -⟩ := sndOk_bd (sndsOk_get hs hxi.out)
  obtain ⟨b, off, rfl, hbw⟩ := h.head4 hi
  have hI : (i : Int) < (n : Int) := by omega
  go_enter Try.func38, Try.ntmps38
  go_wp2
  go_loopw [7, 12] (fun o kk wr => ∃ (k : Nat) (a' : Option Addr) (q cp : Nat), k ≤ n ∧ kk = .int .i64 k ∧ o = .slice a' q cp ∧ Own wr (w.heap.size + 1) wr.heap.size 2 1 a' q cp (ints (pick (nearB xs r i) k)) ∧ Below w.heap.size w wr ∧ Hid (Blk wr w.heap.size 26 #[.int .i64 r, .int .i64 l, .int .i64 m])) (fun _ i _ => n - (intOf i).toNat)
  case atStart => exact ⟨0, _, 0, 0, Nat.zero_le _, rfl, rfl, Own.nil_ _ _ _ _ _, (Below.refl _ _).alloc (Nat.le_refl _) _, Blk.new _ _ _⟩
  case round =>
    obtain ⟨k, a', q, cp, hk, rfl, rfl, hown, hbel, K⟩ := hrel
    have hq := pick_len (nearB xs r i) k
    have hq2 : q ≤ k := by have := hown.row.len; omega
    by_cases hlt : k < n
    · obtain ⟨x, y, d, e, hx⟩ := snd_at HL.out hlt
      obtain ⟨d1, d2, -, -⟩ := sndOk_bd (sndsOk_get hs hx.out)
      have hw := h.below4 hbel (Nat.le_refl _)
      obtain ⟨hc0, hc1, hc2, hc3⟩ := hw.get4_ hx.out
      clear hw
      have hkI : (k : Int) < (n : Int) := by omega
      go_wp2_with fail
      obtain ⟨wa, hwa⟩ : ∃ wa, wr.alloc (.cells #[.int .i64 x, .int .i64 y, .int .i64 d, .int .i64 e] 46) = wa := ⟨_, rfl⟩
      rw [hwa]
      have hbela : Below w.heap.size w wa := hwa ▸ hbel.alloc hbel.size _
      have KA := Lib.hid (show Blk wa w.heap.size 26 _ from hwa ▸ K.out.alloc _)
      have k0 : wa.cell? ⟨w.heap.size, 0, none⟩ = some (.int .i64 r) := KA.out.cell 0
      have hX := hwa ▸ Blk.new wr 46 #[.int .i64 x, .int .i64 y, .int .i64 d, .int .i64 e]
      have x0 : wa.cell? ⟨wr.heap.size, 0, none⟩ = some (.int .i64 x) := hX.cell 0
      have x1 : wa.cell? ⟨wr.heap.size, 1, none⟩ = some (.int .i64 y) := hX.cell 1
      have x2 : wa.cell? ⟨wr.heap.size, 2, none⟩ = some (.int .i64 d) := hX.cell 2
      have x3 : wa.cell? ⟨wr.heap.size, 3, none⟩ = some (.int .i64 e) := hX.cell 3
      obtain ⟨i0, i1, -, -⟩ := (h.below4 hbela (Nat.le_refl _)).get4_ hxi.out
      have howa : Own wa (w.heap.size + 1) wa.heap.size 2 1 a' q cp (ints (pick (nearB xs r i) k)) := by
        have := hwa ▸ hown.alloc (.cells #[.int .i64 x, .int .i64 y, .int .i64 d, .int .i64 e] 46)
        exact this.leave
      have hsa : w.heap.size + 1 ≤ wa.heap.size := KA.out.lt
      clear hwa hX hc0 hc1 hc2 hc3 hown K hbel
      by_cases hki : k = i
      · have hne : ((k : Int) != (i : Int)) = false := by simp; omega
        have hp := pick_no (p := nearB xs r i) (k := k) (by simp [nearB, hki])
        have hp2 := Lib.hid hp; clear hp
        have hki2 := Lib.hid hki; clear hki
        go_quiet (fail)
        go_wp2
        go_roundw
        case rel => exact ⟨k + 1, a', q, cp, by omega, by go_num, rfl, by rw [hp2.out]; exact howa.drewN _, bdn hbela _, KA.out.drewN _⟩
        case measure => simp [intOf]; omega
      · have hne : ((k : Int) != (i : Int)) = true := by simp; omega
        have hki2 := Lib.hid hki; clear hki
        cases hin : nearQ x y xi yi r
        · have hp2 := Lib.hid (pick_no (p := nearB xs r i) (k := k) (by unfold nearB; rw [at4_get hx.out, at4_get hxi.out, hin]; simp))
          go_still_tail 17, (by kernel_rfl)
          change wpList _ _ _ _ _ wa.drew
          go_wp2_with fail
          go_at_call 62
          refine (isNear_any _ _ _ _ _ _ _ _ d1 d2 b1 b2 hr).mono ?_
          rintro e2 w2 ⟨rfl, hb⟩
          have hbel2 := hbela.drew.trans (hb.mono hbela.drew.size)
          have K2 := Lib.hid (KA.out.drew.belowSelf hb)
          have how2 := (howa.drew.below hb (.inr (Nat.le_refl _))).leave
          clear hb hbela KA howa k0 x0 x1 x2 x3 i0 i1
          go_wp2
          go_roundw
          case rel => exact ⟨k + 1, a', q, cp, by omega, by go_num, rfl, by rw [hp2.out]; exact how2, hbel2, K2.out⟩
          case measure => simp [intOf]; omega
        · have hp2 := Lib.hid (pick_yes (p := nearB xs r i) (k := k) (by unfold nearB; rw [at4_get hx.out, at4_get hxi.out, hin]; simp [hki2.out]))
          go_still_tail 17, (by kernel_rfl)
          change wpList _ _ _ _ _ wa.drew
          go_wp2_with fail
          go_at_call 62
          refine (isNear_any _ _ _ _ _ _ _ _ d1 d2 b1 b2 hr).mono ?_
          rintro e2 w2 ⟨rfl, hb⟩
          have hbel2 := hbela.drew.trans (hb.mono hbela.drew.size)
          have K2 := Lib.hid (KA.out.drew.belowSelf hb)
          have how2 := (howa.drew.below hb (.inr (Nat.le_refl _))).leave
          have hs2 := K2.out.lt
          clear hb hbela KA howa k0 x0 x1 x2 x3 i0 i1
          go_wp2_with (at_builtin; refine wpList_app _ rfl (.tmp 36) (.tmp 38) _ rfl Try.underlying29 info_i64 rfl (by decide) rfl (how2.alloc _) rfl (Row.one _ _ _) (ints_one [(k : Int)]) (by decide) (by simp only [maxLen]; omega) (by omega) (by simp; omega) ?_; intro A2 c2 w3 hown3 hb3 _)
          go_roundw
          case rel => exact ⟨k + 1, A2, q + 1, c2, by omega, by go_num, rfl, by rw [hp2.out, ints_app]; exact hown3, (hbel2.alloc hbel2.size _).trans (hb3.mono (Nat.le_succ _)), (K2.out.alloc _).below hb3 (Nat.lt_succ_self _)⟩
          case measure => simp [intOf]; omega
    · go_wp2
      go_ret
      have hd : k = n := by omega
      subst hd
      refine ⟨_, _, _, rfl, ?_, hbel⟩
      rw [nearL, HL.out]
      exact hown.mono (Nat.le_succ _) (Nat.le_refl _)

set_option maxHeartbeats 1600000 in
theorem l23Near_any (r l m : Int) (a : Option Addr) (n c : Nat) (xs : List I4) (i : Nat) (w : World) (h : Row w 4 a n (frs xs)) (hs : sndsOk xs = true) (hr : 0 ≤ r ∧ r ≤ 10000) (hi : i < n) :
    Calls Try.prog 42 #[.slice a n c, .agg #[.int .i64 r, .int .i64 l, .int .i64 m], .int .i64 (i : Int)] w fun e w' => ∃ a' q c', e = .returned (.slice a' q c') ∧ Own w' w.heap.size w'.heap.size 2 1 a' q c' (ints (nearL xs r i)) ∧ Below w.heap.size w w' := by
  have hn := sndsOk_len hs h.len4
  have HL := Lib.hid h.len4
  obtain ⟨xi, yi, di, ei, hxi⟩ := snd_at h.len4 hi
  obtain ⟨b1, b2, -, -⟩ := sndOk_bd (sndsOk_get hs hxi.out)
  obtain ⟨b, off, rfl, hbw⟩ := h.head4 hi
  have hI : (i : Int) < (n : Int) := by omega
  go_enter Try.func42, Try.ntmps42
  go_wp2
  go_loopw [7, 8] (fun o kk wr => ∃ (k : Nat) (a' : Option Addr) (q cp : Nat), k ≤ n ∧ kk = .int .i64 k ∧ o = .slice a' q cp ∧ Own wr (w.heap.size + 1) wr.heap.size 2 1 a' q cp (ints (pick (nearB xs r i) k)) ∧ Below w.heap.size w wr ∧ Hid (Blk wr w.heap.size 26 #[.int .i64 r, .int .i64 l, .int .i64 m])) (fun _ i _ => n - (intOf i).toNat)
  case atStart => exact ⟨0, _, 0, 0, Nat.zero_le _, rfl, rfl, by have := (Own.lit0 (w.alloc (.cells #[.int .i64 r, .int .i64 l, .int .i64 m] 26)) 2 1).mono (lo' := w.heap.size + 1) (hi' := ((w.alloc (.cells #[.int .i64 r, .int .i64 l, .int .i64 m] 26)).alloc (.cells #[] 2)).heap.size) (by simp) (by simp); rw [World.size_alloc w] at this; exact this, ((Below.refl _ _).alloc (Nat.le_refl _) _).alloc (by simp) _, (Blk.new _ _ _).alloc _⟩
  case round =>
    obtain ⟨k, a', q, cp, hk, rfl, rfl, hown, hbel, K⟩ := hrel
    have hq := pick_len (nearB xs r i) k
    have hq2 : q ≤ k := by have := hown.row.len; omega
    by_cases hlt : k < n
    · obtain ⟨x, y, d, e, hx⟩ := snd_at HL.out hlt
      obtain ⟨d1, d2, -, -⟩ := sndOk_bd (sndsOk_get hs hx.out)
      have hw := h.below4 hbel (Nat.le_refl _)
      obtain ⟨hc0, hc1, -, -⟩ := hw.get4_ hx.out
      obtain ⟨i0, i1, -, -⟩ := hw.get4_ hxi.out
      have k0 : wr.cell? ⟨w.heap.size, 0, none⟩ = some (.int .i64 r) := K.out.cell 0
      have hkI : (k : Int) < (n : Int) := by omega
      have hsz : w.heap.size + 1 ≤ wr.heap.size := K.out.lt
      clear hw
      by_cases hki : k = i
      · have hne : ((k : Int) != (i : Int)) = false := by simp; omega
        have hp2 := Lib.hid (pick_no (p := nearB xs r i) (k := k) (by simp [nearB, hki]))
        have hki2 := Lib.hid hki; clear hki
        go_wp2_with fail
        go_quiet (fail)
        go_wp2
        go_roundw
        case rel => exact ⟨k + 1, a', q, cp, by omega, by go_num, rfl, by rw [hp2.out]; exact hown.drewN _, bdn hbel _, K.out.drewN _⟩
        case measure => simp [intOf]; omega
      · have hne : ((k : Int) != (i : Int)) = true := by simp; omega
        have hki2 := Lib.hid hki; clear hki
        cases hin : nearQ xi yi x y r
        · have hp2 := Lib.hid (pick_no (p := nearB xs r i) (k := k) (by unfold nearB; rw [at4_get hx.out, at4_get hxi.out, nearQ_sym, hin]; simp))
          go_wp2_with fail
          go_quiet ((go_at_call 63; first | exact quiet_eq (l21Within_any _ _ _ _ _ _ b1 b2 d1 d2 hr) | exact quiet_eq' (l21Within_any _ _ _ _ _ _ b1 b2 d1 d2 hr)))
          go_wp2
          go_roundw
          case rel => exact ⟨k + 1, a', q, cp, by omega, by go_num, rfl, by rw [hp2.out]; exact hown.drewN _, bdn hbel _, K.out.drewN _⟩
          case measure => simp [intOf]; omega
        · have hp2 := Lib.hid (pick_yes (p := nearB xs r i) (k := k) (by unfold nearB; rw [at4_get hx.out, at4_get hxi.out, nearQ_sym, hin]; simp [hki2.out]))
          go_wp2_with fail
          go_quiet ((go_at_call 63; first | exact quiet_eq (l21Within_any _ _ _ _ _ _ b1 b2 d1 d2 hr) | exact quiet_eq' (l21Within_any _ _ _ _ _ _ b1 b2 d1 d2 hr)))
          go_wp2_with (at_builtin; refine wpList_app _ rfl (.tmp 44) (.tmp 46) _ rfl Try.underlying29 info_i64 rfl (by decide) rfl ((hown.drewN _).alloc _) rfl (Row.one _ _ _) (ints_one [(k : Int)]) (by decide) (by simp only [maxLen]; omega) (by omega) (by simp; omega) ?_; intro A2 c2 w3 hown3 hb3 _)
          go_roundw
          case rel => exact ⟨k + 1, A2, q + 1, c2, by omega, by go_num, rfl, by rw [hp2.out, ints_app]; exact hown3, ((bdn hbel _).alloc (bdn hbel _).size _).trans (hb3.mono (Nat.le_succ _)), ((K.out.drewN _).alloc _).below hb3 (Nat.lt_succ_self _)⟩
          case measure => simp [intOf]; omega
    · go_wp2
      go_ret
      have hd : k = n := by omega
      subst hd
      refine ⟨_, _, _, rfl, ?_, hbel⟩
      rw [nearL, HL.out]
      exact hown.mono (Nat.le_succ _) (Nat.le_refl _)

theorem lengthSnd_any (a : Option Addr) (n c : Nat) (w : World) (hn : n ≤ 9223372036854775807) :
    Calls Try.prog 61 #[.slice a n c] w fun e w' => e = .returned (.int .i64 n) ∧ w = w' := by
  go_enter Try.func61, Try.ntmps61
  go_wp2
  go_ret
  exact ⟨rfl, rfl⟩

/-- The test of a list and a rule, in the four cases. -/
theorem ruleCode_any (r l m : Int) (a : Option Addr) (n c : Nat) (xs : List I4) (w : World) (h : Row w 4 a n (frs xs)) (hn : n ≤ 1048576) :
    Calls Try.prog 45 #[.slice a n c, .agg #[.int .i64 r, .int .i64 l, .int .i64 m]] w fun e w' => e = .returned (.int .i64 (ruleC xs r l m)) ∧ Below w.heap.size w w' := by
  have K := Lib.hid (Blk.new w 26 #[.int .i64 r, .int .i64 l, .int .i64 m])
  have B : Below w.heap.size w (w.alloc (.cells #[.int .i64 r, .int .i64 l, .int .i64 m] 26)) := (Below.refl _ _).alloc (Nat.le_refl _) _
  have h1 := h.alloc4 (.cells #[.int .i64 r, .int .i64 l, .int .i64 m] 26)
  cases hs : sndsOk xs
  · have hc := ruleC_no (ss := xs) (r := r) (l := l) (m := m) (by rw [hs]; rfl)
    rw [hc]
    clear hc
    go_enter Try.func45, Try.ntmps45
    go_wp2_with (go_at_call 52; refine (areSoundings_impl _ _ _ _ _ h1 hn).mono ?_; rintro e w' ⟨rfl, hb⟩)
    go_ret
    exact ⟨rfl, B.trans (hb.mono B.size)⟩
  · cases hr : spikeRuleOk r l m
    · have hc := ruleC_no (ss := xs) (r := r) (l := l) (m := m) (by rw [hr, Bool.and_false])
      rw [hc]
      clear hc
      go_enter Try.func45, Try.ntmps45
      go_wp2_with fail
      go_at_call 52
      refine (areSoundings_impl _ _ _ _ _ h1 hn).mono ?_
      rintro e w1 ⟨rfl, hb⟩
      rw [hs]
      have k0 : w1.cell? ⟨w.heap.size, 0, none⟩ = some (.int .i64 r) := (K.out.belowSelf hb).cell 0
      have k1 : w1.cell? ⟨w.heap.size, 1, none⟩ = some (.int .i64 l) := (K.out.belowSelf hb).cell 1
      have k2 : w1.cell? ⟨w.heap.size, 2, none⟩ = some (.int .i64 m) := (K.out.belowSelf hb).cell 2
      have B1 := B.trans (hb.mono B.size)
      clear hb
      go_wp2_with (go_at_call 17; refine (isSpikeRule_impl _ _ _ _).mono ?_; rintro e w' ⟨rfl, hb⟩)
      go_ret
      exact ⟨rfl, B1.trans (hb.mono B1.size)⟩
    · have hc := ruleC_yes (ss := xs) (r := r) (l := l) (m := m) (by rw [hs, hr]; rfl)
      rw [hc]
      clear hc
      go_enter Try.func45, Try.ntmps45
      go_wp2_with fail
      go_at_call 52
      refine (areSoundings_impl _ _ _ _ _ h1 hn).mono ?_
      rintro e w1 ⟨rfl, hb⟩
      rw [hs]
      have k0 : w1.cell? ⟨w.heap.size, 0, none⟩ = some (.int .i64 r) := (K.out.belowSelf hb).cell 0
      have k1 : w1.cell? ⟨w.heap.size, 1, none⟩ = some (.int .i64 l) := (K.out.belowSelf hb).cell 1
      have k2 : w1.cell? ⟨w.heap.size, 2, none⟩ = some (.int .i64 m) := (K.out.belowSelf hb).cell 2
      have B1 := B.trans (hb.mono B.size)
      clear hb
      go_wp2_with (go_at_call 17; refine (isSpikeRule_impl _ _ _ _).mono ?_; rintro e w' ⟨rfl, hb⟩)
      go_ret
      exact ⟨rfl, B1.trans (hb.mono B1.size)⟩

theorem l23Code_any (r l m : Int) (a : Option Addr) (n c : Nat) (xs : List I4) (w : World) (h : Row w 4 a n (frs xs)) (hn : n ≤ 1048576) :
    Calls Try.prog 33 #[.slice a n c, .agg #[.int .i64 r, .int .i64 l, .int .i64 m]] w fun e w' => e = .returned (.int .i64 (ruleC xs r l m)) ∧ Below w.heap.size w w' := by
  have K := Lib.hid (Blk.new w 26 #[.int .i64 r, .int .i64 l, .int .i64 m])
  have B : Below w.heap.size w (w.alloc (.cells #[.int .i64 r, .int .i64 l, .int .i64 m] 26)) := (Below.refl _ _).alloc (Nat.le_refl _) _
  have h1 := h.alloc4 (.cells #[.int .i64 r, .int .i64 l, .int .i64 m] 26)
  cases hs : sndsOk xs
  · have hc := ruleC_no (ss := xs) (r := r) (l := l) (m := m) (by rw [hs]; rfl)
    rw [hc]
    clear hc
    go_enter Try.func33, Try.ntmps33
    go_wp2_with (go_at_call 58; refine (areSoundings_spec _ _ _ _ _ h1 hn).mono ?_; rintro e w' ⟨rfl, hb⟩)
    go_ret
    exact ⟨rfl, B.trans (hb.mono B.size)⟩
  · cases hr : spikeRuleOk r l m
    · have hc := ruleC_no (ss := xs) (r := r) (l := l) (m := m) (by rw [hr, Bool.and_false])
      rw [hc]
      clear hc
      go_enter Try.func33, Try.ntmps33
      go_wp2_with fail
      go_at_call 58
      refine (areSoundings_spec _ _ _ _ _ h1 hn).mono ?_
      rintro e w1 ⟨rfl, hb⟩
      rw [hs]
      have k0 : w1.cell? ⟨w.heap.size, 0, none⟩ = some (.int .i64 r) := (K.out.belowSelf hb).cell 0
      have k1 : w1.cell? ⟨w.heap.size, 1, none⟩ = some (.int .i64 l) := (K.out.belowSelf hb).cell 1
      have k2 : w1.cell? ⟨w.heap.size, 2, none⟩ = some (.int .i64 m) := (K.out.belowSelf hb).cell 2
      have B1 := B.trans (hb.mono B.size)
      clear hb
      go_wp2_with (go_at_call 18; refine (isSpikeRule_spec _ _ _ _).mono ?_; rintro e w' ⟨rfl, hb⟩)
      go_ret
      exact ⟨rfl, B1.trans (hb.mono B1.size)⟩
    · have hc := ruleC_yes (ss := xs) (r := r) (l := l) (m := m) (by rw [hs, hr]; rfl)
      rw [hc]
      clear hc
      go_enter Try.func33, Try.ntmps33
      go_wp2_with fail
      go_at_call 58
      refine (areSoundings_spec _ _ _ _ _ h1 hn).mono ?_
      rintro e w1 ⟨rfl, hb⟩
      rw [hs]
      have k0 : w1.cell? ⟨w.heap.size, 0, none⟩ = some (.int .i64 r) := (K.out.belowSelf hb).cell 0
      have k1 : w1.cell? ⟨w.heap.size, 1, none⟩ = some (.int .i64 l) := (K.out.belowSelf hb).cell 1
      have k2 : w1.cell? ⟨w.heap.size, 2, none⟩ = some (.int .i64 m) := (K.out.belowSelf hb).cell 2
      have B1 := B.trans (hb.mono B.size)
      clear hb
      go_wp2_with (go_at_call 18; refine (isSpikeRule_spec _ _ _ _).mono ?_; rintro e w' ⟨rfl, hb⟩)
      go_ret
      exact ⟨rfl, B1.trans (hb.mono B1.size)⟩

theorem indexCode_any (r l m : Int) (a : Option Addr) (n c : Nat) (xs : List I4) (i : Int) (w : World) (h : Row w 4 a n (frs xs)) (hn : n ≤ 1048576) :
    Calls Try.prog 37 #[.slice a n c, .agg #[.int .i64 r, .int .i64 l, .int .i64 m], .int .i64 i] w fun e w' => e = .returned (.int .i64 (indexC xs r l m i)) ∧ Below w.heap.size w w' := by
  have K := Lib.hid (Blk.new w 26 #[.int .i64 r, .int .i64 l, .int .i64 m])
  have B : Below w.heap.size w (w.alloc (.cells #[.int .i64 r, .int .i64 l, .int .i64 m] 26)) := (Below.refl _ _).alloc (Nat.le_refl _) _
  have h1 := h.alloc4 (.cells #[.int .i64 r, .int .i64 l, .int .i64 m] 26)
  have hl := Lib.hid h.len4
  cases hs : sndsOk xs && spikeRuleOk r l m
  · rw [indexC_no hs]
    have hc := ruleC_no hs
    clear hs
    go_enter Try.func37, Try.ntmps37
    go_wp2_with (go_at_call 45; refine (ruleCode_any _ _ _ _ _ _ _ _ h1 hn).mono ?_; rintro e w' ⟨rfl, hb⟩)
    go_ret
    exact ⟨rfl, B.trans (hb.mono B.size)⟩
  · have hc := ruleC_yes hs
    cases hi : inR 0 ((n : Int) - 1) i
    · rw [indexC_out hs (by rw [hl.out]; exact hi)]
      clear hs
      go_enter Try.func37, Try.ntmps37
      go_wp2_with (first | (go_at_call 45; refine (ruleCode_any _ _ _ _ _ _ _ _ h1 hn).mono ?_; rintro e w' ⟨rfl, hb⟩) | (go_at_call 61; refine (lengthSnd_any _ _ _ _ (by omega)).mono ?_; rintro e w' ⟨rfl, rfl⟩) | (go_at_call 44; refine (within_any _ _ _ _).mono ?_; rintro e w' ⟨rfl, rfl⟩))
      go_ret
      exact ⟨rfl, B.trans (hb.mono B.size)⟩
    · rw [indexC_yes hs (by rw [hl.out]; exact hi)]
      clear hs
      go_enter Try.func37, Try.ntmps37
      go_wp2_with (first | (go_at_call 45; refine (ruleCode_any _ _ _ _ _ _ _ _ h1 hn).mono ?_; rintro e w' ⟨rfl, hb⟩) | (go_at_call 61; refine (lengthSnd_any _ _ _ _ (by omega)).mono ?_; rintro e w' ⟨rfl, rfl⟩) | (go_at_call 44; refine (within_any _ _ _ _).mono ?_; rintro e w' ⟨rfl, rfl⟩))
      go_ret
      exact ⟨rfl, B.trans (hb.mono B.size)⟩

set_option maxHeartbeats 1600000 in
theorem neighboursOf_impl (a : Option Addr) (n c : Nat) (xs : List I4) (r l m i : Int) (w : World) (h : Row w 4 a n (frs xs)) (hn : n ≤ 1048576) :
    Calls Try.prog 14 #[.slice a n c, .agg #[.int .i64 r, .int .i64 l, .int .i64 m], .int .i64 i] w fun e w' => ∃ a q cp, e = .returned (.tuple #[.slice a q cp, .int .i64 (neighboursOf xs r l m i).2]) ∧ Own w' w.heap.size w'.heap.size 2 1 a q cp (ints (neighboursOf xs r l m i).1) ∧ Below w.heap.size w w' := by
  have K := Lib.hid (Blk.new w 26 #[.int .i64 r, .int .i64 l, .int .i64 m])
  have B : Below w.heap.size w (w.alloc (.cells #[.int .i64 r, .int .i64 l, .int .i64 m] 26)) := (Below.refl _ _).alloc (Nat.le_refl _) _
  have h1 := h.alloc4 (.cells #[.int .i64 r, .int .i64 l, .int .i64 m] 26)
  have hl := Lib.hid h.len4
  go_enter Try.func14, Try.ntmps14
  go_wp2_with fail
  go_at_call 37
  refine (indexCode_any _ _ _ _ _ _ _ _ _ h1 hn).mono ?_
  rintro e w1 ⟨rfl, hb⟩
  have K1 := Lib.hid (K.out.belowSelf hb)
  replace B := B.trans (hb.mono B.size)
  have h2 := h.below4 B (Nat.le_refl _)
  clear hb h1 K
  rcases indexC_cases xs r l m i with ⟨hc, h3, h4⟩ | ⟨cc, hc, hc0⟩
  · rw [hc]
    replace hc := Lib.hid hc
    obtain ⟨g1, g2⟩ := h4
    obtain ⟨I, rfl⟩ := Int.eq_ofNat_of_zero_le g1
    have g3 : I < n := by have := hl.out; omega
    obtain ⟨hs, hr⟩ := h3
    obtain ⟨hr, -, -⟩ := rule_bd hr
    have k0 : w1.cell? ⟨w.heap.size, 0, none⟩ = some (.int .i64 r) := K1.out.cell 0
    have k1 : w1.cell? ⟨w.heap.size, 1, none⟩ = some (.int .i64 l) := K1.out.cell 1
    have k2 : w1.cell? ⟨w.heap.size, 2, none⟩ = some (.int .i64 m) := K1.out.cell 2
    have hs' := Lib.hid hs; clear hs
    go_wp2_with fail
    go_at_call 38
    refine (neighbours_any _ _ _ _ _ _ _ _ _ h2 hs'.out hr g3).mono ?_
    rintro e w2 ⟨a', q, c', rfl, ho, hb⟩
    have hsz := B.size
    go_wp2
    go_ret2
    rw [neighboursOf_yes hc.out]
    exact ⟨_, _, _, rfl, ho.mono hsz (Nat.le_refl _), B.trans (hb.mono B.size)⟩
  · rw [hc]
    have hno := Lib.hid (neighboursOf_no hc hc0)
    clear hc
    have e1 : (cc != 0) = true := by simpa using hc0
    clear hc0
    go_wp2
    go_ret2
    rw [hno.out]
    exact ⟨_, _, _, rfl, Own.nil_ _ _ _ _ _, B⟩

set_option maxHeartbeats 1600000 in
theorem neighboursOf_spec (a : Option Addr) (n c : Nat) (xs : List I4) (r l m i : Int) (w : World) (h : Row w 4 a n (frs xs)) (hn : n ≤ 1048576) :
    Calls Try.prog 15 #[.slice a n c, .agg #[.int .i64 r, .int .i64 l, .int .i64 m], .int .i64 i] w fun e w' => ∃ a q cp, e = .returned (.tuple #[.slice a q cp, .int .i64 (neighboursOf xs r l m i).2]) ∧ Own w' w.heap.size w'.heap.size 2 1 a q cp (ints (neighboursOf xs r l m i).1) ∧ Below w.heap.size w w' := by
  have K := Lib.hid (Blk.new w 26 #[.int .i64 r, .int .i64 l, .int .i64 m])
  have B : Below w.heap.size w (w.alloc (.cells #[.int .i64 r, .int .i64 l, .int .i64 m] 26)) := (Below.refl _ _).alloc (Nat.le_refl _) _
  have h1 := h.alloc4 (.cells #[.int .i64 r, .int .i64 l, .int .i64 m] 26)
  have hl := Lib.hid h.len4
  go_enter Try.func15, Try.ntmps15
  go_wp2_with fail
  go_at_call 33
  refine (l23Code_any _ _ _ _ _ _ _ _ h1 hn).mono ?_
  rintro e w1 ⟨rfl, hb⟩
  have K1 := Lib.hid (K.out.belowSelf hb)
  replace B := B.trans (hb.mono B.size)
  have h2 := h.below4 B (Nat.le_refl _)
  clear hb h1 K
  cases h3 : sndsOk xs && spikeRuleOk r l m
  · have hno : neighboursOf xs r l m i = ([], 1) := neighboursOf_no (indexC_no h3) (by omega)
    rw [ruleC_no h3]
    replace hno := Lib.hid hno
    clear h3
    go_wp2
    go_ret2
    rw [hno.out]
    exact ⟨_, _, _, rfl, Own.nil_ _ _ _ _ _, B⟩
  · rw [ruleC_yes h3]
    cases hi : inR 0 ((n : Int) - 1) i
    · have hno : neighboursOf xs r l m i = ([], 2) := neighboursOf_no (indexC_out h3 (by rw [hl.out]; exact hi)) (by omega)
      replace hno := Lib.hid hno
      clear h3
      go_wp2_with (go_at_call 41; refine (l01In_any _ _ _ _).mono ?_; rintro e w' ⟨rfl, rfl⟩)
      go_ret2
      rw [hno.out]
      exact ⟨_, _, _, rfl, Own.nil_ _ _ _ _ _, B⟩
    · have hyes := indexC_yes h3 (by rw [hl.out]; exact hi)
      replace hyes := Lib.hid hyes
      simp only [Bool.and_eq_true] at h3
      obtain ⟨hs, hr⟩ := h3
      obtain ⟨hr, -, -⟩ := rule_bd hr
      have hs' := Lib.hid hs; clear hs
      have g := hi
      simp only [inR, Bool.and_eq_true, decide_eq_true_eq] at g
      obtain ⟨g1, g2⟩ := g
      obtain ⟨I, rfl⟩ := Int.eq_ofNat_of_zero_le g1
      have g3 : I < n := by omega
      have k0 : w1.cell? ⟨w.heap.size, 0, none⟩ = some (.int .i64 r) := K1.out.cell 0
      have k1 : w1.cell? ⟨w.heap.size, 1, none⟩ = some (.int .i64 l) := K1.out.cell 1
      have k2 : w1.cell? ⟨w.heap.size, 2, none⟩ = some (.int .i64 m) := K1.out.cell 2
      go_wp2_with (go_at_call 41; refine (l01In_any _ _ _ _).mono ?_; rintro e w' ⟨rfl, rfl⟩)
      go_at_call 42
      refine (l23Near_any _ _ _ _ _ _ _ _ _ h2 hs'.out hr g3).mono ?_
      rintro e w2 ⟨a', q, c', rfl, ho, hb⟩
      have hsz := B.size
      go_wp2
      go_ret2
      rw [neighboursOf_yes hyes.out]
      exact ⟨_, _, _, rfl, ho.mono hsz (Nat.le_refl _), B.trans (hb.mono B.size)⟩
end Go.Proofs.Ytcbehnlpefjhdaa
