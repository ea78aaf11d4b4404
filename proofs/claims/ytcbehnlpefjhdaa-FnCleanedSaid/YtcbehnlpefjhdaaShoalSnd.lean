/- The shoalest sounding; lists of soundings that are alike. -/
import Derived.Test.YtcbehnlpefjhdaaPClean
import Derived.Test.YtcbehnlpefjhdaaSndOk
import Derived.Test.YtcbehnlpefjhdaaSounding
import Derived.Deep.QuietTactic
import Derived.BigQuiet
import Derived.Deep.Cut
import Derived.Deep.RegionHeld3
namespace Go.Proofs.Ytcbehnlpefjhdaa
open Go.RowKit
set_option maxRecDepth 100000
set_option linter.unusedVariables false

theorem likeSoundings_same (a b : Option Addr) (n c d : Nat) (xs : List I4) (w : World) (hxs : Row w 4 a n (frs xs)) (hys : Row w 4 b n (frs xs)) (hn : n ≤ 1048576) :
    Calls Try.prog 27 #[.slice a n c, .slice b n d] w fun e w' => e = .returned (.bool true) ∧ Below w.heap.size w w' := by
  go_enter Try.func27, Try.ntmps27
  go_wp2
  go_loopw [5] (fun i wr => ∃ k : Nat, k ≤ n ∧ i = .int .i64 k ∧ Below w.heap.size w wr) (fun i _ => n - (intOf i).toNat)
  case atStart => exact ⟨0, Nat.zero_le _, rfl, Below.refl _ _⟩
  case round =>
    obtain ⟨k, hk, rfl, hbel⟩ := hrel
    by_cases hlt : k < n
    · obtain ⟨b1, off1, x, y, z, u, rfl, ⟨hc0, hc1, hc2, hc3⟩, hx⟩ := (hxs.below4 hbel (Nat.le_refl _)).at4 hlt
      obtain ⟨b2, off2, x', y', z', u', rfl, ⟨hd0, hd1, hd2, hd3⟩, hy⟩ := (hys.below4 hbel (Nat.le_refl _)).at4 hlt
      have he := hy.out
      rw [hx.out] at he
      simp only [Option.some.injEq, Prod.mk.injEq] at he
      obtain ⟨rfl, rfl, rfl, rfl⟩ := he
      have hi : (k : Int) < (n : Int) := by omega
      clear hx hy
      go_wp2_with fail
      go_quiet (fail)
      go_wp2
      go_roundw
      case rel => exact ⟨k + 1, by omega, by go_num, bdn hbel _⟩
      case measure => simp [intOf] <;> omega
    · go_wp2
      go_ret
      exact ⟨rfl, hbel⟩

theorem field_lowS (p q : Value) (w : World) : (Instr.field 59 (.agg #[p, q]) 0).run Try.prog w = .ok p w := by first | rfl | kernel_rfl
theorem shoalF_le (ss : List I4) : ∀ k, shoalF ss k ≤ k
  | 0 => Nat.le_refl _
  | k + 1 => by have := shoalF_lt ss (k + 1) (by omega); omega

set_option maxHeartbeats 3200000 in
theorem shoalestOf_impl (a : Option Addr) (n c : Nat) (xs : List I4) (w : World) (h : Row w 4 a n (frs xs)) (hn : n ≤ 1048576) :
    Calls Try.prog 28 #[.slice a n c] w fun e w' => e = .returned (.tuple #[.int .i64 (shoalOf xs).1, .int .i64 (shoalOf xs).2]) ∧ Below w.heap.size w w' := by
  cases hok : sndsOk xs
  · rw [shoalOf_bad hok]
    go_enter Try.func28, Try.ntmps28
    go_wp2_with (go_at_call 52; refine (areSoundings_impl _ _ _ _ _ h hn).mono ?_; rintro e w1 ⟨rfl, hb⟩; rw [hok])
    go_ret2
    exact ⟨rfl, hb⟩
  · have hl := h.len4
    by_cases h0 : n = 0
    · subst h0
      rw [shoalOf_none hok hl]
      clear hl
      go_enter Try.func28, Try.ntmps28
      go_wp2_with (go_at_call 52; refine (areSoundings_impl _ _ _ _ _ h hn).mono ?_; rintro e w1 ⟨rfl, hb⟩; rw [hok])
      go_ret2
      exact ⟨rfl, hb⟩
    · have hs := Lib.hid (shoalOf_yes hok (by omega))
      have HL := Lib.hid hl
      have HK := Lib.hid hok
      have hnf : ((n : Int) == 0) = false := by simp; omega
      have hn2 : n ≤ 200 := sndsOk_len hok hl
      rw [hs.out]
      go_enter Try.func28, Try.ntmps28
      go_wp2_with (go_at_call 52; refine (areSoundings_impl _ _ _ _ _ h hn).mono ?_; rintro e w1 ⟨rfl, hb⟩; rw [hok])
      replace h := h.below4 hb (Nat.le_refl _)
      have HB := Lib.hid hb
      clear hb hl hok hnf hs
      go_loopw [4, 17] (fun b i wr => ∃ k : Nat, k ≤ n ∧ i = .int .i64 k ∧ b = .int .i64 ((shoalF xs k : Nat) : Int) ∧ Below w1.heap.size w1 wr) (fun _ i _ => n - (intOf i).toNat)
      case atStart => exact ⟨0, Nat.zero_le _, rfl, rfl, Below.refl _ _⟩
      case round =>
        obtain ⟨k, hk, rfl, rfl, hbel⟩ := hrel
        by_cases hlt : k < n
        · have hR := h.below4 hbel (Nat.le_refl _)
          obtain ⟨b1, off1, x, y, d, e, rfl, ⟨hc0, hc1, hc2, hc3⟩, hx⟩ := hR.at4 hlt
          have hJl : shoalF xs k < n := by have := shoalF_le xs k; omega
          obtain ⟨x', y', d', e', hx'⟩ : ∃ x y d e, xs[shoalF xs k]? = some (x, y, d, e) := ⟨_, _, _, _, List.getElem?_eq_getElem (by have := HL.out; omega)⟩
          have hbd := sndOk_bd (sndsOk_get HK.out hx.out)
          have hbd' := sndOk_bd (sndsOk_get HK.out hx')
          obtain ⟨J0, J1, J2, J3⟩ := hR.get4_ hx'
          have hnext : Hid (shoalF xs (k + 1) = if d - e < d' - e' then k else shoalF xs k) := by
            unfold Hid
            rw [shoalF, at4_get hx.out, at4_get hx']
            rfl
          obtain ⟨J, hJ⟩ : ∃ J, shoalF xs k = J := ⟨_, rfl⟩
          have hbl : b1 < wr.heap.size := World.block_lt_of_cell? wr _ hc0
          rw [hJ] at hnext hJl J0 J1 J2 J3 ⊢
          have hJI : (J : Int) < (n : Int) := by omega
          have hkI : (k : Int) < (n : Int) := by omega
          have hx2 := Lib.hid hx'
          clear hJ hx' hR
          have fl := field_lowS
          go_upto_region 9 with (fail)
          obtain ⟨wa, hwa⟩ : ∃ wa, wr.alloc (.cells #[.int .i64 x, .int .i64 y, .int .i64 d, .int .i64 e] 46) = wa := ⟨_, rfl⟩
          have hba : Below wr.heap.size wr wa := hwa ▸ (Below.refl _ _).alloc (Nat.le_refl _) _
          have K := Lib.hid (show Blk wa wr.heap.size 46 #[.int .i64 x, .int .i64 y, .int .i64 d, .int .i64 e] from hwa ▸ Blk.new wr _ _)
          have hz : wa.heap.size = wr.heap.size + 1 := hwa ▸ World.size_alloc _ _
          have B := hbel.trans (hba.mono hbel.size)
          have L := Lib.hid (show wa.cell? ⟨b1, off1 + J * 4, none⟩ = some (.int .i64 x') ∧ wa.cell? ⟨b1, off1 + J * 4 + 1, none⟩ = some (.int .i64 y') ∧ wa.cell? ⟨b1, off1 + J * 4 + 2, none⟩ = some (.int .i64 d') ∧ wa.cell? ⟨b1, off1 + J * 4 + 3, none⟩ = some (.int .i64 e') from ⟨(hba.cell (p := ⟨b1, off1 + J * 4, none⟩) hbl).trans J0, (hba.cell (p := ⟨b1, off1 + J * 4 + 1, none⟩) hbl).trans J1, (hba.cell (p := ⟨b1, off1 + J * 4 + 2, none⟩) hbl).trans J2, (hba.cell (p := ⟨b1, off1 + J * 4 + 3, none⟩) hbl).trans J3⟩)
          rw [hwa]
          obtain ⟨X, hX⟩ : ∃ X, wr.heap.size = X := ⟨_, rfl⟩
          rw [hX] at K hba hz ⊢
          have hb1 : b1 < wa.heap.size := by omega
          clear hwa hba hbel hc0 hc1 hc2 hc3 J0 J1 J2 J3 hX hbl
          go_wp2_with fail
          replace B := B.drew
          replace K := Lib.hid K.out.drew
          replace hb1 : b1 < wa.drew.heap.size := hb1
          replace L : Hid (wa.drew.cell? ⟨b1, off1 + J * 4, none⟩ = some (.int .i64 x') ∧ wa.drew.cell? ⟨b1, off1 + J * 4 + 1, none⟩ = some (.int .i64 y') ∧ wa.drew.cell? ⟨b1, off1 + J * 4 + 2, none⟩ = some (.int .i64 d') ∧ wa.drew.cell? ⟨b1, off1 + J * 4 + 3, none⟩ = some (.int .i64 e')) := L
          go_region_held3 (fun w' => (w'.cell? ⟨X, 0, none⟩ = some (.int .i64 x) ∧ w'.cell? ⟨X, 1, none⟩ = some (.int .i64 y) ∧ w'.cell? ⟨X, 2, none⟩ = some (.int .i64 d) ∧ w'.cell? ⟨X, 3, none⟩ = some (.int .i64 e)) ∧ (w'.cell? ⟨b1, off1 + J * 4, none⟩ = some (.int .i64 x') ∧ w'.cell? ⟨b1, off1 + J * 4 + 1, none⟩ = some (.int .i64 y') ∧ w'.cell? ⟨b1, off1 + J * 4 + 2, none⟩ = some (.int .i64 d') ∧ w'.cell? ⟨b1, off1 + J * 4 + 3, none⟩ = some (.int .i64 e'))) (exact ⟨⟨K.out.cell 0, K.out.cell 1, K.out.cell 2, K.out.cell 3⟩, L.out⟩)
            (first | (go_at_call 39; refine (bounds_any _ _ _ _ _ (by omega) (by omega)).mono ?_; rintro e9 w9 ⟨rfl, hb⟩; replace B := B.trans (hb.mono B.size); replace K := Lib.hid (K.out.belowSelf hb); replace L := Lib.hid (show w9.cell? ⟨b1, off1 + J * 4, none⟩ = some (.int .i64 x') ∧ w9.cell? ⟨b1, off1 + J * 4 + 1, none⟩ = some (.int .i64 y') ∧ w9.cell? ⟨b1, off1 + J * 4 + 2, none⟩ = some (.int .i64 d') ∧ w9.cell? ⟨b1, off1 + J * 4 + 3, none⟩ = some (.int .i64 e') from ⟨(hb.cell (p := ⟨b1, off1 + J * 4, none⟩) hb1).trans L.out.1, (hb.cell (p := ⟨b1, off1 + J * 4 + 1, none⟩) hb1).trans L.out.2.1, (hb.cell (p := ⟨b1, off1 + J * 4 + 2, none⟩) hb1).trans L.out.2.2.1, (hb.cell (p := ⟨b1, off1 + J * 4 + 3, none⟩) hb1).trans L.out.2.2.2⟩); replace hb1 := Nat.lt_of_lt_of_le hb1 hb.size; clear hb))
          all_goals
            by_cases hlow : d - e < d' - e'
            · go_wp2
              go_roundw
              case rel => exact ⟨k + 1, by omega, by go_num, by rw [hnext.out, if_pos hlow], B⟩
              case measure => simp [intOf]; omega
            · go_wp2
              go_roundw
              case rel => exact ⟨k + 1, by omega, by go_num, by rw [hnext.out, if_neg hlow], B⟩
              case measure => simp [intOf]; omega
        · obtain rfl : k = n := by omega
          have hl := HL.out
          clear hlt hk
          go_wp2
          go_ret2
          exact ⟨by rw [hl]; rfl, HB.out.trans (hbel.mono HB.out.size)⟩
end Go.Proofs.Ytcbehnlpefjhdaa
