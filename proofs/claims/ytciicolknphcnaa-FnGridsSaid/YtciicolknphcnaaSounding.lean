/- Slices of Sounding: the statements' helpers. -/
import Derived.Test.YtciicolknphcnaaFour
import Derived.StillTailTactics
namespace Go.Proofs.Ytciicolknphcnaa
open Go.RowKit
set_option maxRecDepth 100000
set_option linter.unusedVariables false

theorem info_Sounding : (Try.prog.info? 47).map (fun i => (i.zero, i.size, i.bytes)) = some (some (.agg #[.int .i64 0, .int .i64 0, .int .i64 0, .int .i64 0]), 4, 32) := by kernel_rfl

theorem szSoundingS_any (a : Option Addr) (n c : Nat) (l : Int) (w : World) (h0 : 0 ≤ l) (h1 : l ≤ 1048576) (hn : (n : Int) ≤ 9223372036854775807) :
    Calls Try.prog 5 #[.slice a n c, .int .i64 l] w fun e w' => e = .returned (.int .i64 (szOf l n)) ∧ w = w' := by
  by_cases h : l - n < 0
  · go_enter Try.func5, Try.ntmps5
    go_wp2
    go_ret
    exact ⟨by rw [szOf_neg (by omega)]; rfl, rfl⟩
  · go_enter Try.func5, Try.ntmps5
    go_wp2
    go_ret
    exact ⟨by rw [szOf_pos (by omega)]; rfl, rfl⟩

theorem toSounding_any (x y z u : Int) (w : World) : Calls Try.prog 31 #[.agg #[.int .i64 x, .int .i64 y, .int .i64 z, .int .i64 u]] w fun e w' => e = .returned (.agg #[.int .i64 x, .int .i64 y, .int .i64 z, .int .i64 u]) ∧ Below w.heap.size w w' := by
  go_enter Try.func31, Try.ntmps31
  go_wp2
  go_returns
  exact ⟨rfl, by go_grown⟩

theorem eqSounding_any (x y z u x' y' z' u' : Int) (w : World) : Calls Try.prog 39 #[.agg #[.int .i64 x, .int .i64 y, .int .i64 z, .int .i64 u], .agg #[.int .i64 x', .int .i64 y', .int .i64 z', .int .i64 u']] w fun e w' => e = .returned (.bool (decide ((x, y, z, u) = (x', y', z', u')))) ∧ Below w.heap.size w w' := by
  by_cases h0 : x = x'
  · subst h0
    by_cases h1 : y = y'
    · subst h1
      by_cases h2 : z = z'
      · subst h2
        by_cases h3 : u = u'
        · subst h3
          go_enter Try.func39, Try.ntmps39
          go_wp2
          go_ret
          exact ⟨by simp, by go_grown⟩
        · have e1 : (u == u') = false := by simpa using h3
          have e2 : (u != u') = true := by simpa using h3
          go_enter Try.func39, Try.ntmps39
          go_wp2
          go_ret
          exact ⟨by simp [h3], by go_grown⟩
      · have e1 : (z == z') = false := by simpa using h2
        have e2 : (z != z') = true := by simpa using h2
        go_enter Try.func39, Try.ntmps39
        go_wp2
        go_ret
        exact ⟨by simp [h2], by go_grown⟩
    · have e1 : (y == y') = false := by simpa using h1
      have e2 : (y != y') = true := by simpa using h1
      go_enter Try.func39, Try.ntmps39
      go_wp2
      go_ret
      exact ⟨by simp [h1], by go_grown⟩
  · have e1 : (x == x') = false := by simpa using h0
    have e2 : (x != x') = true := by simpa using h0
    go_enter Try.func39, Try.ntmps39
    go_wp2
    go_ret
    exact ⟨by simp [h0], by go_grown⟩

set_option maxHeartbeats 1600000 in
theorem toSoundingS_any (a : Option Addr) (n c : Nat) (xs : List I4) (w : World) (h : Row w 4 a n (frs xs)) (hn : n ≤ 1048576) :
    Calls Try.prog 7 #[.slice a n c] w fun e w' => ∃ a' c', e = .returned (.slice a' n c') ∧ Own w' w.heap.size w'.heap.size 47 4 a' n c' (frs xs) ∧ Below w.heap.size w w' := by
  have hmk := run_make_rowK (P := Try.prog) 30 47 info_Sounding Try.underlying30 n (by omega) (by omega)
  go_enter Try.func7, Try.ntmps7
  go_wp2
  go_loopw [4] (fun i wr => ∃ (k : Nat) (vs : List Value), k ≤ n ∧ i = .int .i64 k ∧ Own wr w.heap.size (w.heap.size + 1) 47 4 (some ⟨w.heap.size, 0, none⟩) n n vs ∧ Hid (FrInv xs k vs) ∧ Below w.heap.size w wr ∧ w.heap.size < wr.heap.size) (fun i _ => n - (intOf i).toNat)
  case atStart => exact ⟨0, _, Nat.zero_le _, rfl, Own.madeK w _ (by simp only [maxLen]; omega), ⟨_, rfl⟩, (Below.refl _ _).alloc (Nat.le_refl _) _, by simp⟩
  case round =>
    obtain ⟨k, vs, hk, rfl, hown, hinv, hbel, hsz⟩ := hrel
    by_cases hlt : k < n
    · obtain ⟨b, off, x, y, z, u, rfl, ⟨hc0, hc1, hc2, hc3⟩, hx⟩ := (h.below4 hbel (Nat.le_refl _)).at4 hlt
      have hcell : ∀ j, j < n * 4 → ∃ v, wr.cell? ⟨w.heap.size, j, none⟩ = some v := fun j hj =>
        ⟨_, (hown.cellAt j hj).trans (List.getElem?_eq_getElem (by have := hown.len; omega))⟩
      obtain ⟨v0, hv0⟩ := hcell (k * 4) (by omega)
      obtain ⟨v1, hv1⟩ := hcell (k * 4 + 1) (by omega)
      obtain ⟨v2, hv2⟩ := hcell (k * 4 + 2) (by omega)
      obtain ⟨v3, hv3⟩ := hcell (k * 4 + 3) (by omega)
      clear hcell
      go_wp2_with fail
      go_at_call 31
      refine (toSounding_any _ _ _ _ _).mono ?_
      rintro e w2 ⟨rfl, hb⟩
      have hown2 := hown.below hb (.inr (Nat.le_refl _))
      have hst := hown2.stored (k * 4) (.int .i64 x)
      have hst2 := hst.1.stored (k * 4 + 1) (.int .i64 y)
      have hst3 := hst2.1.stored (k * 4 + 2) (.int .i64 z)
      have hst4 := hst3.1.stored (k * 4 + 3) (.int .i64 u)
      have hf0 := hown2.frozenAt (k * 4)
      have hf1 := hown2.frozenAt (k * 4 + 1)
      have hf2 := hown2.frozenAt (k * 4 + 2)
      have hf3 := hown2.frozenAt (k * 4 + 3)
      have hz := hb.size
      have hv0' := (hb.cell (p := ⟨w.heap.size, k * 4, none⟩) hsz).trans hv0
      have hv1' := (hb.cell (p := ⟨w.heap.size, k * 4 + 1, none⟩) hsz).trans hv1
      have hv2' := (hb.cell (p := ⟨w.heap.size, k * 4 + 2, none⟩) hsz).trans hv2
      have hv3' := (hb.cell (p := ⟨w.heap.size, k * 4 + 3, none⟩) hsz).trans hv3
      have HI := Lib.hid (hinv.out.step hown.len hlt h.len4 hx.out)
      have HB := Lib.hid (((((hbel.trans (hb.mono (by omega))).setCell (p := ⟨w.heap.size, k * 4, none⟩) (Nat.le_refl _) (.int .i64 x)).setCell (p := ⟨w.heap.size, k * 4 + 1, none⟩) (Nat.le_refl _) (.int .i64 y)).setCell (p := ⟨w.heap.size, k * 4 + 2, none⟩) (Nat.le_refl _) (.int .i64 z)).setCell (p := ⟨w.heap.size, k * 4 + 3, none⟩) (Nat.le_refl _) (.int .i64 u))
      have HO := Lib.hid hst4.1
      clear hst hst2 hst3 hst4 hown hown2 hb hv0 hv1 hv2 hv3 hbel hc0 hc1 hc2 hc3
      go_wp2
      go_roundw
      case rel => exact ⟨k + 1, _, by omega, by go_num, HO.out, HI.out, HB.out, by simp [World.setCell]; omega⟩
      case measure => simp [intOf] <;> omega
    · go_wp2
      go_ret
      refine ⟨_, _, rfl, ?_, hbel⟩
      have e := hinv.out.done h.len4 hown.len hk hlt
      subst e
      exact hown.mono (Nat.le_refl _) (by omega)

theorem eqSoundingS_any (a b : Option Addr) (n m c d : Nat) (xs ys : List I4) (w : World) (hxs : Row w 4 a n (frs xs)) (hys : Row w 4 b m (frs ys)) (hn : n ≤ 1048576) :
    Calls Try.prog 10 #[.slice a n c, .slice b m d] w fun e w' => e = .returned (.bool (decide (xs = ys))) ∧ Below w.heap.size w w' := by
  by_cases hnm : n = m
  · subst hnm
    go_enter Try.func10, Try.ntmps10
    go_wp2
    go_loopw [5] (fun i wr => ∃ k : Nat, k ≤ n ∧ i = .int .i64 k ∧ Hid (xs.take k = ys.take k) ∧ Below w.heap.size w wr) (fun i _ => n - (intOf i).toNat)
    case atStart => exact ⟨0, Nat.zero_le _, rfl, by unfold Hid; simp, Below.refl _ _⟩
    case round =>
      obtain ⟨k, hk, rfl, hall, hbel⟩ := hrel
      by_cases hlt : k < n
      · obtain ⟨b1, off1, x, y, z, u, rfl, ⟨hc0, hc1, hc2, hc3⟩, hx⟩ := (hxs.below4 hbel (Nat.le_refl _)).at4 hlt
        obtain ⟨b2, off2, x', y', z', u', rfl, ⟨hd0, hd1, hd2, hd3⟩, hy⟩ := (hys.below4 hbel (Nat.le_refl _)).at4 hlt
        have hi : (k : Int) < (n : Int) := by omega
        by_cases hxy : (x, y, z, u) = (x', y', z', u')
        · have hd : decide ((x, y, z, u) = (x', y', z', u')) = true := by simpa using hxy
          go_wp2_with fail
          go_still_tail 8, (by kernel_rfl)
          go_wp2_with (go_at_call 39; refine (eqSounding_any _ _ _ _ _ _ _ _ _).mono ?_; rintro e w' ⟨rfl, hb⟩)
          go_roundw
          case rel => exact ⟨k + 1, by omega, by go_num, ext_snoc hall.out hx.out (by rw [hxy]; exact hy.out), hbel.drew.trans (hb.mono hbel.drew.size)⟩
          case measure => simp [intOf] <;> omega
        · have hd : decide ((x, y, z, u) = (x', y', z', u')) = false := by simpa using hxy
          go_wp2_with fail
          go_still_tail 8, (by kernel_rfl)
          go_wp2_with (go_at_call 39; refine (eqSounding_any _ _ _ _ _ _ _ _ _).mono ?_; rintro e w' ⟨rfl, hb⟩)
          go_ret
          exact ⟨by simp [ext_not hx.out hy.out hxy], hbel.drew.trans (hb.mono hbel.drew.size)⟩
      · go_wp2
        go_ret
        refine ⟨?_, hbel⟩
        have := hall.out
        rw [take_done hxs.len4 hk hlt, take_done hys.len4 hk hlt] at this
        simp [this]
  · have hne : ((n : Int) == (m : Int)) = false := by simp; omega
    have hne2 : ((n : Int) != (m : Int)) = true := by simp; omega
    go_enter Try.func10, Try.ntmps10
    go_wp2
    go_ret
    refine ⟨?_, Below.refl _ _⟩
    have : xs ≠ ys := by rintro rfl; exact hnm (hxs.len4.symm.trans hys.len4)
    simp [this]

set_option maxHeartbeats 1600000 in
theorem markSoundingS_any (a : Option Addr) (n c lo hi : Nat) (xs : List I4) (m : Int) (w : World) (h : Own w lo hi 47 4 a n c (frs xs)) (hn : n ≤ 1048576) (hm0 : 0 ≤ m) (hm : m ≤ 1099511627776) :
    Calls Try.prog 11 #[.slice a n c, .int .i64 m] w fun e w' => e = .returned (.int .i64 (m + 4 * n)) ∧ Own w' lo hi 47 4 a n c (frs (marks4 m n)) ∧ w.grownBy w' (Value.slice a n c).ownBlock := by
  go_enter Try.func11, Try.ntmps11
  go_wp2
  go_loopw [1, 5] (fun p i wr => ∃ (k : Nat) (vs : List Value), k ≤ n ∧ i = .int .i64 k ∧ p = .int .i64 (m + 4 * k) ∧ Own wr lo hi 47 4 a n c vs ∧ Hid (FrInv (marks4 m n) k vs) ∧ w.grownBy wr (Value.slice a n c).ownBlock) (fun _ i _ => n - (intOf i).toNat)
  case atStart => exact ⟨0, _, Nat.zero_le _, rfl, by simp, h, ⟨_, rfl⟩, World.grownBy.refl _ _⟩
  case round =>
    obtain ⟨k, vs, hk, rfl, rfl, hown, hinv, hg⟩ := hrel
    by_cases hlt : k < n
    · obtain ⟨g, rfl, -, -, -⟩ := hown.head (by omega)
      have hcell : ∀ j, j < n * 4 → ∃ v, wr.cell? ⟨g, j, none⟩ = some v := fun j hj =>
        ⟨_, (hown.cellAt j hj).trans (List.getElem?_eq_getElem (by have := hown.len; omega))⟩
      obtain ⟨v0, hv0⟩ := hcell (k * 4) (by omega)
      obtain ⟨v1, hv1⟩ := hcell (k * 4 + 1) (by omega)
      obtain ⟨v2, hv2⟩ := hcell (k * 4 + 2) (by omega)
      obtain ⟨v3, hv3⟩ := hcell (k * 4 + 3) (by omega)
      clear hcell
      have hf0 := hown.frozenAt (k * 4)
      have hf1 := hown.frozenAt (k * 4 + 1)
      have hf2 := hown.frozenAt (k * 4 + 2)
      have hf3 := hown.frozenAt (k * 4 + 3)
      have hst := hown.stored (k * 4) (.int .i64 (m + 4 * k))
      have hst2 := hst.1.stored (k * 4 + 1) (.int .i64 (m + 4 * k + 1))
      have hst3 := hst2.1.stored (k * 4 + 2) (.int .i64 (m + 4 * k + 1 + 1))
      have hst4 := hst3.1.stored (k * 4 + 3) (.int .i64 (m + 4 * k + 1 + 1 + 1))
      have HI := Lib.hid (hinv.out.step hown.len hlt (marks4_length _ _) (marks4_get m hlt))
      have HO := Lib.hid hst4.1
      have HG := Lib.hid ((((hg.trans hst.2).trans hst2.2).trans hst3.2).trans hst4.2)
      clear hst hst2 hst3 hst4 hown hg
      go_wp2
      go_roundw
      case rel => exact ⟨k + 1, _, by omega, by go_num, by go_num, HO.out, HI.out, HG.out⟩
      case measure => simp [intOf] <;> omega
    · go_wp2
      go_ret
      obtain rfl : k = n := by omega
      have e := hinv.out.done (marks4_length _ _) hown.len hk hlt
      subst e
      exact ⟨rfl, hown, hg⟩