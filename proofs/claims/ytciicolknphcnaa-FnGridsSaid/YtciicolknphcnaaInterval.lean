/- Slices of Interval: the statements' helpers. -/
import Derived.Test.YtciicolknphcnaaPair
import Derived.StillTailTactics
namespace Go.Proofs.Ytciicolknphcnaa
open Go.RowKit
set_option maxRecDepth 100000
set_option linter.unusedVariables false

theorem info_Interval : (Try.prog.info? 49).map (fun i => (i.zero, i.size, i.bytes)) = some (some (.agg #[.int .i64 0, .int .i64 0]), 2, 16) := by kernel_rfl

theorem eqInterval_any (x y u v : Int) (w : World) : Calls Try.prog 62 #[.agg #[.int .i64 x, .int .i64 y], .agg #[.int .i64 u, .int .i64 v]] w fun e w' => e = .returned (.bool (decide ((x, y) = (u, v)))) ∧ Below w.heap.size w w' := by
  by_cases h0 : x = u
  · subst h0
    by_cases h1 : y = v
    · subst h1
      go_enter Try.func62, Try.ntmps62
      go_wp2
      go_ret
      exact ⟨by simp, by go_grown⟩
    · have e1 : (y == v) = false := by simpa using h1
      have e2 : (y != v) = true := by simpa using h1
      go_enter Try.func62, Try.ntmps62
      go_wp2
      go_ret
      exact ⟨by simp [h1], by go_grown⟩
  · have e1 : (x == u) = false := by simpa using h0
    have e2 : (x != u) = true := by simpa using h0
    go_enter Try.func62, Try.ntmps62
    go_wp2
    go_ret
    exact ⟨by simp [h0], by go_grown⟩

theorem eqIntervalS_any (a b : Option Addr) (n m c d : Nat) (xs ys : List (Int × Int)) (w : World) (hxs : Row w 2 a n (prs xs)) (hys : Row w 2 b m (prs ys)) (hn : n ≤ 1048576) :
    Calls Try.prog 38 #[.slice a n c, .slice b m d] w fun e w' => e = .returned (.bool (decide (xs = ys))) ∧ Below w.heap.size w w' := by
  by_cases hnm : n = m
  · subst hnm
    go_enter Try.func38, Try.ntmps38
    go_wp2
    go_loopw [5] (fun i wr => ∃ k : Nat, k ≤ n ∧ i = .int .i64 k ∧ Hid (xs.take k = ys.take k) ∧ Below w.heap.size w wr) (fun i _ => n - (intOf i).toNat)
    case atStart => exact ⟨0, Nat.zero_le _, rfl, by unfold Hid; simp, Below.refl _ _⟩
    case round =>
      obtain ⟨k, hk, rfl, hall, hbel⟩ := hrel
      by_cases hlt : k < n
      · obtain ⟨b1, off1, x, x', rfl, hc, hc', hx⟩ := (hxs.below2 hbel (Nat.le_refl _)).at2 hlt
        obtain ⟨b2, off2, y, y', rfl, hd, hd', hy⟩ := (hys.below2 hbel (Nat.le_refl _)).at2 hlt
        have hi : (k : Int) < (n : Int) := by omega
        by_cases hxy : (x, x') = (y, y')
        · have hd : decide ((x, x') = (y, y')) = true := by simpa using hxy
          go_wp2_with fail
          go_still_tail 8, (by kernel_rfl)
          go_wp2_with (go_at_call 62; refine (eqInterval_any _ _ _ _ _).mono ?_; rintro e w' ⟨rfl, hb⟩)
          go_roundw
          case rel => exact ⟨k + 1, by omega, by go_num, ext_snoc hall.out hx.out (by rw [hxy]; exact hy.out), hbel.drew.trans (hb.mono hbel.drew.size)⟩
          case measure => simp [intOf] <;> omega
        · have hd : decide ((x, x') = (y, y')) = false := by simpa using hxy
          go_wp2_with fail
          go_still_tail 8, (by kernel_rfl)
          go_wp2_with (go_at_call 62; refine (eqInterval_any _ _ _ _ _).mono ?_; rintro e w' ⟨rfl, hb⟩)
          go_ret
          exact ⟨by simp [ext_not hx.out hy.out hxy], hbel.drew.trans (hb.mono hbel.drew.size)⟩
      · go_wp2
        go_ret
        refine ⟨?_, hbel⟩
        have := hall.out
        rw [take_done hxs.len2 hk hlt, take_done hys.len2 hk hlt] at this
        simp [this]
  · have hne : ((n : Int) == (m : Int)) = false := by simp; omega
    have hne2 : ((n : Int) != (m : Int)) = true := by simp; omega
    go_enter Try.func38, Try.ntmps38
    go_wp2
    go_ret
    refine ⟨?_, Below.refl _ _⟩
    have : xs ≠ ys := by rintro rfl; exact hnm (hxs.len2.symm.trans hys.len2)
    simp [this]

theorem markIntervalS_any (a : Option Addr) (n c lo hi : Nat) (xs : List (Int × Int)) (m : Int) (w : World) (h : Own w lo hi 49 2 a n c (prs xs)) (hn : n ≤ 1048576) (hm0 : 0 ≤ m) (hm : m ≤ 1099511627776) :
    Calls Try.prog 41 #[.slice a n c, .int .i64 m] w fun e w' => e = .returned (.int .i64 (m + 2 * n)) ∧ Own w' lo hi 49 2 a n c (prs (marks2 m n)) ∧ w.grownBy w' (Value.slice a n c).ownBlock := by
  go_enter Try.func41, Try.ntmps41
  go_wp2
  go_loopw [1, 5] (fun p i wr => ∃ (k : Nat) (vs : List Value), k ≤ n ∧ i = .int .i64 k ∧ p = .int .i64 (m + 2 * k) ∧ Own wr lo hi 49 2 a n c vs ∧ Hid (PrInv (marks2 m n) k vs) ∧ w.grownBy wr (Value.slice a n c).ownBlock) (fun _ i _ => n - (intOf i).toNat)
  case atStart => exact ⟨0, _, Nat.zero_le _, rfl, by simp, h, ⟨_, rfl⟩, World.grownBy.refl _ _⟩
  case round =>
    obtain ⟨k, vs, hk, rfl, rfl, hown, hinv, hg⟩ := hrel
    by_cases hlt : k < n
    · obtain ⟨g, rfl, -, -, -⟩ := hown.head (by omega)
      have hcell : ∀ j, j < n * 2 → ∃ v, wr.cell? ⟨g, j, none⟩ = some v := fun j hj =>
        ⟨_, (hown.cellAt j hj).trans (List.getElem?_eq_getElem (by have := hown.len; omega))⟩
      obtain ⟨v0, hv0⟩ := hcell (k * 2) (by omega)
      obtain ⟨v1, hv1⟩ := hcell (k * 2 + 1) (by omega)
      clear hcell
      have hf0 := hown.frozenAt (k * 2)
      have hf1 := hown.frozenAt (k * 2 + 1)
      have hst := hown.stored (k * 2) (.int .i64 (m + 2 * k))
      have hst2 := hst.1.stored (k * 2 + 1) (.int .i64 (m + 2 * k + 1))
      have HI := Lib.hid (hinv.out.step hown.len hlt (marks2_length _ _) (marks2_get m hlt))
      have HO := Lib.hid hst2.1
      have HG := Lib.hid ((hg.trans hst.2).trans hst2.2)
      clear hst hst2 hown hg
      go_wp2
      go_roundw
      case rel => exact ⟨k + 1, _, by omega, by go_num, by go_num, HO.out, HI.out, HG.out⟩
      case measure => simp [intOf] <;> omega
    · go_wp2
      go_ret
      obtain rfl : k = n := by omega
      have e := hinv.out.done (marks2_length _ _) hown.len hk hlt
      subst e
      exact ⟨rfl, hown, hg⟩

theorem heldIntervalS_any (a : Option Addr) (n c : Nat) (m : Int) (w : World) (h : Row w 2 a n (prs (marks2 m n))) (hn : n ≤ 1048576) (hm0 : 0 ≤ m) (hm : m ≤ 1099511627776) :
    Calls Try.prog 43 #[.slice a n c, .int .i64 m] w fun e w' => e = .returned (.int .i64 (m + 2 * n)) ∧ Below w.heap.size w w' := by
  go_enter Try.func43, Try.ntmps43
  go_wp2
  go_loop [1, 5] (fun p i => ∃ k : Nat, k ≤ n ∧ i = .int .i64 k ∧ p = .int .i64 (m + 2 * k)) (fun _ i => n - (intOf i).toNat)
  case atStart => exact ⟨0, Nat.zero_le _, rfl, by simp⟩
  case round =>
    obtain ⟨k, hk, rfl, rfl⟩ := hrel
    by_cases hlt : k < n
    · obtain ⟨b, off, x, y, rfl, hc, hd, hx⟩ := h.at2 hlt
      have hxy := hx.out
      rw [marks2_get m hlt] at hxy
      simp only [Option.some.injEq, Prod.mk.injEq] at hxy
      obtain ⟨rfl, rfl⟩ := hxy
      clear hx
      go_wp2
      go_round
      case rel => exact ⟨k + 1, by omega, by go_num, by go_num⟩
      case measure => simp [intOf] <;> omega
    · go_wp2
      go_ret
      obtain rfl : k = n := by omega
      exact ⟨rfl, Below.refl _ _⟩

end Go.Proofs.Ytciicolknphcnaa
