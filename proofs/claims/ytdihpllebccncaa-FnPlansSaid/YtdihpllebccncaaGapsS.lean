/- The reference's gaps of a width: unit by unit. -/
import Derived.Test.YtdihpllebccncaaGapsI
import Derived.Test.YtdihpllebccncaaLCover
import Derived.BigQuiet
import Derived.Deep.QuietTactic
namespace Go.Proofs.Ytdihpllebccncaa
open Go.RowKit
set_option maxRecDepth 100000
set_option linter.unusedVariables false

theorem any_yes {f : I2 → Bool} {ss : List I2} {k : Nat} {s : I2} (h : ss[k]? = some s) (hf : f s = true) : ss.any f = true := List.any_eq_true.2 ⟨s, List.mem_of_getElem? h, hf⟩
def NoneYet (f : I2 → Bool) (ss : List I2) (k : Nat) : Prop := ∀ j s, j < k → ss[j]? = some s → f s = false
theorem NoneYet.step {f : I2 → Bool} {ss : List I2} {k : Nat} {s : I2} (h : NoneYet f ss k) (hs : ss[k]? = some s) (hf : f s = false) : NoneYet f ss (k + 1) := by
  intro j t hj ht
  by_cases e : j = k
  · subst e; rw [hs] at ht; injection ht with ht; subst ht; exact hf
  · exact h j t (by omega) ht
theorem NoneYet.done {f : I2 → Bool} {ss : List I2} {k n : Nat} (h : NoneYet f ss k) (hl : ss.length = n) (hk : ¬ k < n) : ss.any f = false := by
  cases e : ss.any f
  · rfl
  · obtain ⟨s, hs, hf⟩ := List.any_eq_true.1 e
    obtain ⟨j, hj⟩ := List.getElem?_of_mem hs
    have := h j s (by have := (List.getElem?_eq_some_iff.1 hj).1; omega) hj
    rw [this] at hf; cases hf
def unitF (p : Int) (s : I2) : Bool := decide (loS s ≤ p) && decide (p + 1 ≤ hiS s)
theorem unitF_yes {p x y : Int} (h : x - y ≤ p) (h2 : p + 1 ≤ x + y) : unitF p (x, y) = true := by simp [unitF, loS, hiS, h, h2]
theorem unitF_no1 {p x y : Int} (h : ¬ x - y ≤ p) : unitF p (x, y) = false := by simp [unitF, loS, h]
theorem unitF_no2 {p x y : Int} (h : ¬ p + 1 ≤ x + y) : unitF p (x, y) = false := by simp [unitF, hiS, h]
def touchF (p : Int) (s : I2) : Bool := decide (loS s ≤ p) && decide (p ≤ hiS s)

set_option maxHeartbeats 3200000 in
theorem l24Unit_any (p : Int) (a : Option Addr) (n c : Nat) (ss : List I2) (w : World) (h : Row w 2 a n (prs ss)) (hs : spansOk ss = true) (hp : 0 ≤ p ∧ p ≤ 30000) :
    Calls Try.prog 59 #[.slice a n c, .int .i64 p] w fun e w' => e = .returned (.bool (unitB ss p)) ∧ Below w.heap.size w w' := by
  have hl := Lib.hid h.len2
  have hn60 := spansOk_len hs hl.out
  have HS := Lib.hid hs
  clear hs
  have hdef := Lib.hid (show unitB ss p = ss.any (unitF p) from rfl)
  generalize unitB ss p = r at *
  go_enter Try.func59, Try.ntmps59
  go_wp2
  go_loopw [5] (fun i wr => ∃ k : Nat, k ≤ n ∧ i = .int .i64 k ∧ Hid (NoneYet (unitF p) ss k) ∧ Below w.heap.size w wr) (fun i _ => n - (intOf i).toNat)
  case atStart => exact ⟨0, Nat.zero_le _, rfl, fun j s hj => absurd hj (Nat.not_lt_zero _), Below.refl _ _⟩
  case round =>
    obtain ⟨k, hk, rfl, hN, hbel⟩ := hrel
    by_cases hlt : k < n
    · obtain ⟨x, y, hx⟩ := sp_at hl.out hlt
      obtain ⟨d1, d2⟩ := spanOk_bd (spansOk_get HS.out hx.out)
      obtain ⟨bk, off, rfl, -⟩ := h.head2 hlt
      obtain ⟨x0, x1⟩ := (h.below2 hbel (Nat.le_refl _)).get2_ hx.out
      have hkI : (k : Int) < (n : Int) := by omega
      by_cases h1 : x - y ≤ p
      · by_cases h2 : p + 1 ≤ x + y
        · have hyes := Lib.hid (any_yes (f := unitF p) hx.out (unitF_yes h1 h2))
          go_wp2_with fail
          go_quiet (fail)
          go_wp2
          go_ret
          exact ⟨by rw [hdef.out, hyes.out]; rfl, bdn hbel _⟩
        · have hd : decide (p + 1 ≤ x + y) = false := by simpa using h2
          have hst := Lib.hid (hN.out.step hx.out (unitF_no2 h2))
          go_wp2_with fail
          go_quiet (fail)
          go_wp2
          go_roundw
          case rel => exact ⟨k + 1, by omega, by go_num, hst, bdn hbel _⟩
          case measure => simp [intOf]; omega
      · have hd : decide (x - y ≤ p) = false := by simpa using h1
        have hst := Lib.hid (hN.out.step hx.out (unitF_no1 h1))
        go_wp2_with fail
        go_quiet (fail)
        go_wp2
        go_roundw
        case rel => exact ⟨k + 1, by omega, by go_num, hst, bdn hbel _⟩
        case measure => simp [intOf]; omega
    · have hno := Lib.hid (hN.out.done hl.out hlt)
      obtain rfl : k = n := by omega
      go_wp2
      go_ret
      exact ⟨by rw [hdef.out, hno.out]; rfl, hbel⟩

set_option maxHeartbeats 3200000 in
theorem l24Touched_any (p : Int) (a : Option Addr) (n c : Nat) (ss : List I2) (w : World) (h : Row w 2 a n (prs ss)) (hs : spansOk ss = true) (hp : 0 ≤ p ∧ p ≤ 30000) :
    Calls Try.prog 60 #[.slice a n c, .int .i64 p] w fun e w' => e = .returned (.bool (touchB ss p)) ∧ Below w.heap.size w w' := by
  have hl := Lib.hid h.len2
  have hn60 := spansOk_len hs hl.out
  have HS := Lib.hid hs
  clear hs
  have hdef := Lib.hid (show touchB ss p = ss.any (touchF p) from rfl)
  generalize touchB ss p = r at *
  go_enter Try.func60, Try.ntmps60
  go_wp2
  go_loopw [5] (fun i wr => ∃ k : Nat, k ≤ n ∧ i = .int .i64 k ∧ Hid (NoneYet (touchF p) ss k) ∧ Below w.heap.size w wr) (fun i _ => n - (intOf i).toNat)
  case atStart => exact ⟨0, Nat.zero_le _, rfl, fun j s hj => absurd hj (Nat.not_lt_zero _), Below.refl _ _⟩
  case round =>
    obtain ⟨k, hk, rfl, hN, hbel⟩ := hrel
    by_cases hlt : k < n
    · obtain ⟨x, y, hx⟩ := sp_at hl.out hlt
      obtain ⟨d1, d2⟩ := spanOk_bd (spansOk_get HS.out hx.out)
      obtain ⟨bk, off, rfl, -⟩ := h.head2 hlt
      obtain ⟨x0, x1⟩ := (h.below2 hbel (Nat.le_refl _)).get2_ hx.out
      have hkI : (k : Int) < (n : Int) := by omega
      have hIn : Hid (inR (x - y) (x + y) p = touchF p (x, y)) := rfl
      generalize hr : touchF p (x, y) = tf at hIn
      have hR := Lib.hid hr
      clear hr
      cases tf
      · have hst := Lib.hid (hN.out.step hx.out hR.out)
        go_wp2_with fail
        go_quiet ((go_at_call 47; first | exact quiet_eq (hIn.out ▸ l01In_any _ _ _ _) | exact quiet_eq' (hIn.out ▸ l01In_any _ _ _ _)))
        go_wp2
        go_roundw
        case rel => exact ⟨k + 1, by omega, by go_num, hst, bdn hbel _⟩
        case measure => simp [intOf]; omega
      · have hyes := Lib.hid (any_yes (f := touchF p) hx.out hR.out)
        go_wp2_with fail
        go_quiet ((go_at_call 47; first | exact quiet_eq (hIn.out ▸ l01In_any _ _ _ _) | exact quiet_eq' (hIn.out ▸ l01In_any _ _ _ _)))
        go_wp2
        go_ret
        exact ⟨by rw [hdef.out, hyes.out]; rfl, bdn hbel _⟩
    · have hno := Lib.hid (hN.out.done hl.out hlt)
      obtain rfl : k = n := by omega
      go_wp2
      go_ret
      exact ⟨by rw [hdef.out, hno.out]; rfl, hbel⟩
end Go.Proofs.Ytdihpllebccncaa
