/- Lists that rise within 0 .. n - 1: both programs' tests. -/
import Derived.Test.YtmljcbfpennjkaaInt
namespace Go.Proofs.Ytmljcbfpennjkaa
open Go.RowKit
set_option maxRecDepth 100000
set_option linter.unusedVariables false

def gapOk : Option Int → Int → Bool
  | none, _ => true
  | some y, x => decide (y < x)

def rises (n : Int) : Option Int → List Int → Bool
  | _, [] => true
  | p, x :: t => decide (0 ≤ x) && decide (x < n) && gapOk p x && rises n (some x) t

/-- The element ahead of place k. -/
def pv (xs : List Int) : Nat → Option Int
  | 0 => none
  | j + 1 => xs[j]?

def RInv (n : Int) (xs : List Int) (k : Nat) : Prop := rises n (pv xs k) (xs.drop k) = rises n none xs

theorem RInv.start (n : Int) (xs : List Int) : RInv n xs 0 := rfl

theorem RInv.step {n : Int} {xs : List Int} {k : Nat} {x : Int} (h : RInv n xs k) (hx : xs[k]? = some x) (h0 : 0 ≤ x) (h1 : x < n) (h2 : ∀ y, pv xs k = some y → y < x) : RInv n xs (k + 1) := by
  unfold RInv at h ⊢
  rw [← h, drop_at hx, rises]
  have : gapOk (pv xs k) x = true := by
    cases hp : pv xs k with
    | none => rfl
    | some y => simpa [gapOk] using h2 y hp
  rw [this, show pv xs (k + 1) = some x from hx]
  simp [h0, h1]

theorem RInv.no {n : Int} {xs : List Int} {k : Nat} {x : Int} (h : RInv n xs k) (hx : xs[k]? = some x) (hb : x < 0 ∨ n ≤ x ∨ ∃ y, pv xs k = some y ∧ x ≤ y) : rises n none xs = false := by
  unfold RInv at h
  rw [← h, drop_at hx, rises]
  rcases hb with hb | hb | ⟨y, hy, hb⟩
  · simp [show ¬ 0 ≤ x by omega]
  · simp [show ¬ x < n by omega]
  · simp [hy, gapOk, show ¬ y < x by omega]

theorem RInv.done {n : Int} {xs : List Int} {k m : Nat} (h : RInv n xs k) (hl : xs.length = m) (hk : ¬ k < m) : rises n none xs = true := by
  unfold RInv at h
  rw [← h, List.drop_of_length_le (by omega)]
  rfl

theorem isRising_any (a : Option Addr) (n c : Nat) (xs : List Int) (m : Int) (w : World) (h : Row w 1 a n (ints xs)) (hn : n ≤ 1048576) :
    Calls Try.prog 65 #[.slice a n c, .int .i64 m] w fun e w' => e = .returned (.bool (rises m none xs)) ∧ w = w' := by
  go_enter Try.func65, Try.ntmps65
  go_wp2
  go_loop [9] (fun i => ∃ k : Nat, k ≤ n ∧ i = .int .i64 k ∧ Hid (RInv m xs k)) (fun i => n - (intOf i).toNat)
  case atStart => exact ⟨0, Nat.zero_le _, rfl, RInv.start _ _⟩
  case round =>
    obtain ⟨k, hk, rfl, hall⟩ := hrel
    by_cases hlt : k < n
    · obtain ⟨b, off, x, rfl, hc, hx⟩ := h.at_ hlt
      by_cases h0 : x < 0
      · go_wp2
        go_ret
        exact ⟨by rw [hall.out.no hx.out (.inl h0)]; rfl, rfl⟩
      by_cases h1 : m ≤ x
      · go_wp2
        go_ret
        exact ⟨by rw [hall.out.no hx.out (.inr (.inl h1))]; rfl, rfl⟩
      rcases k with _ | j
      · rw [Nat.add_zero] at hc
        go_wp2
        go_round
        case rel => exact ⟨1, by omega, by go_num, hall.out.step hx.out (by omega) (by omega) (by simp [pv])⟩
        case measure => simp [intOf]; omega
      · obtain ⟨b', off', y, hbe, hd, hy⟩ := h.at_ (show j < n by omega)
        simp only [Option.some.injEq, Addr.mk.injEq, and_true] at hbe
        obtain ⟨rfl, rfl⟩ := hbe
        by_cases h2 : x ≤ y
        · go_wp2
          go_ret
          exact ⟨by rw [hall.out.no hx.out (.inr (.inr ⟨y, hy.out, h2⟩))]; rfl, rfl⟩
        · go_wp2
          go_round
          case rel => exact ⟨j + 1 + 1, by omega, by go_num, hall.out.step hx.out (by omega) (by omega) (fun z hz => by rw [show pv xs (j + 1) = xs[j]? from rfl, hy.out] at hz; injection hz; omega)⟩
          case measure => simp [intOf]; omega
    · go_wp2
      go_ret
      exact ⟨by rw [hall.out.done h.len hlt]; rfl, rfl⟩

theorem l01Rises_any (a : Option Addr) (n c : Nat) (xs : List Int) (m : Int) (w : World) (h : Row w 1 a n (ints xs)) (hn : n ≤ 1048576) :
    Calls Try.prog 68 #[.slice a n c, .int .i64 m] w fun e w' => e = .returned (.bool (rises m none xs)) ∧ Below w.heap.size w w' := by
  go_enter Try.func68, Try.ntmps68
  go_wp2
  go_loopw [5] (fun i wr => ∃ k : Nat, k ≤ n ∧ i = .int .i64 k ∧ Hid (RInv m xs k) ∧ Below w.heap.size w wr) (fun i _ => n - (intOf i).toNat)
  case atStart => exact ⟨0, Nat.zero_le _, rfl, RInv.start _ _, Below.refl _ _⟩
  case round =>
    obtain ⟨k, hk, rfl, hall, hbel⟩ := hrel
    by_cases hlt : k < n
    · have h' := h.below hbel (Nat.le_refl _)
      obtain ⟨b, off, x, rfl, hc, hx⟩ := h'.at_ hlt
      have hi : (k : Int) < (n : Int) := by omega
      by_cases h0 : x < 0
      · go_wp2_with fail
        go_quiet (fail)
        go_wp2
        go_ret
        exact ⟨by rw [hall.out.no hx.out (.inl h0)]; rfl, bdn hbel _⟩
      by_cases h1 : m ≤ x
      · have hd0 : decide (x < 0) = false := by simp; omega
        go_wp2_with fail
        go_quiet (fail)
        go_wp2
        go_ret
        exact ⟨by rw [hall.out.no hx.out (.inr (.inl h1))]; rfl, bdn hbel _⟩
      have hd0 : decide (x < 0) = false := by simp; omega
      have hd1 : decide (m ≤ x) = false := by simp; omega
      rcases k with _ | j
      · rw [Nat.add_zero] at hc
        go_wp2_with fail
        go_quiet (fail)
        go_wp2
        go_roundw
        case rel => exact ⟨1, by omega, by go_num, hall.out.step hx.out (by omega) (by omega) (by simp [pv]), bdn hbel _⟩
        case measure => simp [intOf]; omega
      · obtain ⟨b', off', y, hbe, hd, hy⟩ := h'.at_ (show j < n by omega)
        simp only [Option.some.injEq, Addr.mk.injEq, and_true] at hbe
        obtain ⟨rfl, rfl⟩ := hbe
        have hj : (0 : Int) < (j : Int) + 1 := by omega
        have hj2 : (j : Int) < (n : Int) := by omega
        by_cases h2 : x ≤ y
        · go_wp2_with fail
          go_quiet (fail)
          go_wp2
          go_ret
          exact ⟨by rw [hall.out.no hx.out (.inr (.inr ⟨y, hy.out, h2⟩))]; rfl, bdn hbel _⟩
        · have hd2 : decide (x ≤ y) = false := by simp; omega
          go_wp2_with fail
          go_quiet (fail)
          go_wp2
          go_roundw
          case rel => exact ⟨j + 1 + 1, by omega, by go_num, hall.out.step hx.out (by omega) (by omega) (fun z hz => by rw [show pv xs (j + 1) = xs[j]? from rfl, hy.out] at hz; injection hz; omega), bdn hbel _⟩
          case measure => simp [intOf]; omega
    · go_wp2
      go_ret
      exact ⟨by rw [hall.out.done h.len hlt]; rfl, hbel⟩

end Go.Proofs.Ytmljcbfpennjkaa
