/- LongestRun, by both programs. -/
import Derived.Test.YtpnhfdppndcpnaaInt
namespace Go.Proofs.Ytpnhfdppndcpnaa
open Go.RowKit
set_option maxRecDepth 100000
set_option linter.unusedVariables false

def rstep (r x : Int) : Int := if x = 0 then 0 else r + 1
def lrun : Int → Int → List Int → Int
  | m, _, [] => m
  | m, r, x :: t => lrun (max m (rstep r x)) (rstep r x) t
def longestRun (xs : List Int) : Int × Int := if listOk 1200 0 1 xs then (lrun 0 0 xs, 0) else (0, 1)
theorem longestRun_no {xs : List Int} (h : listOk 1200 0 1 xs = false) : longestRun xs = (0, 1) := by simp [longestRun, h]
theorem longestRun_yes {xs : List Int} (h : listOk 1200 0 1 xs = true) : longestRun xs = (lrun 0 0 xs, 0) := by simp [longestRun, h]

def LRInv (xs : List Int) (k : Nat) (m r : Int) : Prop := lrun m r (xs.drop k) = lrun 0 0 xs
theorem LRInv.step0 {xs : List Int} {k : Nat} {m r : Int} (h : LRInv xs k m r) (hx : xs[k]? = some 0) (hm : 0 ≤ m) : LRInv xs (k + 1) m 0 := by
  unfold LRInv at h ⊢
  rw [← h, drop_at hx, lrun, show rstep r 0 = 0 from rfl, Int.max_eq_left hm]
theorem LRInv.step1 {xs : List Int} {k : Nat} {m r : Int} (h : LRInv xs k m r) (hx : xs[k]? = some 1) : LRInv xs (k + 1) (if m < r + 1 then r + 1 else m) (r + 1) := by
  rw [show (if m < r + 1 then r + 1 else m) = max m (r + 1) from by split <;> omega]
  unfold LRInv at h ⊢
  rw [← h, drop_at hx, lrun]
  rfl
theorem LRInv.done {xs : List Int} {k n : Nat} {m r : Int} (h : LRInv xs k m r) (hl : xs.length = n) (hk : ¬ k < n) : lrun 0 0 xs = m := by
  unfold LRInv at h
  rw [← h, List.drop_of_length_le (by omega)]
  rfl

theorem longestRun_spec (a : Option Addr) (n c : Nat) (xs : List Int) (w : World) (h : Row w 1 a n (ints xs)) (hn : n ≤ 1048576) :
    Calls Try.prog 20 #[.slice a n c] w fun e w' => e = .returned (.tuple #[.int .i64 (longestRun xs).1, .int .i64 (longestRun xs).2]) ∧ Below w.heap.size w w' := by
  cases hok : listOk 1200 0 1 xs
  · go_enter Try.func20, Try.ntmps20
    go_wp2_with (go_at_call 40; refine (l25Bits_any _ _ _ _ _ h hn).mono ?_; rintro e w' ⟨rfl, rfl⟩)
    go_ret2
    rw [longestRun_no hok]
    exact ⟨rfl, Below.refl _ _⟩
  · rw [longestRun_yes hok]
    go_enter Try.func20, Try.ntmps20
    go_wp2_with (go_at_call 40; refine (l25Bits_any _ _ _ _ _ h hn).mono ?_; rintro e w' ⟨rfl, rfl⟩)
    go_loop [4, 5, 6] (fun p q i => ∃ (k : Nat) (M R : Int), k ≤ n ∧ i = .int .i64 k ∧ p = .int .i64 M ∧ q = .int .i64 R ∧ 0 ≤ M ∧ M ≤ k ∧ 0 ≤ R ∧ R ≤ k ∧ Hid (LRInv xs k M R)) (fun _ _ i => n - (intOf i).toNat)
    case atStart => exact ⟨0, 0, 0, Nat.zero_le _, rfl, rfl, rfl, by omega, by omega, by omega, by omega, rfl⟩
    case round =>
      obtain ⟨k, M, R, hk, rfl, rfl, rfl, hM0, hM, hR0, hR, hinv⟩ := hrel
      by_cases hlt : k < n
      · obtain ⟨b, off, x, rfl, hc, hx⟩ := h.at_ hlt
        have hbit := listOk_get hok hx.out
        by_cases h0 : x = 0
        · subst h0
          go_wp2
          go_round
          case rel => exact ⟨k + 1, M, 0, by omega, by go_num, by go_num, rfl, by omega, by omega, by omega, by omega, hinv.out.step0 hx.out hM0⟩
          case measure => simp [intOf]; omega
        · obtain rfl : x = 1 := by omega
          go_wp2
          go_round
          case rel => exact ⟨k + 1, _, R + 1, by omega, by go_num, rfl, rfl, by omega, by omega, by omega, by omega, hinv.out.step1 hx.out⟩
          case measure => simp [intOf]; omega
      · go_wp2
        go_ret2
        exact ⟨by rw [hinv.out.done h.len hlt]; rfl, Below.refl _ _⟩

theorem longestRun_impl (a : Option Addr) (n c : Nat) (xs : List Int) (w : World) (h : Row w 1 a n (ints xs)) (hn : n ≤ 1048576) :
    Calls Try.prog 19 #[.slice a n c] w fun e w' => e = .returned (.tuple #[.int .i64 (longestRun xs).1, .int .i64 (longestRun xs).2]) ∧ Below w.heap.size w w' := by
  cases hok : listOk 1200 0 1 xs
  · go_enter Try.func19, Try.ntmps19
    go_wp2_with (go_at_call 39; refine (isBits_any _ _ _ _ _ _ h hn).mono ?_; rintro e w' ⟨rfl, rfl⟩)
    go_ret2
    rw [longestRun_no hok]
    exact ⟨rfl, Below.refl _ _⟩
  · rw [longestRun_yes hok]
    go_enter Try.func19, Try.ntmps19
    go_wp2_with (go_at_call 39; refine (isBits_any _ _ _ _ _ _ h hn).mono ?_; rintro e w' ⟨rfl, rfl⟩)
    go_loop [4, 5, 13] (fun p q i => ∃ (k : Nat) (M R : Int), k ≤ n ∧ i = .int .i64 k ∧ p = .int .i64 M ∧ q = .int .i64 R ∧ 0 ≤ M ∧ M ≤ k ∧ 0 ≤ R ∧ R ≤ k ∧ Hid (LRInv xs k M R)) (fun _ _ i => n - (intOf i).toNat)
    case atStart => exact ⟨0, 0, 0, Nat.zero_le _, rfl, rfl, rfl, by omega, by omega, by omega, by omega, rfl⟩
    case round =>
      obtain ⟨k, M, R, hk, rfl, rfl, rfl, hM0, hM, hR0, hR, hinv⟩ := hrel
      by_cases hlt : k < n
      · obtain ⟨b, off, x, rfl, hc, hx⟩ := h.at_ hlt
        have hbit := listOk_get hok hx.out
        by_cases h0 : x = 0
        · subst h0
          go_wp2
          go_round
          case rel => exact ⟨k + 1, M, 0, by omega, by go_num, by go_num, rfl, by omega, by omega, by omega, by omega, hinv.out.step0 hx.out hM0⟩
          case measure => simp [intOf]; omega
        · obtain rfl : x = 1 := by omega
          go_wp2
          go_round
          case rel => exact ⟨k + 1, _, R + 1, by omega, by go_num, rfl, rfl, by omega, by omega, by omega, by omega, hinv.out.step1 hx.out⟩
          case measure => simp [intOf]; omega
      · go_wp2
        go_ret2
        exact ⟨by rw [hinv.out.done h.len hlt]; rfl, Below.refl _ _⟩

end Go.Proofs.Ytpnhfdppndcpnaa
