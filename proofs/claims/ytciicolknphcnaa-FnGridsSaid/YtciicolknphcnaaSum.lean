/- The laws' sum of a list. -/
import Derived.Test.YtciicolknphcnaaInt
namespace Go.Proofs.Ytciicolknphcnaa
open Go.RowKit
set_option maxRecDepth 100000
set_option linter.unusedVariables false

theorem sum_snoc' {xs : List Int} {k : Nat} {x : Int} (h : xs[k]? = some x) : (xs.take (k + 1)).sum = (xs.take k).sum + x := by
  rw [take_snoc h]; simp [List.sum_append]
theorem sum_bd' {xs : List Int} (h : ∀ x ∈ xs, -1 ≤ x ∧ x ≤ 1000000000) : ∀ k : Nat, -(k : Int) ≤ (xs.take k).sum ∧ (xs.take k).sum ≤ 1000000000 * (k : Int)
  | 0 => by simp
  | k + 1 => by
    have ih := sum_bd' h k
    cases hx : xs[k]? with
    | none =>
      have : xs.length ≤ k := by simpa using hx
      rw [List.take_of_length_le (by omega)]
      rw [List.take_of_length_le (by omega)] at ih
      omega
    | some x =>
      have := h x (List.mem_of_getElem? hx)
      rw [sum_snoc' hx]
      omega

theorem sum_any (a : Option Addr) (n c : Nat) (xs : List Int) (w : World) (h : Row w 1 a n (ints xs)) (hn : n ≤ 1048576) (hb : Hid (∀ x ∈ xs, -1 ≤ x ∧ x ≤ 1000000000)) :
    Calls Try.prog 24 #[.slice a n c] w fun e w' => e = .returned (.int .i64 xs.sum) ∧ w = w' := by
  go_enter Try.func24, Try.ntmps24
  go_wp2
  go_loop [3, 4] (fun s i => ∃ (k : Nat) (t : Int), k ≤ n ∧ i = .int .i64 k ∧ s = .int .i64 t ∧ Hid (t = (xs.take k).sum) ∧ -(k : Int) ≤ t ∧ t ≤ 1000000000 * k) (fun _ i => n - (intOf i).toNat)
  case atStart => exact ⟨0, 0, Nat.zero_le _, rfl, rfl, Lib.hid (by simp), by omega, by omega⟩
  case round =>
    obtain ⟨k, t, hk, rfl, rfl, ht, ht0, ht1⟩ := hrel
    by_cases hlt : k < n
    · obtain ⟨b, off, x, rfl, hc, hx⟩ := h.at_ hlt
      have hxb := hb.out x (List.mem_of_getElem? hx.out)
      go_wp2
      go_round
      case rel => exact ⟨k + 1, _, by omega, by go_num, rfl, Lib.hid (by rw [sum_snoc' hx.out, ht.out]), by omega, by omega⟩
      case measure => simp [intOf]; omega
    · go_wp2
      go_ret
      exact ⟨by rw [ht.out, take_done h.len hk hlt]; rfl, rfl⟩
end Go.Proofs.Ytciicolknphcnaa
