/- Lists of soundings that are alike. -/
import Derived.Test.YtaimckepaldocaaGreatDoorLike
import Derived.Test.YtaimckepaldocaaGreatDoorSndOk
import Derived.Test.YtaimckepaldocaaGreatDoorSounding
import Derived.Deep.QuietTactic
import Derived.BigQuiet
import Derived.Deep.Cut
import Derived.Deep.RegionHeld3
namespace Go.Proofs.YtaimckepaldocaaGreatDoor
open Go.RowKit
set_option maxRecDepth 100000
set_option linter.unusedVariables false

theorem likeSoundings_same (a b : Option Addr) (n c d : Nat) (xs : List I4) (w : World) (hxs : Row w 4 a n (frs xs)) (hys : Row w 4 b n (frs xs)) (hn : n ≤ 1048576) :
    Calls Tryz.prog 14 #[.slice a n c, .slice b n d] w fun e w' => e = .returned (.bool true) ∧ Below w.heap.size w w' := by
  go_enter Tryz.func14, Tryz.ntmps14
  go_wp2
  go_loopw [5] (fun i wr => ∃ k : Nat, k ≤ n ∧ i = .int .i64 k ∧ Below w.heap.size w wr) (fun i _ => n - (intOf i).toNat)
  case atStart => exact ⟨0, Nat.zero_le _, rfl, Below.refl _ _⟩
  case round =>
    obtain ⟨k, hk, rfl, hbel⟩ := hrel
    by_cases hlt : k < n
    · obtain ⟨b1, off1, x, y, z, u, rfl, ⟨hc0, hc1, hc2, hc3⟩, hx⟩ := (hxs.below4 hbel (Nat.le_refl _)).at4 hlt
      obtain ⟨b2, off2, x', y', z', u', rfl, ⟨hd0, hd1, hd2, hd3⟩, hy⟩ := (hys.below4 hbel (Nat.le_refl _)).at4 hlt
      have he := hy.out
      rw [hx.out] at he
      simp only [Option.some.injEq, Prod.mk.injEq] at he
      obtain ⟨rfl, rfl, rfl, rfl⟩ := he
      have hi : (k : Int) < (n : Int) := by omega
      clear hx hy
      go_wp2_with fail
      go_quiet (fail)
      go_wp2
      go_roundw
      case rel => exact ⟨k + 1, by omega, by go_num, bdn hbel _⟩
      case measure => simp [intOf] <;> omega
    · go_wp2
      go_ret
      exact ⟨rfl, hbel⟩
end Go.Proofs.YtaimckepaldocaaGreatDoor
