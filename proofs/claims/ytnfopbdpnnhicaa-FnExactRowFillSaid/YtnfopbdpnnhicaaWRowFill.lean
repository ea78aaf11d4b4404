/- The walk of FnExactRowFill: it returns true and writes nothing that was there. -/
import Derived.Test.YtnfopbdpnnhicaaRows
import Derived.Test.YtnfopbdpnnhicaaInt
import Derived.Test.YtnfopbdpnnhicaaOpen
import Derived.WalkKit
import Derived.Handy
namespace Go.Proofs.Ytnfopbdpnnhicaa.fnExactRowFill
open Go.RowKit
set_option linter.unusedVariables false

/-! ### the walk -/
def rowFill (n c : Int) : Int × Int := if inR 0 1200 n && inR 1 40 c then ((c - n % c) % c, 0) else (0, 2)

theorem spec_any (n c : Int) (w : World) : Calls Try.prog 17 #[.int .i64 n, .int .i64 c] w fun e w' => e = .returned (.tuple #[.int .i64 (rowFill n c).1, .int .i64 (rowFill n c).2]) ∧ w = w' := by
  cases h1 : inR 0 1200 n
  · go_enter Try.func17, Try.ntmps17
    go_wp2_with (go_at_call 50; refine (l01In_any _ _ _ _).mono ?_; rintro e w' ⟨rfl, rfl⟩)
    go_ret2
    exact ⟨by simp [rowFill, h1], rfl⟩
  cases h2 : inR 1 40 c
  · go_enter Try.func17, Try.ntmps17
    go_wp2_with (go_at_call 50; refine (l01In_any _ _ _ _).mono ?_; rintro e w' ⟨rfl, rfl⟩)
    go_ret2
    exact ⟨by simp [rowFill, h1, h2], rfl⟩
  have g : (0 ≤ n ∧ n ≤ 1200) ∧ (1 ≤ c ∧ c ≤ 40) := by simp [inR] at h1 h2; omega
  obtain ⟨⟨_, _⟩, _, _⟩ := g
  have hz : (c == 0) = false := by simp; omega
  have hm : 0 ≤ n % c := Int.emod_nonneg _ (by omega)
  have hm2 : n % c < c := Int.emod_lt_of_pos _ (by omega)
  go_enter Try.func17, Try.ntmps17
  go_wp2_with (go_at_call 50; refine (l01In_any _ _ _ _).mono ?_; rintro e w' ⟨rfl, rfl⟩)
  go_ret2
  exact ⟨by simp [rowFill, h1, h2], rfl⟩

theorem impl_any (n c : Int) (w : World) : Calls Try.prog 18 #[.int .i64 n, .int .i64 c] w fun e w' => e = .returned (.tuple #[.int .i64 (rowFill n c).1, .int .i64 (rowFill n c).2]) ∧ w = w' := by
  cases h1 : inR 0 1200 n
  · go_enter Try.func18, Try.ntmps18
    go_wp2_with (go_at_call 51; refine (within_any _ _ _ _).mono ?_; rintro e w' ⟨rfl, rfl⟩)
    go_ret2
    exact ⟨by simp [rowFill, h1], rfl⟩
  cases h2 : inR 1 40 c
  · go_enter Try.func18, Try.ntmps18
    go_wp2_with (go_at_call 51; refine (within_any _ _ _ _).mono ?_; rintro e w' ⟨rfl, rfl⟩)
    go_ret2
    exact ⟨by simp [rowFill, h1, h2], rfl⟩
  have g : (0 ≤ n ∧ n ≤ 1200) ∧ (1 ≤ c ∧ c ≤ 40) := by simp [inR] at h1 h2; omega
  obtain ⟨⟨_, _⟩, _, _⟩ := g
  have hz : (c == 0) = false := by simp; omega
  have hm : 0 ≤ n % c := Int.emod_nonneg _ (by omega)
  have hm2 : n % c < c := Int.emod_lt_of_pos _ (by omega)
  go_enter Try.func18, Try.ntmps18
  go_wp2_with (go_at_call 51; refine (within_any _ _ _ _).mono ?_; rintro e w' ⟨rfl, rfl⟩)
  go_ret2
  exact ⟨by simp [rowFill, h1, h2], rfl⟩

theorem walk (n c : Int) (w : World) (_ : I64 n) (_ : I64 c) :
    Calls Try.prog 4 #[.int .i64 n, .int .i64 c] w fun e w' => e = .returned (.bool true) ∧ Below w.heap.size w w' := by
  go_enter Try.func4, Try.ntmps4
  go_wp2_with (first | (go_at_call 17; refine (spec_any _ _ _).mono ?_; rintro e w' ⟨rfl, rfl⟩) | (go_at_call 18; refine (impl_any _ _ _).mono ?_; rintro e w' ⟨rfl, rfl⟩))
  go_ret
  exact ⟨rfl, Below.refl _ _⟩

end Go.Proofs.Ytnfopbdpnnhicaa.fnExactRowFill
