/- PlacesFrom, by both programs. -/
import Derived.Test.YtbkoahikdjbdcaaPlaces
namespace Go.Proofs.Ytbkoahikdjbdcaa
open Go.RowKit
set_option maxRecDepth 100000
set_option linter.unusedVariables false

def placesFrom (r c : Int) : List Int × Int := if tableOk r c then (placesL r c, 0) else ([], 2)
theorem placesFrom_len (r c : Int) : (placesFrom r c).1.length ≤ 1600 := by
  unfold placesFrom
  split
  · rename_i h
    obtain ⟨h1, h2, _⟩ := tableOk_true h
    simp only [placesL, placesTo_length]
    have := Nat.mul_le_mul (show c.toNat ≤ 40 by omega) (show r.toNat ≤ 40 by omega)
    omega
  · simp

theorem placesFrom_no {r c : Int} (h : tableOk r c = false) : placesFrom r c = ([], 2) := by simp [placesFrom, h]
theorem placesFrom_yes {r c : Int} (h : tableOk r c = true) : placesFrom r c = (placesL r c, 0) := by simp [placesFrom, h]

theorem placesFrom_spec (r c : Int) (w : World) : Calls Try.prog 15 #[.int .i64 r, .int .i64 c] w fun e w' => ∃ a n cp, e = .returned (.tuple #[.slice a n cp, .int .i64 (placesFrom r c).2]) ∧ Own w' w.heap.size w'.heap.size 2 1 a n cp (ints (placesFrom r c).1) ∧ Below w.heap.size w w' := by
  cases ht : tableOk r c
  · go_enter Try.func15, Try.ntmps15
    go_wp2_with (go_at_call 40; refine (l26Table_any _ _ _).mono ?_; rintro e w' ⟨rfl, rfl⟩)
    go_ret2
    rw [placesFrom_no ht]
    exact ⟨_, _, _, rfl, Own.nil_ _ _ _ _ _, Below.refl _ _⟩
  · obtain ⟨h1, h2, h3⟩ := tableOk_true ht
    go_enter Try.func15, Try.ntmps15
    go_wp2_with (first | (go_at_call 40; refine (l26Table_any _ _ _).mono ?_; rintro e w' ⟨rfl, rfl⟩) | (go_at_call 41; refine (l26From_any _ _ _ h1 h2).mono ?_; rintro e w' ⟨a, n, cp, rfl, hown, hbel⟩))
    go_ret2
    rw [placesFrom_yes ht]
    exact ⟨_, _, _, rfl, hown, hbel⟩

theorem placesFrom_impl (r c : Int) (w : World) : Calls Try.prog 14 #[.int .i64 r, .int .i64 c] w fun e w' => ∃ a n cp, e = .returned (.tuple #[.slice a n cp, .int .i64 (placesFrom r c).2]) ∧ Own w' w.heap.size w'.heap.size 2 1 a n cp (ints (placesFrom r c).1) ∧ Below w.heap.size w w' := by
  cases ht : tableOk r c
  · go_enter Try.func14, Try.ntmps14
    go_wp2_with (go_at_call 39; refine (isTable_any _ _ _).mono ?_; rintro e w' ⟨rfl, rfl⟩)
    go_ret2
    rw [placesFrom_no ht]
    exact ⟨_, _, _, rfl, Own.nil_ _ _ _ _ _, Below.refl _ _⟩
  · obtain ⟨h1, h2, h3⟩ := tableOk_true ht
    go_enter Try.func14, Try.ntmps14
    go_wp2_with (first | (go_at_call 39; refine (isTable_any _ _ _).mono ?_; rintro e w' ⟨rfl, rfl⟩) | (go_at_call 36; refine (places_any _ _ _ h1 h2).mono ?_; rintro e w' ⟨a, n, cp, rfl, hown, hbel⟩))
    go_ret2
    rw [placesFrom_yes ht]
    exact ⟨_, _, _, rfl, hown, hbel⟩

end Go.Proofs.Ytbkoahikdjbdcaa
