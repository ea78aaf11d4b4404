/- IsSpikeRule, by both programs. -/
import Derived.Test.YtcbehnlpefjhdaaInt
namespace Go.Proofs.Ytcbehnlpefjhdaa
open Go.RowKit
set_option maxRecDepth 100000
set_option linter.unusedVariables false

def spikeRuleOk (r l m : Int) : Bool := inR 0 10000 r && inR 1 200 l && inR 0 1000000 m

theorem ints1 (x : Int) : ints [x] = [.int .i64 x] := rfl

theorem isSpikeRule_impl (r l m : Int) (w : World) : Calls Try.prog 17 #[.agg #[.int .i64 r, .int .i64 l, .int .i64 m]] w fun e w' => e = .returned (.bool (spikeRuleOk r l m)) ∧ Below w.heap.size w w' := by
  have e1 : [r].all (inR 0 10000) = inR 0 10000 r := by simp
  go_enter Try.func17, Try.ntmps17
  go_wp2_with (first | (go_at_call 44; refine (within_any _ _ _ _).mono ?_; rintro e w' ⟨rfl, rfl⟩) | (go_at_call 43; refine (isField_any _ _ _ [r] _ (by exact Row.one' _ _ _ _ (by simp)) (by omega)).mono ?_; rintro e w' ⟨rfl, rfl⟩))
  all_goals (go_ret; exact ⟨by simp [spikeRuleOk, *], by go_grown⟩)

theorem isSpikeRule_spec (r l m : Int) (w : World) : Calls Try.prog 18 #[.agg #[.int .i64 r, .int .i64 l, .int .i64 m]] w fun e w' => e = .returned (.bool (spikeRuleOk r l m)) ∧ Below w.heap.size w w' := by
  go_enter Try.func18, Try.ntmps18
  go_wp2_with (first | (go_at_call 41; refine (l01In_any _ _ _ _).mono ?_; rintro e w' ⟨rfl, rfl⟩))
  all_goals (go_ret; exact ⟨by simp [spikeRuleOk, *], by go_grown⟩)

end Go.Proofs.Ytcbehnlpefjhdaa
