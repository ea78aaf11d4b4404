/-
  No cell of these rows narrows 'for every input' (looked for: loops, veiled, ifaces, maps, wideKeys, modest, calm, conditions, laid).
  DERIVED. THE GIVEN ROWS OF THIS SEAT. 10 by the template 'for every input the law returns true; each argument reads behind the call as it read before'; 0 by the template 'total and deterministic' (their statements: YtbomaebbhaafoaaTotals.lean).
  GIVEN WITH THE SEED: the statements are not yours to turn. If you find one false, say at which input.
  Laid BY PROGRAM, IN A SANDBOX (cutbox-rows.mjs): the forced cells as the released guide's own fill.sh prints them over the translation bcb105acb565bcc6… (all of the seat's roots in one cut). By AI agents, Wed Nov 11 2026. No macro, syntax, notation, axiom, sorry.
-/
import Derived.Test.YtbomaebbhaafoaaChecked
import GoSem.Claim
import GoSem.ClaimJoined
import GoSem.ClaimMapViews
import Derived.JoinedTies
import Derived.KernelRfl
namespace Go.Proofs.Ytbomaebbhaafoaa
/- THE CELL 'sum', in the pinned program and in every row, IS THE sha256 OF THE DUMP (.gsa) THAT YtbomaebbhaafoaaProg.lean LOADS. Nothing in Lean hashes anything: it is a label: what it is worth is what the hold of that sum in a sandbox is worth. -/
noncomputable def Try.pinned : Pinned := { name := "ytbomaebbhaafoaa", sum := "bcb105acb565bcc67086bc20b92e81bcb8d367e3a7eb25b3b414d8dc6762675e", checked := Try.checked }
namespace Rows
def none {H : Type} : Left H := { results := [], args := [] }

/-- 'laws.FnPlans': WHATEVER THE INPUT: true; the input reads as it did. -/
def fnPlansSpec : ChangeSpec := { name := "fnPlans", fn := fun _ => fun
  | [d] => { results := [.lit (.bool true)], args := [d] }
  | _ => none }
def fnPlansRow : OpenClaim := { program := "ytbomaebbhaafoaa", sum := "bcb105acb565bcc67086bc20b92e81bcb8d367e3a7eb25b3b414d8dc6762675e", func := "loop.example/g00915/laws.FnPlans", spec := "fnPlans", unfollowed := true, recurses := true, apart := false }
def FnPlansSaid : Prop := fnPlansRow.holds Try.pinned (OpenSpec.ofChange fnPlansSpec)

/-- ITS FALSE NEIGHBOUR: 'it returns false'. Refute it at one input. -/
def fnPlansWrong : ChangeSpec := { name := "fnPlans", fn := fun _ => fun
  | [d] => { results := [.lit (.bool false)], args := [d] }
  | _ => none }
def FnPlansWrongFalsely : Prop := fnPlansRow.holds Try.pinned (OpenSpec.ofChange fnPlansWrong)

/-- 'laws.FnExactRouteLength': WHATEVER THE INPUT: true; the input reads as it did. -/
def fnExactRouteLengthSpec : ChangeSpec := { name := "fnExactRouteLength", fn := fun _ => fun
  | [d1, d2] => { results := [.lit (.bool true)], args := [d1, d2] }
  | _ => none }
def fnExactRouteLengthRow : OpenClaim := { program := "ytbomaebbhaafoaa", sum := "bcb105acb565bcc67086bc20b92e81bcb8d367e3a7eb25b3b414d8dc6762675e", func := "loop.example/g00915/laws.FnExactRouteLength", spec := "fnExactRouteLength", apart := false }
def FnExactRouteLengthSaid : Prop := fnExactRouteLengthRow.holds Try.pinned (OpenSpec.ofChange fnExactRouteLengthSpec)

/-- ITS FALSE NEIGHBOUR: 'it returns false'. Refute it at one input. -/
def fnExactRouteLengthWrong : ChangeSpec := { name := "fnExactRouteLength", fn := fun _ => fun
  | [d1, d2] => { results := [.lit (.bool false)], args := [d1, d2] }
  | _ => none }
def FnExactRouteLengthWrongFalsely : Prop := fnExactRouteLengthRow.holds Try.pinned (OpenSpec.ofChange fnExactRouteLengthWrong)

/-- 'laws.FnCovers': WHATEVER THE INPUT: true; the input reads as it did. -/
def fnCoversSpec : ChangeSpec := { name := "fnCovers", fn := fun _ => fun
  | [d] => { results := [.lit (.bool true)], args := [d] }
  | _ => none }
def fnCoversRow : OpenClaim := { program := "ytbomaebbhaafoaa", sum := "bcb105acb565bcc67086bc20b92e81bcb8d367e3a7eb25b3b414d8dc6762675e", func := "loop.example/g00915/laws.FnCovers", spec := "fnCovers", unfollowed := true, recurses := true, apart := false }
def FnCoversSaid : Prop := fnCoversRow.holds Try.pinned (OpenSpec.ofChange fnCoversSpec)

/-- ITS FALSE NEIGHBOUR: 'it returns false'. Refute it at one input. -/
def fnCoversWrong : ChangeSpec := { name := "fnCovers", fn := fun _ => fun
  | [d] => { results := [.lit (.bool false)], args := [d] }
  | _ => none }
def FnCoversWrongFalsely : Prop := fnCoversRow.holds Try.pinned (OpenSpec.ofChange fnCoversWrong)

/-- 'laws.FnExactEvenPlan': WHATEVER THE INPUT: true; the input reads as it did. -/
def fnExactEvenPlanSpec : ChangeSpec := { name := "fnExactEvenPlan", fn := fun _ => fun
  | [d1, d2, d3] => { results := [.lit (.bool true)], args := [d1, d2, d3] }
  | _ => none }
def fnExactEvenPlanRow : OpenClaim := { program := "ytbomaebbhaafoaa", sum := "bcb105acb565bcc67086bc20b92e81bcb8d367e3a7eb25b3b414d8dc6762675e", func := "loop.example/g00915/laws.FnExactEvenPlan", spec := "fnExactEvenPlan", apart := false }
def FnExactEvenPlanSaid : Prop := fnExactEvenPlanRow.holds Try.pinned (OpenSpec.ofChange fnExactEvenPlanSpec)

/-- ITS FALSE NEIGHBOUR: 'it returns false'. Refute it at one input. -/
def fnExactEvenPlanWrong : ChangeSpec := { name := "fnExactEvenPlan", fn := fun _ => fun
  | [d1, d2, d3] => { results := [.lit (.bool false)], args := [d1, d2, d3] }
  | _ => none }
def FnExactEvenPlanWrongFalsely : Prop := fnExactEvenPlanRow.holds Try.pinned (OpenSpec.ofChange fnExactEvenPlanWrong)

/-- 'laws.FnExactRoutePoints': WHATEVER THE INPUT: true; the input reads as it did. -/
def fnExactRoutePointsSpec : ChangeSpec := { name := "fnExactRoutePoints", fn := fun _ => fun
  | [d1, d2] => { results := [.lit (.bool true)], args := [d1, d2] }
  | _ => none }
def fnExactRoutePointsRow : OpenClaim := { program := "ytbomaebbhaafoaa", sum := "bcb105acb565bcc67086bc20b92e81bcb8d367e3a7eb25b3b414d8dc6762675e", func := "loop.example/g00915/laws.FnExactRoutePoints", spec := "fnExactRoutePoints", apart := false }
def FnExactRoutePointsSaid : Prop := fnExactRoutePointsRow.holds Try.pinned (OpenSpec.ofChange fnExactRoutePointsSpec)

/-- ITS FALSE NEIGHBOUR: 'it returns false'. Refute it at one input. -/
def fnExactRoutePointsWrong : ChangeSpec := { name := "fnExactRoutePoints", fn := fun _ => fun
  | [d1, d2] => { results := [.lit (.bool false)], args := [d1, d2] }
  | _ => none }
def FnExactRoutePointsWrongFalsely : Prop := fnExactRoutePointsRow.holds Try.pinned (OpenSpec.ofChange fnExactRoutePointsWrong)

/-- 'laws.FnRoutes': WHATEVER THE INPUT: true; the input reads as it did. -/
def fnRoutesSpec : ChangeSpec := { name := "fnRoutes", fn := fun _ => fun
  | [d] => { results := [.lit (.bool true)], args := [d] }
  | _ => none }
def fnRoutesRow : OpenClaim := { program := "ytbomaebbhaafoaa", sum := "bcb105acb565bcc67086bc20b92e81bcb8d367e3a7eb25b3b414d8dc6762675e", func := "loop.example/g00915/laws.FnRoutes", spec := "fnRoutes", apart := false }
def FnRoutesSaid : Prop := fnRoutesRow.holds Try.pinned (OpenSpec.ofChange fnRoutesSpec)

/-- ITS FALSE NEIGHBOUR: 'it returns false'. Refute it at one input. -/
def fnRoutesWrong : ChangeSpec := { name := "fnRoutes", fn := fun _ => fun
  | [d] => { results := [.lit (.bool false)], args := [d] }
  | _ => none }
def FnRoutesWrongFalsely : Prop := fnRoutesRow.holds Try.pinned (OpenSpec.ofChange fnRoutesWrong)

/-- 'laws.FnExactSpansOf': WHATEVER THE INPUT: true; the input reads as it did. -/
def fnExactSpansOfSpec : ChangeSpec := { name := "fnExactSpansOf", fn := fun _ => fun
  | [d1, d2, d3, d4] => { results := [.lit (.bool true)], args := [d1, d2, d3, d4] }
  | _ => none }
def fnExactSpansOfRow : OpenClaim := { program := "ytbomaebbhaafoaa", sum := "bcb105acb565bcc67086bc20b92e81bcb8d367e3a7eb25b3b414d8dc6762675e", func := "loop.example/g00915/laws.FnExactSpansOf", spec := "fnExactSpansOf", unfollowed := true, recurses := true, apart := false }
def FnExactSpansOfSaid : Prop := fnExactSpansOfRow.holds Try.pinned (OpenSpec.ofChange fnExactSpansOfSpec)

/-- ITS FALSE NEIGHBOUR: 'it returns false'. Refute it at one input. -/
def fnExactSpansOfWrong : ChangeSpec := { name := "fnExactSpansOf", fn := fun _ => fun
  | [d1, d2, d3, d4] => { results := [.lit (.bool false)], args := [d1, d2, d3, d4] }
  | _ => none }
def FnExactSpansOfWrongFalsely : Prop := fnExactSpansOfRow.holds Try.pinned (OpenSpec.ofChange fnExactSpansOfWrong)

/-- 'laws.FnExactLeastCover': WHATEVER THE INPUT: true; the input reads as it did. -/
def fnExactLeastCoverSpec : ChangeSpec := { name := "fnExactLeastCover", fn := fun _ => fun
  | [d1, d2] => { results := [.lit (.bool true)], args := [d1, d2] }
  | _ => none }
def fnExactLeastCoverRow : OpenClaim := { program := "ytbomaebbhaafoaa", sum := "bcb105acb565bcc67086bc20b92e81bcb8d367e3a7eb25b3b414d8dc6762675e", func := "loop.example/g00915/laws.FnExactLeastCover", spec := "fnExactLeastCover", unfollowed := true, recurses := true, apart := false }
def FnExactLeastCoverSaid : Prop := fnExactLeastCoverRow.holds Try.pinned (OpenSpec.ofChange fnExactLeastCoverSpec)

/-- ITS FALSE NEIGHBOUR: 'it returns false'. Refute it at one input. -/
def fnExactLeastCoverWrong : ChangeSpec := { name := "fnExactLeastCover", fn := fun _ => fun
  | [d1, d2] => { results := [.lit (.bool false)], args := [d1, d2] }
  | _ => none }
def FnExactLeastCoverWrongFalsely : Prop := fnExactLeastCoverRow.holds Try.pinned (OpenSpec.ofChange fnExactLeastCoverWrong)

/-- 'laws.FnExactIsCovered': WHATEVER THE INPUT: true; the input reads as it did. -/
def fnExactIsCoveredSpec : ChangeSpec := { name := "fnExactIsCovered", fn := fun _ => fun
  | [d1, d2] => { results := [.lit (.bool true)], args := [d1, d2] }
  | _ => none }
def fnExactIsCoveredRow : OpenClaim := { program := "ytbomaebbhaafoaa", sum := "bcb105acb565bcc67086bc20b92e81bcb8d367e3a7eb25b3b414d8dc6762675e", func := "loop.example/g00915/laws.FnExactIsCovered", spec := "fnExactIsCovered", unfollowed := true, recurses := true, apart := false }
def FnExactIsCoveredSaid : Prop := fnExactIsCoveredRow.holds Try.pinned (OpenSpec.ofChange fnExactIsCoveredSpec)

/-- ITS FALSE NEIGHBOUR: 'it returns false'. Refute it at one input. -/
def fnExactIsCoveredWrong : ChangeSpec := { name := "fnExactIsCovered", fn := fun _ => fun
  | [d1, d2] => { results := [.lit (.bool false)], args := [d1, d2] }
  | _ => none }
def FnExactIsCoveredWrongFalsely : Prop := fnExactIsCoveredRow.holds Try.pinned (OpenSpec.ofChange fnExactIsCoveredWrong)

/-- 'laws.FnExactGapsOf': WHATEVER THE INPUT: true; the input reads as it did. -/
def fnExactGapsOfSpec : ChangeSpec := { name := "fnExactGapsOf", fn := fun _ => fun
  | [d1, d2] => { results := [.lit (.bool true)], args := [d1, d2] }
  | _ => none }
def fnExactGapsOfRow : OpenClaim := { program := "ytbomaebbhaafoaa", sum := "bcb105acb565bcc67086bc20b92e81bcb8d367e3a7eb25b3b414d8dc6762675e", func := "loop.example/g00915/laws.FnExactGapsOf", spec := "fnExactGapsOf", unfollowed := true, recurses := true, apart := false }
def FnExactGapsOfSaid : Prop := fnExactGapsOfRow.holds Try.pinned (OpenSpec.ofChange fnExactGapsOfSpec)

/-- ITS FALSE NEIGHBOUR: 'it returns false'. Refute it at one input. -/
def fnExactGapsOfWrong : ChangeSpec := { name := "fnExactGapsOf", fn := fun _ => fun
  | [d1, d2] => { results := [.lit (.bool false)], args := [d1, d2] }
  | _ => none }
def FnExactGapsOfWrongFalsely : Prop := fnExactGapsOfRow.holds Try.pinned (OpenSpec.ofChange fnExactGapsOfWrong)

/- THE SECOND FORM. 'bulk': how many values and letters a reading holds, each counted each time it is reached (what is shared counts as often as it is met; a slice's spare places count too). A statement '..UptoSaid' is the law's where the arguments, and the package variables that the reading takes, are together of bulk at most 1048576: NARROWER than '..Said'. Prove '..Said' where nothing that the law and all that it calls make is longer than what came in: it says more and counts as full. Else prove '..UptoSaid'. A law counts once. -/
mutual
def uptoBulk {H : Type} : DataW H → Nat
  | .lit (.string bytes) => bytes.length + 1
  | .lit _ => 1
  | .nil => 1
  | .ptr d => uptoBulk d + 1
  | .slice elems spare => uptoBulkAll elems + uptoBulkAll spare + 1
  | .agg parts => uptoBulkAll parts + 1
  | .iface _ d => uptoBulk d + 1
  | .map entries => uptoBulkEntries entries + 1
  | .held _ => 1
def uptoBulkAll {H : Type} : List (DataW H) → Nat
  | [] => 0
  | d :: r => uptoBulk d + uptoBulkAll r
def uptoBulkEntries {H : Type} : List (Lit × DataW H) → Nat
  | [] => 0
  | x :: r => uptoBulkEntry x + uptoBulkEntries r
def uptoBulkEntry {H : Type} : Lit × DataW H → Nat
  | (.string bytes, d) => bytes.length + uptoBulk d + 1
  | (_, d) => uptoBulk d + 1
 end
def uptoSmall : (H : Type) → List (DataW H) → Bool := fun _ ds => decide (uptoBulkAll ds ≤ 1048576)
def OpenSpec.upto (s : _root_.Go.ChangeSpec) : _root_.Go.OpenSpec := { _root_.Go.OpenSpec.ofChange s with cond := some uptoSmall }

/-- 'laws.FnPlans', WHERE WHAT IT READS IS OF BULK AT MOST 1048576: true; the input reads as it did. -/
def fnPlansUptoRow : OpenClaim := { program := "ytbomaebbhaafoaa", sum := "bcb105acb565bcc67086bc20b92e81bcb8d367e3a7eb25b3b414d8dc6762675e", func := "loop.example/g00915/laws.FnPlans", spec := "fnPlans", unfollowed := true, recurses := true, apart := false, narrowed := true }
def FnPlansUptoSaid : Prop := fnPlansUptoRow.holds Try.pinned (OpenSpec.upto fnPlansSpec)

/-- 'laws.FnExactRouteLength', WHERE WHAT IT READS IS OF BULK AT MOST 1048576: true; the input reads as it did. -/
def fnExactRouteLengthUptoRow : OpenClaim := { program := "ytbomaebbhaafoaa", sum := "bcb105acb565bcc67086bc20b92e81bcb8d367e3a7eb25b3b414d8dc6762675e", func := "loop.example/g00915/laws.FnExactRouteLength", spec := "fnExactRouteLength", apart := false, narrowed := true }
def FnExactRouteLengthUptoSaid : Prop := fnExactRouteLengthUptoRow.holds Try.pinned (OpenSpec.upto fnExactRouteLengthSpec)

/-- 'laws.FnCovers', WHERE WHAT IT READS IS OF BULK AT MOST 1048576: true; the input reads as it did. -/
def fnCoversUptoRow : OpenClaim := { program := "ytbomaebbhaafoaa", sum := "bcb105acb565bcc67086bc20b92e81bcb8d367e3a7eb25b3b414d8dc6762675e", func := "loop.example/g00915/laws.FnCovers", spec := "fnCovers", unfollowed := true, recurses := true, apart := false, narrowed := true }
def FnCoversUptoSaid : Prop := fnCoversUptoRow.holds Try.pinned (OpenSpec.upto fnCoversSpec)

/-- 'laws.FnExactEvenPlan', WHERE WHAT IT READS IS OF BULK AT MOST 1048576: true; the input reads as it did. -/
def fnExactEvenPlanUptoRow : OpenClaim := { program := "ytbomaebbhaafoaa", sum := "bcb105acb565bcc67086bc20b92e81bcb8d367e3a7eb25b3b414d8dc6762675e", func := "loop.example/g00915/laws.FnExactEvenPlan", spec := "fnExactEvenPlan", apart := false, narrowed := true }
def FnExactEvenPlanUptoSaid : Prop := fnExactEvenPlanUptoRow.holds Try.pinned (OpenSpec.upto fnExactEvenPlanSpec)

/-- 'laws.FnExactRoutePoints', WHERE WHAT IT READS IS OF BULK AT MOST 1048576: true; the input reads as it did. -/
def fnExactRoutePointsUptoRow : OpenClaim := { program := "ytbomaebbhaafoaa", sum := "bcb105acb565bcc67086bc20b92e81bcb8d367e3a7eb25b3b414d8dc6762675e", func := "loop.example/g00915/laws.FnExactRoutePoints", spec := "fnExactRoutePoints", apart := false, narrowed := true }
def FnExactRoutePointsUptoSaid : Prop := fnExactRoutePointsUptoRow.holds Try.pinned (OpenSpec.upto fnExactRoutePointsSpec)

/-- 'laws.FnRoutes', WHERE WHAT IT READS IS OF BULK AT MOST 1048576: true; the input reads as it did. -/
def fnRoutesUptoRow : OpenClaim := { program := "ytbomaebbhaafoaa", sum := "bcb105acb565bcc67086bc20b92e81bcb8d367e3a7eb25b3b414d8dc6762675e", func := "loop.example/g00915/laws.FnRoutes", spec := "fnRoutes", apart := false, narrowed := true }
def FnRoutesUptoSaid : Prop := fnRoutesUptoRow.holds Try.pinned (OpenSpec.upto fnRoutesSpec)

/-- 'laws.FnExactSpansOf', WHERE WHAT IT READS IS OF BULK AT MOST 1048576: true; the input reads as it did. -/
def fnExactSpansOfUptoRow : OpenClaim := { program := "ytbomaebbhaafoaa", sum := "bcb105acb565bcc67086bc20b92e81bcb8d367e3a7eb25b3b414d8dc6762675e", func := "loop.example/g00915/laws.FnExactSpansOf", spec := "fnExactSpansOf", unfollowed := true, recurses := true, apart := false, narrowed := true }
def FnExactSpansOfUptoSaid : Prop := fnExactSpansOfUptoRow.holds Try.pinned (OpenSpec.upto fnExactSpansOfSpec)

/-- 'laws.FnExactLeastCover', WHERE WHAT IT READS IS OF BULK AT MOST 1048576: true; the input reads as it did. -/
def fnExactLeastCoverUptoRow : OpenClaim := { program := "ytbomaebbhaafoaa", sum := "bcb105acb565bcc67086bc20b92e81bcb8d367e3a7eb25b3b414d8dc6762675e", func := "loop.example/g00915/laws.FnExactLeastCover", spec := "fnExactLeastCover", unfollowed := true, recurses := true, apart := false, narrowed := true }
def FnExactLeastCoverUptoSaid : Prop := fnExactLeastCoverUptoRow.holds Try.pinned (OpenSpec.upto fnExactLeastCoverSpec)

/-- 'laws.FnExactIsCovered', WHERE WHAT IT READS IS OF BULK AT MOST 1048576: true; the input reads as it did. -/
def fnExactIsCoveredUptoRow : OpenClaim := { program := "ytbomaebbhaafoaa", sum := "bcb105acb565bcc67086bc20b92e81bcb8d367e3a7eb25b3b414d8dc6762675e", func := "loop.example/g00915/laws.FnExactIsCovered", spec := "fnExactIsCovered", unfollowed := true, recurses := true, apart := false, narrowed := true }
def FnExactIsCoveredUptoSaid : Prop := fnExactIsCoveredUptoRow.holds Try.pinned (OpenSpec.upto fnExactIsCoveredSpec)

/-- 'laws.FnExactGapsOf', WHERE WHAT IT READS IS OF BULK AT MOST 1048576: true; the input reads as it did. -/
def fnExactGapsOfUptoRow : OpenClaim := { program := "ytbomaebbhaafoaa", sum := "bcb105acb565bcc67086bc20b92e81bcb8d367e3a7eb25b3b414d8dc6762675e", func := "loop.example/g00915/laws.FnExactGapsOf", spec := "fnExactGapsOf", unfollowed := true, recurses := true, apart := false, narrowed := true }
def FnExactGapsOfUptoSaid : Prop := fnExactGapsOfUptoRow.holds Try.pinned (OpenSpec.upto fnExactGapsOfSpec)

end Rows
end Go.Proofs.Ytbomaebbhaafoaa
