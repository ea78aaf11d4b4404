/-
  No cell of these rows narrows 'for every input' (looked for: loops, veiled, ifaces, maps, wideKeys, modest, calm, conditions, laid).
  DERIVED. THE GIVEN ROWS OF THIS SEAT. 12 by the template 'for every input the law returns true; each argument reads behind the call as it read before'; 0 by the template 'total and deterministic' (their statements: YtnfopbdpnnhicaaTotals.lean).
  GIVEN WITH THE SEED: the statements are not yours to turn. If you find one false, say at which input.
  Laid BY PROGRAM, IN A SANDBOX (cutbox-rows.mjs): the forced cells as the released guide's own fill.sh prints them over the translation 3f1ffdaf4d5e2154… (all of the seat's roots in one cut). By AI agents, Wed Nov 11 2026. No macro, syntax, notation, axiom, sorry.
-/
import Derived.Test.YtnfopbdpnnhicaaChecked
import GoSem.Claim
import GoSem.ClaimJoined
import GoSem.ClaimMapViews
import Derived.JoinedTies
import Derived.KernelRfl
namespace Go.Proofs.Ytnfopbdpnnhicaa
/- THE CELL 'sum', in the pinned program and in every row, IS THE sha256 OF THE DUMP (.gsa) THAT YtnfopbdpnnhicaaProg.lean LOADS. Nothing in Lean hashes anything: it is a label: what it is worth is what the hold of that sum in a sandbox is worth. -/
noncomputable def Try.pinned : Pinned := { name := "ytnfopbdpnnhicaa", sum := "3f1ffdaf4d5e21541f1cc2928b6bf8653509abe0f7855a58155c52eef8d04e8c", checked := Try.checked }
namespace Rows
def none {H : Type} : Left H := { results := [], args := [] }

/-- 'laws.FnExactFreeDistance': WHATEVER THE INPUT: true; the input reads as it did. -/
def fnExactFreeDistanceSpec : ChangeSpec := { name := "fnExactFreeDistance", fn := fun _ => fun
  | [] => { results := [.lit (.bool true)], args := [] }
  | _ => none }
def fnExactFreeDistanceRow : OpenClaim := { program := "ytnfopbdpnnhicaa", sum := "3f1ffdaf4d5e21541f1cc2928b6bf8653509abe0f7855a58155c52eef8d04e8c", func := "loop.example/g00915/laws.FnExactFreeDistance", spec := "fnExactFreeDistance", apart := false }
def FnExactFreeDistanceSaid : Prop := fnExactFreeDistanceRow.holds Try.pinned (OpenSpec.ofChange fnExactFreeDistanceSpec)

/-- ITS FALSE NEIGHBOUR: 'it returns false'. Refute it at one input. -/
def fnExactFreeDistanceWrong : ChangeSpec := { name := "fnExactFreeDistance", fn := fun _ => fun
  | [] => { results := [.lit (.bool false)], args := [] }
  | _ => none }
def FnExactFreeDistanceWrongFalsely : Prop := fnExactFreeDistanceRow.holds Try.pinned (OpenSpec.ofChange fnExactFreeDistanceWrong)

/-- 'laws.FnExactRowFill': WHATEVER THE INPUT: true; the input reads as it did. -/
def fnExactRowFillSpec : ChangeSpec := { name := "fnExactRowFill", fn := fun _ => fun
  | [d1, d2] => { results := [.lit (.bool true)], args := [d1, d2] }
  | _ => none }
def fnExactRowFillRow : OpenClaim := { program := "ytnfopbdpnnhicaa", sum := "3f1ffdaf4d5e21541f1cc2928b6bf8653509abe0f7855a58155c52eef8d04e8c", func := "loop.example/g00915/laws.FnExactRowFill", spec := "fnExactRowFill", apart := false }
def FnExactRowFillSaid : Prop := fnExactRowFillRow.holds Try.pinned (OpenSpec.ofChange fnExactRowFillSpec)

/-- ITS FALSE NEIGHBOUR: 'it returns false'. Refute it at one input. -/
def fnExactRowFillWrong : ChangeSpec := { name := "fnExactRowFill", fn := fun _ => fun
  | [d1, d2] => { results := [.lit (.bool false)], args := [d1, d2] }
  | _ => none }
def FnExactRowFillWrongFalsely : Prop := fnExactRowFillRow.holds Try.pinned (OpenSpec.ofChange fnExactRowFillWrong)

/-- 'laws.FnExactIsSpikeRule': WHATEVER THE INPUT: true; the input reads as it did. -/
def fnExactIsSpikeRuleSpec : ChangeSpec := { name := "fnExactIsSpikeRule", fn := fun _ => fun
  | [d] => { results := [.lit (.bool true)], args := [d] }
  | _ => none }
def fnExactIsSpikeRuleRow : OpenClaim := { program := "ytnfopbdpnnhicaa", sum := "3f1ffdaf4d5e21541f1cc2928b6bf8653509abe0f7855a58155c52eef8d04e8c", func := "loop.example/g00915/laws.FnExactIsSpikeRule", spec := "fnExactIsSpikeRule", apart := false }
def FnExactIsSpikeRuleSaid : Prop := fnExactIsSpikeRuleRow.holds Try.pinned (OpenSpec.ofChange fnExactIsSpikeRuleSpec)

/-- ITS FALSE NEIGHBOUR: 'it returns false'. Refute it at one input. -/
def fnExactIsSpikeRuleWrong : ChangeSpec := { name := "fnExactIsSpikeRule", fn := fun _ => fun
  | [d] => { results := [.lit (.bool false)], args := [d] }
  | _ => none }
def FnExactIsSpikeRuleWrongFalsely : Prop := fnExactIsSpikeRuleRow.holds Try.pinned (OpenSpec.ofChange fnExactIsSpikeRuleWrong)

/-- 'laws.FnExactLeastDistance': WHATEVER THE INPUT: true; the input reads as it did. -/
def fnExactLeastDistanceSpec : ChangeSpec := { name := "fnExactLeastDistance", fn := fun _ => fun
  | [d] => { results := [.lit (.bool true)], args := [d] }
  | _ => none }
def fnExactLeastDistanceRow : OpenClaim := { program := "ytnfopbdpnnhicaa", sum := "3f1ffdaf4d5e21541f1cc2928b6bf8653509abe0f7855a58155c52eef8d04e8c", func := "loop.example/g00915/laws.FnExactLeastDistance", spec := "fnExactLeastDistance", apart := false }
def FnExactLeastDistanceSaid : Prop := fnExactLeastDistanceRow.holds Try.pinned (OpenSpec.ofChange fnExactLeastDistanceSpec)

/-- ITS FALSE NEIGHBOUR: 'it returns false'. Refute it at one input. -/
def fnExactLeastDistanceWrong : ChangeSpec := { name := "fnExactLeastDistance", fn := fun _ => fun
  | [d] => { results := [.lit (.bool false)], args := [d] }
  | _ => none }
def FnExactLeastDistanceWrongFalsely : Prop := fnExactLeastDistanceRow.holds Try.pinned (OpenSpec.ofChange fnExactLeastDistanceWrong)

/-- 'laws.FnExactLongestRun': WHATEVER THE INPUT: true; the input reads as it did. -/
def fnExactLongestRunSpec : ChangeSpec := { name := "fnExactLongestRun", fn := fun _ => fun
  | [d] => { results := [.lit (.bool true)], args := [d] }
  | _ => none }
def fnExactLongestRunRow : OpenClaim := { program := "ytnfopbdpnnhicaa", sum := "3f1ffdaf4d5e21541f1cc2928b6bf8653509abe0f7855a58155c52eef8d04e8c", func := "loop.example/g00915/laws.FnExactLongestRun", spec := "fnExactLongestRun", apart := false }
def FnExactLongestRunSaid : Prop := fnExactLongestRunRow.holds Try.pinned (OpenSpec.ofChange fnExactLongestRunSpec)

/-- ITS FALSE NEIGHBOUR: 'it returns false'. Refute it at one input. -/
def fnExactLongestRunWrong : ChangeSpec := { name := "fnExactLongestRun", fn := fun _ => fun
  | [d] => { results := [.lit (.bool false)], args := [d] }
  | _ => none }
def FnExactLongestRunWrongFalsely : Prop := fnExactLongestRunRow.holds Try.pinned (OpenSpec.ofChange fnExactLongestRunWrong)

/-- 'laws.FnExactPlacesFrom': WHATEVER THE INPUT: true; the input reads as it did. -/
def fnExactPlacesFromSpec : ChangeSpec := { name := "fnExactPlacesFrom", fn := fun _ => fun
  | [d1, d2] => { results := [.lit (.bool true)], args := [d1, d2] }
  | _ => none }
def fnExactPlacesFromRow : OpenClaim := { program := "ytnfopbdpnnhicaa", sum := "3f1ffdaf4d5e21541f1cc2928b6bf8653509abe0f7855a58155c52eef8d04e8c", func := "loop.example/g00915/laws.FnExactPlacesFrom", spec := "fnExactPlacesFrom", apart := false }
def FnExactPlacesFromSaid : Prop := fnExactPlacesFromRow.holds Try.pinned (OpenSpec.ofChange fnExactPlacesFromSpec)

/-- ITS FALSE NEIGHBOUR: 'it returns false'. Refute it at one input. -/
def fnExactPlacesFromWrong : ChangeSpec := { name := "fnExactPlacesFrom", fn := fun _ => fun
  | [d1, d2] => { results := [.lit (.bool false)], args := [d1, d2] }
  | _ => none }
def FnExactPlacesFromWrongFalsely : Prop := fnExactPlacesFromRow.holds Try.pinned (OpenSpec.ofChange fnExactPlacesFromWrong)

/-- 'laws.FnExactStateBehind': WHATEVER THE INPUT: true; the input reads as it did. -/
def fnExactStateBehindSpec : ChangeSpec := { name := "fnExactStateBehind", fn := fun _ => fun
  | [d] => { results := [.lit (.bool true)], args := [d] }
  | _ => none }
def fnExactStateBehindRow : OpenClaim := { program := "ytnfopbdpnnhicaa", sum := "3f1ffdaf4d5e21541f1cc2928b6bf8653509abe0f7855a58155c52eef8d04e8c", func := "loop.example/g00915/laws.FnExactStateBehind", spec := "fnExactStateBehind", apart := false }
def FnExactStateBehindSaid : Prop := fnExactStateBehindRow.holds Try.pinned (OpenSpec.ofChange fnExactStateBehindSpec)

/-- ITS FALSE NEIGHBOUR: 'it returns false'. Refute it at one input. -/
def fnExactStateBehindWrong : ChangeSpec := { name := "fnExactStateBehind", fn := fun _ => fun
  | [d] => { results := [.lit (.bool false)], args := [d] }
  | _ => none }
def FnExactStateBehindWrongFalsely : Prop := fnExactStateBehindRow.holds Try.pinned (OpenSpec.ofChange fnExactStateBehindWrong)

/-- 'laws.FnExactAreSpans': WHATEVER THE INPUT: true; the input reads as it did. -/
def fnExactAreSpansSpec : ChangeSpec := { name := "fnExactAreSpans", fn := fun _ => fun
  | [d] => { results := [.lit (.bool true)], args := [d] }
  | _ => none }
def fnExactAreSpansRow : OpenClaim := { program := "ytnfopbdpnnhicaa", sum := "3f1ffdaf4d5e21541f1cc2928b6bf8653509abe0f7855a58155c52eef8d04e8c", func := "loop.example/g00915/laws.FnExactAreSpans", spec := "fnExactAreSpans", unfollowed := true, recurses := true, apart := false }
def FnExactAreSpansSaid : Prop := fnExactAreSpansRow.holds Try.pinned (OpenSpec.ofChange fnExactAreSpansSpec)

/-- ITS FALSE NEIGHBOUR: 'it returns false'. Refute it at one input. -/
def fnExactAreSpansWrong : ChangeSpec := { name := "fnExactAreSpans", fn := fun _ => fun
  | [d] => { results := [.lit (.bool false)], args := [d] }
  | _ => none }
def FnExactAreSpansWrongFalsely : Prop := fnExactAreSpansRow.holds Try.pinned (OpenSpec.ofChange fnExactAreSpansWrong)

/-- 'laws.FnExactCodeDistance': WHATEVER THE INPUT: true; the input reads as it did. -/
def fnExactCodeDistanceSpec : ChangeSpec := { name := "fnExactCodeDistance", fn := fun _ => fun
  | [d1, d2] => { results := [.lit (.bool true)], args := [d1, d2] }
  | _ => none }
def fnExactCodeDistanceRow : OpenClaim := { program := "ytnfopbdpnnhicaa", sum := "3f1ffdaf4d5e21541f1cc2928b6bf8653509abe0f7855a58155c52eef8d04e8c", func := "loop.example/g00915/laws.FnExactCodeDistance", spec := "fnExactCodeDistance", apart := false }
def FnExactCodeDistanceSaid : Prop := fnExactCodeDistanceRow.holds Try.pinned (OpenSpec.ofChange fnExactCodeDistanceSpec)

/-- ITS FALSE NEIGHBOUR: 'it returns false'. Refute it at one input. -/
def fnExactCodeDistanceWrong : ChangeSpec := { name := "fnExactCodeDistance", fn := fun _ => fun
  | [d1, d2] => { results := [.lit (.bool false)], args := [d1, d2] }
  | _ => none }
def FnExactCodeDistanceWrongFalsely : Prop := fnExactCodeDistanceRow.holds Try.pinned (OpenSpec.ofChange fnExactCodeDistanceWrong)

/-- 'laws.FnExactFrameCheck': WHATEVER THE INPUT: true; the input reads as it did. -/
def fnExactFrameCheckSpec : ChangeSpec := { name := "fnExactFrameCheck", fn := fun _ => fun
  | [d] => { results := [.lit (.bool true)], args := [d] }
  | _ => none }
def fnExactFrameCheckRow : OpenClaim := { program := "ytnfopbdpnnhicaa", sum := "3f1ffdaf4d5e21541f1cc2928b6bf8653509abe0f7855a58155c52eef8d04e8c", func := "loop.example/g00915/laws.FnExactFrameCheck", spec := "fnExactFrameCheck", apart := false }
def FnExactFrameCheckSaid : Prop := fnExactFrameCheckRow.holds Try.pinned (OpenSpec.ofChange fnExactFrameCheckSpec)

/-- ITS FALSE NEIGHBOUR: 'it returns false'. Refute it at one input. -/
def fnExactFrameCheckWrong : ChangeSpec := { name := "fnExactFrameCheck", fn := fun _ => fun
  | [d] => { results := [.lit (.bool false)], args := [d] }
  | _ => none }
def FnExactFrameCheckWrongFalsely : Prop := fnExactFrameCheckRow.holds Try.pinned (OpenSpec.ofChange fnExactFrameCheckWrong)

/-- 'laws.FnExactIsFrame': WHATEVER THE INPUT: true; the input reads as it did. -/
def fnExactIsFrameSpec : ChangeSpec := { name := "fnExactIsFrame", fn := fun _ => fun
  | [d] => { results := [.lit (.bool true)], args := [d] }
  | _ => none }
def fnExactIsFrameRow : OpenClaim := { program := "ytnfopbdpnnhicaa", sum := "3f1ffdaf4d5e21541f1cc2928b6bf8653509abe0f7855a58155c52eef8d04e8c", func := "loop.example/g00915/laws.FnExactIsFrame", spec := "fnExactIsFrame", apart := false }
def FnExactIsFrameSaid : Prop := fnExactIsFrameRow.holds Try.pinned (OpenSpec.ofChange fnExactIsFrameSpec)

/-- ITS FALSE NEIGHBOUR: 'it returns false'. Refute it at one input. -/
def fnExactIsFrameWrong : ChangeSpec := { name := "fnExactIsFrame", fn := fun _ => fun
  | [d] => { results := [.lit (.bool false)], args := [d] }
  | _ => none }
def FnExactIsFrameWrongFalsely : Prop := fnExactIsFrameRow.holds Try.pinned (OpenSpec.ofChange fnExactIsFrameWrong)

/-- 'laws.FnExactPunctureCode': WHATEVER THE INPUT: true; the input reads as it did. -/
def fnExactPunctureCodeSpec : ChangeSpec := { name := "fnExactPunctureCode", fn := fun _ => fun
  | [d] => { results := [.lit (.bool true)], args := [d] }
  | _ => none }
def fnExactPunctureCodeRow : OpenClaim := { program := "ytnfopbdpnnhicaa", sum := "3f1ffdaf4d5e21541f1cc2928b6bf8653509abe0f7855a58155c52eef8d04e8c", func := "loop.example/g00915/laws.FnExactPunctureCode", spec := "fnExactPunctureCode", apart := false }
def FnExactPunctureCodeSaid : Prop := fnExactPunctureCodeRow.holds Try.pinned (OpenSpec.ofChange fnExactPunctureCodeSpec)

/-- ITS FALSE NEIGHBOUR: 'it returns false'. Refute it at one input. -/
def fnExactPunctureCodeWrong : ChangeSpec := { name := "fnExactPunctureCode", fn := fun _ => fun
  | [d] => { results := [.lit (.bool false)], args := [d] }
  | _ => none }
def FnExactPunctureCodeWrongFalsely : Prop := fnExactPunctureCodeRow.holds Try.pinned (OpenSpec.ofChange fnExactPunctureCodeWrong)

/- THE SECOND FORM. 'bulk': how many values and letters a reading holds, each counted each time it is reached (what is shared counts as often as it is met; a slice's spare places count too). A statement '..UptoSaid' is the law's where the arguments, and the package variables that the reading takes, are together of bulk at most 1048576: NARROWER than '..Said'. Prove '..Said' where nothing that the law and all that it calls make is longer than what came in: it says more and counts as full. Else prove '..UptoSaid'. A law counts once. -/
mutual
def uptoBulk {H : Type} : DataW H → Nat
  | .lit (.string bytes) => bytes.length + 1
  | .lit _ => 1
  | .nil => 1
  | .ptr d => uptoBulk d + 1
  | .slice elems spare => uptoBulkAll elems + uptoBulkAll spare + 1
  | .agg parts => uptoBulkAll parts + 1
  | .iface _ d => uptoBulk d + 1
  | .map entries => uptoBulkEntries entries + 1
  | .held _ => 1
def uptoBulkAll {H : Type} : List (DataW H) → Nat
  | [] => 0
  | d :: r => uptoBulk d + uptoBulkAll r
def uptoBulkEntries {H : Type} : List (Lit × DataW H) → Nat
  | [] => 0
  | x :: r => uptoBulkEntry x + uptoBulkEntries r
def uptoBulkEntry {H : Type} : Lit × DataW H → Nat
  | (.string bytes, d) => bytes.length + uptoBulk d + 1
  | (_, d) => uptoBulk d + 1
 end
def uptoSmall : (H : Type) → List (DataW H) → Bool := fun _ ds => decide (uptoBulkAll ds ≤ 1048576)
def OpenSpec.upto (s : _root_.Go.ChangeSpec) : _root_.Go.OpenSpec := { _root_.Go.OpenSpec.ofChange s with cond := some uptoSmall }

/-- 'laws.FnExactFreeDistance', WHERE WHAT IT READS IS OF BULK AT MOST 1048576: true; the input reads as it did. -/
def fnExactFreeDistanceUptoRow : OpenClaim := { program := "ytnfopbdpnnhicaa", sum := "3f1ffdaf4d5e21541f1cc2928b6bf8653509abe0f7855a58155c52eef8d04e8c", func := "loop.example/g00915/laws.FnExactFreeDistance", spec := "fnExactFreeDistance", apart := false, narrowed := true }
def FnExactFreeDistanceUptoSaid : Prop := fnExactFreeDistanceUptoRow.holds Try.pinned (OpenSpec.upto fnExactFreeDistanceSpec)

/-- 'laws.FnExactRowFill', WHERE WHAT IT READS IS OF BULK AT MOST 1048576: true; the input reads as it did. -/
def fnExactRowFillUptoRow : OpenClaim := { program := "ytnfopbdpnnhicaa", sum := "3f1ffdaf4d5e21541f1cc2928b6bf8653509abe0f7855a58155c52eef8d04e8c", func := "loop.example/g00915/laws.FnExactRowFill", spec := "fnExactRowFill", apart := false, narrowed := true }
def FnExactRowFillUptoSaid : Prop := fnExactRowFillUptoRow.holds Try.pinned (OpenSpec.upto fnExactRowFillSpec)

/-- 'laws.FnExactIsSpikeRule', WHERE WHAT IT READS IS OF BULK AT MOST 1048576: true; the input reads as it did. -/
def fnExactIsSpikeRuleUptoRow : OpenClaim := { program := "ytnfopbdpnnhicaa", sum := "3f1ffdaf4d5e21541f1cc2928b6bf8653509abe0f7855a58155c52eef8d04e8c", func := "loop.example/g00915/laws.FnExactIsSpikeRule", spec := "fnExactIsSpikeRule", apart := false, narrowed := true }
def FnExactIsSpikeRuleUptoSaid : Prop := fnExactIsSpikeRuleUptoRow.holds Try.pinned (OpenSpec.upto fnExactIsSpikeRuleSpec)

/-- 'laws.FnExactLeastDistance', WHERE WHAT IT READS IS OF BULK AT MOST 1048576: true; the input reads as it did. -/
def fnExactLeastDistanceUptoRow : OpenClaim := { program := "ytnfopbdpnnhicaa", sum := "3f1ffdaf4d5e21541f1cc2928b6bf8653509abe0f7855a58155c52eef8d04e8c", func := "loop.example/g00915/laws.FnExactLeastDistance", spec := "fnExactLeastDistance", apart := false, narrowed := true }
def FnExactLeastDistanceUptoSaid : Prop := fnExactLeastDistanceUptoRow.holds Try.pinned (OpenSpec.upto fnExactLeastDistanceSpec)

/-- 'laws.FnExactLongestRun', WHERE WHAT IT READS IS OF BULK AT MOST 1048576: true; the input reads as it did. -/
def fnExactLongestRunUptoRow : OpenClaim := { program := "ytnfopbdpnnhicaa", sum := "3f1ffdaf4d5e21541f1cc2928b6bf8653509abe0f7855a58155c52eef8d04e8c", func := "loop.example/g00915/laws.FnExactLongestRun", spec := "fnExactLongestRun", apart := false, narrowed := true }
def FnExactLongestRunUptoSaid : Prop := fnExactLongestRunUptoRow.holds Try.pinned (OpenSpec.upto fnExactLongestRunSpec)

/-- 'laws.FnExactPlacesFrom', WHERE WHAT IT READS IS OF BULK AT MOST 1048576: true; the input reads as it did. -/
def fnExactPlacesFromUptoRow : OpenClaim := { program := "ytnfopbdpnnhicaa", sum := "3f1ffdaf4d5e21541f1cc2928b6bf8653509abe0f7855a58155c52eef8d04e8c", func := "loop.example/g00915/laws.FnExactPlacesFrom", spec := "fnExactPlacesFrom", apart := false, narrowed := true }
def FnExactPlacesFromUptoSaid : Prop := fnExactPlacesFromUptoRow.holds Try.pinned (OpenSpec.upto fnExactPlacesFromSpec)

/-- 'laws.FnExactStateBehind', WHERE WHAT IT READS IS OF BULK AT MOST 1048576: true; the input reads as it did. -/
def fnExactStateBehindUptoRow : OpenClaim := { program := "ytnfopbdpnnhicaa", sum := "3f1ffdaf4d5e21541f1cc2928b6bf8653509abe0f7855a58155c52eef8d04e8c", func := "loop.example/g00915/laws.FnExactStateBehind", spec := "fnExactStateBehind", apart := false, narrowed := true }
def FnExactStateBehindUptoSaid : Prop := fnExactStateBehindUptoRow.holds Try.pinned (OpenSpec.upto fnExactStateBehindSpec)

/-- 'laws.FnExactAreSpans', WHERE WHAT IT READS IS OF BULK AT MOST 1048576: true; the input reads as it did. -/
def fnExactAreSpansUptoRow : OpenClaim := { program := "ytnfopbdpnnhicaa", sum := "3f1ffdaf4d5e21541f1cc2928b6bf8653509abe0f7855a58155c52eef8d04e8c", func := "loop.example/g00915/laws.FnExactAreSpans", spec := "fnExactAreSpans", unfollowed := true, recurses := true, apart := false, narrowed := true }
def FnExactAreSpansUptoSaid : Prop := fnExactAreSpansUptoRow.holds Try.pinned (OpenSpec.upto fnExactAreSpansSpec)

/-- 'laws.FnExactCodeDistance', WHERE WHAT IT READS IS OF BULK AT MOST 1048576: true; the input reads as it did. -/
def fnExactCodeDistanceUptoRow : OpenClaim := { program := "ytnfopbdpnnhicaa", sum := "3f1ffdaf4d5e21541f1cc2928b6bf8653509abe0f7855a58155c52eef8d04e8c", func := "loop.example/g00915/laws.FnExactCodeDistance", spec := "fnExactCodeDistance", apart := false, narrowed := true }
def FnExactCodeDistanceUptoSaid : Prop := fnExactCodeDistanceUptoRow.holds Try.pinned (OpenSpec.upto fnExactCodeDistanceSpec)

/-- 'laws.FnExactFrameCheck', WHERE WHAT IT READS IS OF BULK AT MOST 1048576: true; the input reads as it did. -/
def fnExactFrameCheckUptoRow : OpenClaim := { program := "ytnfopbdpnnhicaa", sum := "3f1ffdaf4d5e21541f1cc2928b6bf8653509abe0f7855a58155c52eef8d04e8c", func := "loop.example/g00915/laws.FnExactFrameCheck", spec := "fnExactFrameCheck", apart := false, narrowed := true }
def FnExactFrameCheckUptoSaid : Prop := fnExactFrameCheckUptoRow.holds Try.pinned (OpenSpec.upto fnExactFrameCheckSpec)

/-- 'laws.FnExactIsFrame', WHERE WHAT IT READS IS OF BULK AT MOST 1048576: true; the input reads as it did. -/
def fnExactIsFrameUptoRow : OpenClaim := { program := "ytnfopbdpnnhicaa", sum := "3f1ffdaf4d5e21541f1cc2928b6bf8653509abe0f7855a58155c52eef8d04e8c", func := "loop.example/g00915/laws.FnExactIsFrame", spec := "fnExactIsFrame", apart := false, narrowed := true }
def FnExactIsFrameUptoSaid : Prop := fnExactIsFrameUptoRow.holds Try.pinned (OpenSpec.upto fnExactIsFrameSpec)

/-- 'laws.FnExactPunctureCode', WHERE WHAT IT READS IS OF BULK AT MOST 1048576: true; the input reads as it did. -/
def fnExactPunctureCodeUptoRow : OpenClaim := { program := "ytnfopbdpnnhicaa", sum := "3f1ffdaf4d5e21541f1cc2928b6bf8653509abe0f7855a58155c52eef8d04e8c", func := "loop.example/g00915/laws.FnExactPunctureCode", spec := "fnExactPunctureCode", apart := false, narrowed := true }
def FnExactPunctureCodeUptoSaid : Prop := fnExactPunctureCodeUptoRow.holds Try.pinned (OpenSpec.upto fnExactPunctureCodeSpec)

end Rows
end Go.Proofs.Ytnfopbdpnnhicaa
