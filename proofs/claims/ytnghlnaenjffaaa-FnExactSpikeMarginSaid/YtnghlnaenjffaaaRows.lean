/-
  No cell of these rows narrows 'for every input' (looked for: loops, veiled, ifaces, maps, wideKeys, modest, calm, conditions, laid).
  DERIVED. THE GIVEN ROWS OF THIS SEAT. 9 by the template 'for every input the law returns true; each argument reads behind the call as it read before'; 0 by the template 'total and deterministic' (their statements: YtnghlnaenjffaaaTotals.lean).
  GIVEN WITH THE SEED: the statements are not yours to turn. If you find one false, say at which input.
  Laid BY PROGRAM, IN A SANDBOX (cutbox-rows.mjs): the forced cells as the released guide's own fill.sh prints them over the translation cd419ece1a77e3fd… (all of the seat's roots in one cut). By AI agents, Wed Nov 11 2026. No macro, syntax, notation, axiom, sorry.
-/
import Derived.Test.YtnghlnaenjffaaaChecked
import GoSem.Claim
import GoSem.ClaimJoined
import GoSem.ClaimMapViews
import Derived.JoinedTies
import Derived.KernelRfl
namespace Go.Proofs.Ytnghlnaenjffaaa
/- THE CELL 'sum', in the pinned program and in every row, IS THE sha256 OF THE DUMP (.gsa) THAT YtnghlnaenjffaaaProg.lean LOADS. Nothing in Lean hashes anything: it is a label: what it is worth is what the hold of that sum in a sandbox is worth. -/
noncomputable def Try.pinned : Pinned := { name := "ytnghlnaenjffaaa", sum := "cd419ece1a77e3fd9dc9deaaf20b6a5d8fad59b145f5dc459c399608e037a910", checked := Try.checked }
namespace Rows
def none {H : Type} : Left H := { results := [], args := [] }

/-- 'laws.FnExactSpikeMargin': WHATEVER THE INPUT: true; the input reads as it did. -/
def fnExactSpikeMarginSpec : ChangeSpec := { name := "fnExactSpikeMargin", fn := fun _ => fun
  | [d1, d2, d3] => { results := [.lit (.bool true)], args := [d1, d2, d3] }
  | _ => none }
def fnExactSpikeMarginRow : OpenClaim := { program := "ytnghlnaenjffaaa", sum := "cd419ece1a77e3fd9dc9deaaf20b6a5d8fad59b145f5dc459c399608e037a910", func := "loop.example/g00915/laws.FnExactSpikeMargin", spec := "fnExactSpikeMargin", unfollowed := true, recurses := true, apart := false }
def FnExactSpikeMarginSaid : Prop := fnExactSpikeMarginRow.holds Try.pinned (OpenSpec.ofChange fnExactSpikeMarginSpec)

/-- ITS FALSE NEIGHBOUR: 'it returns false'. Refute it at one input. -/
def fnExactSpikeMarginWrong : ChangeSpec := { name := "fnExactSpikeMargin", fn := fun _ => fun
  | [d1, d2, d3] => { results := [.lit (.bool false)], args := [d1, d2, d3] }
  | _ => none }
def FnExactSpikeMarginWrongFalsely : Prop := fnExactSpikeMarginRow.holds Try.pinned (OpenSpec.ofChange fnExactSpikeMarginWrong)

/-- 'laws.FnExactNeighboursOf': WHATEVER THE INPUT: true; the input reads as it did. -/
def fnExactNeighboursOfSpec : ChangeSpec := { name := "fnExactNeighboursOf", fn := fun _ => fun
  | [d1, d2, d3] => { results := [.lit (.bool true)], args := [d1, d2, d3] }
  | _ => none }
def fnExactNeighboursOfRow : OpenClaim := { program := "ytnghlnaenjffaaa", sum := "cd419ece1a77e3fd9dc9deaaf20b6a5d8fad59b145f5dc459c399608e037a910", func := "loop.example/g00915/laws.FnExactNeighboursOf", spec := "fnExactNeighboursOf", unfollowed := true, recurses := true, apart := false }
def FnExactNeighboursOfSaid : Prop := fnExactNeighboursOfRow.holds Try.pinned (OpenSpec.ofChange fnExactNeighboursOfSpec)

/-- ITS FALSE NEIGHBOUR: 'it returns false'. Refute it at one input. -/
def fnExactNeighboursOfWrong : ChangeSpec := { name := "fnExactNeighboursOf", fn := fun _ => fun
  | [d1, d2, d3] => { results := [.lit (.bool false)], args := [d1, d2, d3] }
  | _ => none }
def FnExactNeighboursOfWrongFalsely : Prop := fnExactNeighboursOfRow.holds Try.pinned (OpenSpec.ofChange fnExactNeighboursOfWrong)

/-- 'laws.FnExactDeepSpikes': WHATEVER THE INPUT: true; the input reads as it did. -/
def fnExactDeepSpikesSpec : ChangeSpec := { name := "fnExactDeepSpikes", fn := fun _ => fun
  | [d1, d2] => { results := [.lit (.bool true)], args := [d1, d2] }
  | _ => none }
def fnExactDeepSpikesRow : OpenClaim := { program := "ytnghlnaenjffaaa", sum := "cd419ece1a77e3fd9dc9deaaf20b6a5d8fad59b145f5dc459c399608e037a910", func := "loop.example/g00915/laws.FnExactDeepSpikes", spec := "fnExactDeepSpikes", unfollowed := true, recurses := true, apart := false }
def FnExactDeepSpikesSaid : Prop := fnExactDeepSpikesRow.holds Try.pinned (OpenSpec.ofChange fnExactDeepSpikesSpec)

/-- ITS FALSE NEIGHBOUR: 'it returns false'. Refute it at one input. -/
def fnExactDeepSpikesWrong : ChangeSpec := { name := "fnExactDeepSpikes", fn := fun _ => fun
  | [d1, d2] => { results := [.lit (.bool false)], args := [d1, d2] }
  | _ => none }
def FnExactDeepSpikesWrongFalsely : Prop := fnExactDeepSpikesRow.holds Try.pinned (OpenSpec.ofChange fnExactDeepSpikesWrong)

/-- 'laws.FnExactShoalSpikes': WHATEVER THE INPUT: true; the input reads as it did. -/
def fnExactShoalSpikesSpec : ChangeSpec := { name := "fnExactShoalSpikes", fn := fun _ => fun
  | [d1, d2] => { results := [.lit (.bool true)], args := [d1, d2] }
  | _ => none }
def fnExactShoalSpikesRow : OpenClaim := { program := "ytnghlnaenjffaaa", sum := "cd419ece1a77e3fd9dc9deaaf20b6a5d8fad59b145f5dc459c399608e037a910", func := "loop.example/g00915/laws.FnExactShoalSpikes", spec := "fnExactShoalSpikes", unfollowed := true, recurses := true, apart := false }
def FnExactShoalSpikesSaid : Prop := fnExactShoalSpikesRow.holds Try.pinned (OpenSpec.ofChange fnExactShoalSpikesSpec)

/-- ITS FALSE NEIGHBOUR: 'it returns false'. Refute it at one input. -/
def fnExactShoalSpikesWrong : ChangeSpec := { name := "fnExactShoalSpikes", fn := fun _ => fun
  | [d1, d2] => { results := [.lit (.bool false)], args := [d1, d2] }
  | _ => none }
def FnExactShoalSpikesWrongFalsely : Prop := fnExactShoalSpikesRow.holds Try.pinned (OpenSpec.ofChange fnExactShoalSpikesWrong)

/-- 'laws.FnExactCleanOnce': WHATEVER THE INPUT: true; the input reads as it did. -/
def fnExactCleanOnceSpec : ChangeSpec := { name := "fnExactCleanOnce", fn := fun _ => fun
  | [d1, d2] => { results := [.lit (.bool true)], args := [d1, d2] }
  | _ => none }
def fnExactCleanOnceRow : OpenClaim := { program := "ytnghlnaenjffaaa", sum := "cd419ece1a77e3fd9dc9deaaf20b6a5d8fad59b145f5dc459c399608e037a910", func := "loop.example/g00915/laws.FnExactCleanOnce", spec := "fnExactCleanOnce", unfollowed := true, recurses := true, apart := false }
def FnExactCleanOnceSaid : Prop := fnExactCleanOnceRow.holds Try.pinned (OpenSpec.ofChange fnExactCleanOnceSpec)

/-- ITS FALSE NEIGHBOUR: 'it returns false'. Refute it at one input. -/
def fnExactCleanOnceWrong : ChangeSpec := { name := "fnExactCleanOnce", fn := fun _ => fun
  | [d1, d2] => { results := [.lit (.bool false)], args := [d1, d2] }
  | _ => none }
def FnExactCleanOnceWrongFalsely : Prop := fnExactCleanOnceRow.holds Try.pinned (OpenSpec.ofChange fnExactCleanOnceWrong)

/-- 'laws.FnExactKeptSoundings': WHATEVER THE INPUT: true; the input reads as it did. -/
def fnExactKeptSoundingsSpec : ChangeSpec := { name := "fnExactKeptSoundings", fn := fun _ => fun
  | [d1, d2] => { results := [.lit (.bool true)], args := [d1, d2] }
  | _ => none }
def fnExactKeptSoundingsRow : OpenClaim := { program := "ytnghlnaenjffaaa", sum := "cd419ece1a77e3fd9dc9deaaf20b6a5d8fad59b145f5dc459c399608e037a910", func := "loop.example/g00915/laws.FnExactKeptSoundings", spec := "fnExactKeptSoundings", unfollowed := true, recurses := true, apart := false }
def FnExactKeptSoundingsSaid : Prop := fnExactKeptSoundingsRow.holds Try.pinned (OpenSpec.ofChange fnExactKeptSoundingsSpec)

/-- ITS FALSE NEIGHBOUR: 'it returns false'. Refute it at one input. -/
def fnExactKeptSoundingsWrong : ChangeSpec := { name := "fnExactKeptSoundings", fn := fun _ => fun
  | [d1, d2] => { results := [.lit (.bool false)], args := [d1, d2] }
  | _ => none }
def FnExactKeptSoundingsWrongFalsely : Prop := fnExactKeptSoundingsRow.holds Try.pinned (OpenSpec.ofChange fnExactKeptSoundingsWrong)

/-- 'laws.FnExactCleanSoundings': WHATEVER THE INPUT: true; the input reads as it did. -/
def fnExactCleanSoundingsSpec : ChangeSpec := { name := "fnExactCleanSoundings", fn := fun _ => fun
  | [d1, d2] => { results := [.lit (.bool true)], args := [d1, d2] }
  | _ => none }
def fnExactCleanSoundingsRow : OpenClaim := { program := "ytnghlnaenjffaaa", sum := "cd419ece1a77e3fd9dc9deaaf20b6a5d8fad59b145f5dc459c399608e037a910", func := "loop.example/g00915/laws.FnExactCleanSoundings", spec := "fnExactCleanSoundings", unfollowed := true, recurses := true, apart := false }
def FnExactCleanSoundingsSaid : Prop := fnExactCleanSoundingsRow.holds Try.pinned (OpenSpec.ofChange fnExactCleanSoundingsSpec)

/-- ITS FALSE NEIGHBOUR: 'it returns false'. Refute it at one input. -/
def fnExactCleanSoundingsWrong : ChangeSpec := { name := "fnExactCleanSoundings", fn := fun _ => fun
  | [d1, d2] => { results := [.lit (.bool false)], args := [d1, d2] }
  | _ => none }
def FnExactCleanSoundingsWrongFalsely : Prop := fnExactCleanSoundingsRow.holds Try.pinned (OpenSpec.ofChange fnExactCleanSoundingsWrong)

/-- 'laws.FnSpikes': WHATEVER THE INPUT: true; the input reads as it did. -/
def fnSpikesSpec : ChangeSpec := { name := "fnSpikes", fn := fun _ => fun
  | [d] => { results := [.lit (.bool true)], args := [d] }
  | _ => none }
def fnSpikesRow : OpenClaim := { program := "ytnghlnaenjffaaa", sum := "cd419ece1a77e3fd9dc9deaaf20b6a5d8fad59b145f5dc459c399608e037a910", func := "loop.example/g00915/laws.FnSpikes", spec := "fnSpikes", unfollowed := true, recurses := true, apart := false }
def FnSpikesSaid : Prop := fnSpikesRow.holds Try.pinned (OpenSpec.ofChange fnSpikesSpec)

/-- ITS FALSE NEIGHBOUR: 'it returns false'. Refute it at one input. -/
def fnSpikesWrong : ChangeSpec := { name := "fnSpikes", fn := fun _ => fun
  | [d] => { results := [.lit (.bool false)], args := [d] }
  | _ => none }
def FnSpikesWrongFalsely : Prop := fnSpikesRow.holds Try.pinned (OpenSpec.ofChange fnSpikesWrong)

/-- 'laws.FnCleaned': WHATEVER THE INPUT: true; the input reads as it did. -/
def fnCleanedSpec : ChangeSpec := { name := "fnCleaned", fn := fun _ => fun
  | [d] => { results := [.lit (.bool true)], args := [d] }
  | _ => none }
def fnCleanedRow : OpenClaim := { program := "ytnghlnaenjffaaa", sum := "cd419ece1a77e3fd9dc9deaaf20b6a5d8fad59b145f5dc459c399608e037a910", func := "loop.example/g00915/laws.FnCleaned", spec := "fnCleaned", unfollowed := true, recurses := true, apart := false }
def FnCleanedSaid : Prop := fnCleanedRow.holds Try.pinned (OpenSpec.ofChange fnCleanedSpec)

/-- ITS FALSE NEIGHBOUR: 'it returns false'. Refute it at one input. -/
def fnCleanedWrong : ChangeSpec := { name := "fnCleaned", fn := fun _ => fun
  | [d] => { results := [.lit (.bool false)], args := [d] }
  | _ => none }
def FnCleanedWrongFalsely : Prop := fnCleanedRow.holds Try.pinned (OpenSpec.ofChange fnCleanedWrong)

/- THE SECOND FORM. 'bulk': how many values and letters a reading holds, each counted each time it is reached (what is shared counts as often as it is met; a slice's spare places count too). A statement '..UptoSaid' is the law's where the arguments, and the package variables that the reading takes, are together of bulk at most 1048576: NARROWER than '..Said'. Prove '..Said' where nothing that the law and all that it calls make is longer than what came in: it says more and counts as full. Else prove '..UptoSaid'. A law counts once. -/
mutual
def uptoBulk {H : Type} : DataW H → Nat
  | .lit (.string bytes) => bytes.length + 1
  | .lit _ => 1
  | .nil => 1
  | .ptr d => uptoBulk d + 1
  | .slice elems spare => uptoBulkAll elems + uptoBulkAll spare + 1
  | .agg parts => uptoBulkAll parts + 1
  | .iface _ d => uptoBulk d + 1
  | .map entries => uptoBulkEntries entries + 1
  | .held _ => 1
def uptoBulkAll {H : Type} : List (DataW H) → Nat
  | [] => 0
  | d :: r => uptoBulk d + uptoBulkAll r
def uptoBulkEntries {H : Type} : List (Lit × DataW H) → Nat
  | [] => 0
  | x :: r => uptoBulkEntry x + uptoBulkEntries r
def uptoBulkEntry {H : Type} : Lit × DataW H → Nat
  | (.string bytes, d) => bytes.length + uptoBulk d + 1
  | (_, d) => uptoBulk d + 1
 end
def uptoSmall : (H : Type) → List (DataW H) → Bool := fun _ ds => decide (uptoBulkAll ds ≤ 1048576)
def OpenSpec.upto (s : _root_.Go.ChangeSpec) : _root_.Go.OpenSpec := { _root_.Go.OpenSpec.ofChange s with cond := some uptoSmall }

/-- 'laws.FnExactSpikeMargin', WHERE WHAT IT READS IS OF BULK AT MOST 1048576: true; the input reads as it did. -/
def fnExactSpikeMarginUptoRow : OpenClaim := { program := "ytnghlnaenjffaaa", sum := "cd419ece1a77e3fd9dc9deaaf20b6a5d8fad59b145f5dc459c399608e037a910", func := "loop.example/g00915/laws.FnExactSpikeMargin", spec := "fnExactSpikeMargin", unfollowed := true, recurses := true, apart := false, narrowed := true }
def FnExactSpikeMarginUptoSaid : Prop := fnExactSpikeMarginUptoRow.holds Try.pinned (OpenSpec.upto fnExactSpikeMarginSpec)

/-- 'laws.FnExactNeighboursOf', WHERE WHAT IT READS IS OF BULK AT MOST 1048576: true; the input reads as it did. -/
def fnExactNeighboursOfUptoRow : OpenClaim := { program := "ytnghlnaenjffaaa", sum := "cd419ece1a77e3fd9dc9deaaf20b6a5d8fad59b145f5dc459c399608e037a910", func := "loop.example/g00915/laws.FnExactNeighboursOf", spec := "fnExactNeighboursOf", unfollowed := true, recurses := true, apart := false, narrowed := true }
def FnExactNeighboursOfUptoSaid : Prop := fnExactNeighboursOfUptoRow.holds Try.pinned (OpenSpec.upto fnExactNeighboursOfSpec)

/-- 'laws.FnExactDeepSpikes', WHERE WHAT IT READS IS OF BULK AT MOST 1048576: true; the input reads as it did. -/
def fnExactDeepSpikesUptoRow : OpenClaim := { program := "ytnghlnaenjffaaa", sum := "cd419ece1a77e3fd9dc9deaaf20b6a5d8fad59b145f5dc459c399608e037a910", func := "loop.example/g00915/laws.FnExactDeepSpikes", spec := "fnExactDeepSpikes", unfollowed := true, recurses := true, apart := false, narrowed := true }
def FnExactDeepSpikesUptoSaid : Prop := fnExactDeepSpikesUptoRow.holds Try.pinned (OpenSpec.upto fnExactDeepSpikesSpec)

/-- 'laws.FnExactShoalSpikes', WHERE WHAT IT READS IS OF BULK AT MOST 1048576: true; the input reads as it did. -/
def fnExactShoalSpikesUptoRow : OpenClaim := { program := "ytnghlnaenjffaaa", sum := "cd419ece1a77e3fd9dc9deaaf20b6a5d8fad59b145f5dc459c399608e037a910", func := "loop.example/g00915/laws.FnExactShoalSpikes", spec := "fnExactShoalSpikes", unfollowed := true, recurses := true, apart := false, narrowed := true }
def FnExactShoalSpikesUptoSaid : Prop := fnExactShoalSpikesUptoRow.holds Try.pinned (OpenSpec.upto fnExactShoalSpikesSpec)

/-- 'laws.FnExactCleanOnce', WHERE WHAT IT READS IS OF BULK AT MOST 1048576: true; the input reads as it did. -/
def fnExactCleanOnceUptoRow : OpenClaim := { program := "ytnghlnaenjffaaa", sum := "cd419ece1a77e3fd9dc9deaaf20b6a5d8fad59b145f5dc459c399608e037a910", func := "loop.example/g00915/laws.FnExactCleanOnce", spec := "fnExactCleanOnce", unfollowed := true, recurses := true, apart := false, narrowed := true }
def FnExactCleanOnceUptoSaid : Prop := fnExactCleanOnceUptoRow.holds Try.pinned (OpenSpec.upto fnExactCleanOnceSpec)

/-- 'laws.FnExactKeptSoundings', WHERE WHAT IT READS IS OF BULK AT MOST 1048576: true; the input reads as it did. -/
def fnExactKeptSoundingsUptoRow : OpenClaim := { program := "ytnghlnaenjffaaa", sum := "cd419ece1a77e3fd9dc9deaaf20b6a5d8fad59b145f5dc459c399608e037a910", func := "loop.example/g00915/laws.FnExactKeptSoundings", spec := "fnExactKeptSoundings", unfollowed := true, recurses := true, apart := false, narrowed := true }
def FnExactKeptSoundingsUptoSaid : Prop := fnExactKeptSoundingsUptoRow.holds Try.pinned (OpenSpec.upto fnExactKeptSoundingsSpec)

/-- 'laws.FnExactCleanSoundings', WHERE WHAT IT READS IS OF BULK AT MOST 1048576: true; the input reads as it did. -/
def fnExactCleanSoundingsUptoRow : OpenClaim := { program := "ytnghlnaenjffaaa", sum := "cd419ece1a77e3fd9dc9deaaf20b6a5d8fad59b145f5dc459c399608e037a910", func := "loop.example/g00915/laws.FnExactCleanSoundings", spec := "fnExactCleanSoundings", unfollowed := true, recurses := true, apart := false, narrowed := true }
def FnExactCleanSoundingsUptoSaid : Prop := fnExactCleanSoundingsUptoRow.holds Try.pinned (OpenSpec.upto fnExactCleanSoundingsSpec)

/-- 'laws.FnSpikes', WHERE WHAT IT READS IS OF BULK AT MOST 1048576: true; the input reads as it did. -/
def fnSpikesUptoRow : OpenClaim := { program := "ytnghlnaenjffaaa", sum := "cd419ece1a77e3fd9dc9deaaf20b6a5d8fad59b145f5dc459c399608e037a910", func := "loop.example/g00915/laws.FnSpikes", spec := "fnSpikes", unfollowed := true, recurses := true, apart := false, narrowed := true }
def FnSpikesUptoSaid : Prop := fnSpikesUptoRow.holds Try.pinned (OpenSpec.upto fnSpikesSpec)

/-- 'laws.FnCleaned', WHERE WHAT IT READS IS OF BULK AT MOST 1048576: true; the input reads as it did. -/
def fnCleanedUptoRow : OpenClaim := { program := "ytnghlnaenjffaaa", sum := "cd419ece1a77e3fd9dc9deaaf20b6a5d8fad59b145f5dc459c399608e037a910", func := "loop.example/g00915/laws.FnCleaned", spec := "fnCleaned", unfollowed := true, recurses := true, apart := false, narrowed := true }
def FnCleanedUptoSaid : Prop := fnCleanedUptoRow.holds Try.pinned (OpenSpec.upto fnCleanedSpec)

end Rows
end Go.Proofs.Ytnghlnaenjffaaa
