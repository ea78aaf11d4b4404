/-
  No cell of these rows narrows 'for every input' (looked for: loops, veiled, ifaces, maps, wideKeys, modest, calm, conditions, laid).
  DERIVED. THE GIVEN ROWS OF THIS SEAT. 5 by the template 'for every input the law returns true; each argument reads behind the call as it read before'; 0 by the template 'total and deterministic' (their statements: YtmljcbfpennjkaaTotals.lean).
  GIVEN WITH THE SEED: the statements are not yours to turn. If you find one false, say at which input.
  Laid BY PROGRAM, IN A SANDBOX (cutbox-rows.mjs): the forced cells as the released guide's own fill.sh prints them over the translation 41ca01da9d6c8b63… (all of the seat's roots in one cut). By AI agents, Wed Nov 11 2026. No macro, syntax, notation, axiom, sorry.
-/
import Derived.Test.YtmljcbfpennjkaaChecked
import GoSem.Claim
import GoSem.ClaimJoined
import GoSem.ClaimMapViews
import Derived.JoinedTies
import Derived.KernelRfl
namespace Go.Proofs.Ytmljcbfpennjkaa
/- THE CELL 'sum', in the pinned program and in every row, IS THE sha256 OF THE DUMP (.gsa) THAT YtmljcbfpennjkaaProg.lean LOADS. Nothing in Lean hashes anything: it is a label: what it is worth is what the hold of that sum in a sandbox is worth. -/
noncomputable def Try.pinned : Pinned := { name := "ytmljcbfpennjkaa", sum := "41ca01da9d6c8b63de3bd9526f73b0f4c5add6aaf44a8e2ac617a9103e2d96e6", checked := Try.checked }
namespace Rows
def none {H : Type} : Left H := { results := [], args := [] }

/-- 'laws.FnExactFrameBits': WHATEVER THE INPUT: true; the input reads as it did. -/
def fnExactFrameBitsSpec : ChangeSpec := { name := "fnExactFrameBits", fn := fun _ => fun
  | [d] => { results := [.lit (.bool true)], args := [d] }
  | _ => none }
def fnExactFrameBitsRow : OpenClaim := { program := "ytmljcbfpennjkaa", sum := "41ca01da9d6c8b63de3bd9526f73b0f4c5add6aaf44a8e2ac617a9103e2d96e6", func := "loop.example/g00915/laws.FnExactFrameBits", spec := "fnExactFrameBits", apart := false }
def FnExactFrameBitsSaid : Prop := fnExactFrameBitsRow.holds Try.pinned (OpenSpec.ofChange fnExactFrameBitsSpec)

/-- ITS FALSE NEIGHBOUR: 'it returns false'. Refute it at one input. -/
def fnExactFrameBitsWrong : ChangeSpec := { name := "fnExactFrameBits", fn := fun _ => fun
  | [d] => { results := [.lit (.bool false)], args := [d] }
  | _ => none }
def FnExactFrameBitsWrongFalsely : Prop := fnExactFrameBitsRow.holds Try.pinned (OpenSpec.ofChange fnExactFrameBitsWrong)

/-- 'laws.FnExactReadFrame': WHATEVER THE INPUT: true; the input reads as it did. -/
def fnExactReadFrameSpec : ChangeSpec := { name := "fnExactReadFrame", fn := fun _ => fun
  | [d] => { results := [.lit (.bool true)], args := [d] }
  | _ => none }
def fnExactReadFrameRow : OpenClaim := { program := "ytmljcbfpennjkaa", sum := "41ca01da9d6c8b63de3bd9526f73b0f4c5add6aaf44a8e2ac617a9103e2d96e6", func := "loop.example/g00915/laws.FnExactReadFrame", spec := "fnExactReadFrame", unfollowed := true, recurses := true, apart := false }
def FnExactReadFrameSaid : Prop := fnExactReadFrameRow.holds Try.pinned (OpenSpec.ofChange fnExactReadFrameSpec)

/-- ITS FALSE NEIGHBOUR: 'it returns false'. Refute it at one input. -/
def fnExactReadFrameWrong : ChangeSpec := { name := "fnExactReadFrame", fn := fun _ => fun
  | [d] => { results := [.lit (.bool false)], args := [d] }
  | _ => none }
def FnExactReadFrameWrongFalsely : Prop := fnExactReadFrameRow.holds Try.pinned (OpenSpec.ofChange fnExactReadFrameWrong)

/-- 'laws.FnExactFramesIn': WHATEVER THE INPUT: true; the input reads as it did. -/
def fnExactFramesInSpec : ChangeSpec := { name := "fnExactFramesIn", fn := fun _ => fun
  | [d] => { results := [.lit (.bool true)], args := [d] }
  | _ => none }
def fnExactFramesInRow : OpenClaim := { program := "ytmljcbfpennjkaa", sum := "41ca01da9d6c8b63de3bd9526f73b0f4c5add6aaf44a8e2ac617a9103e2d96e6", func := "loop.example/g00915/laws.FnExactFramesIn", spec := "fnExactFramesIn", unfollowed := true, recurses := true, apart := false }
def FnExactFramesInSaid : Prop := fnExactFramesInRow.holds Try.pinned (OpenSpec.ofChange fnExactFramesInSpec)

/-- ITS FALSE NEIGHBOUR: 'it returns false'. Refute it at one input. -/
def fnExactFramesInWrong : ChangeSpec := { name := "fnExactFramesIn", fn := fun _ => fun
  | [d] => { results := [.lit (.bool false)], args := [d] }
  | _ => none }
def FnExactFramesInWrongFalsely : Prop := fnExactFramesInRow.holds Try.pinned (OpenSpec.ofChange fnExactFramesInWrong)

/-- 'laws.FnFrames': WHATEVER THE INPUT: true; the input reads as it did. -/
def fnFramesSpec : ChangeSpec := { name := "fnFrames", fn := fun _ => fun
  | [d] => { results := [.lit (.bool true)], args := [d] }
  | _ => none }
def fnFramesRow : OpenClaim := { program := "ytmljcbfpennjkaa", sum := "41ca01da9d6c8b63de3bd9526f73b0f4c5add6aaf44a8e2ac617a9103e2d96e6", func := "loop.example/g00915/laws.FnFrames", spec := "fnFrames", unfollowed := true, recurses := true, apart := false }
def FnFramesSaid : Prop := fnFramesRow.holds Try.pinned (OpenSpec.ofChange fnFramesSpec)

/-- ITS FALSE NEIGHBOUR: 'it returns false'. Refute it at one input. -/
def fnFramesWrong : ChangeSpec := { name := "fnFrames", fn := fun _ => fun
  | [d] => { results := [.lit (.bool false)], args := [d] }
  | _ => none }
def FnFramesWrongFalsely : Prop := fnFramesRow.holds Try.pinned (OpenSpec.ofChange fnFramesWrong)

/-- 'laws.FnStreams': WHATEVER THE INPUT: true; the input reads as it did. -/
def fnStreamsSpec : ChangeSpec := { name := "fnStreams", fn := fun _ => fun
  | [d] => { results := [.lit (.bool true)], args := [d] }
  | _ => none }
def fnStreamsRow : OpenClaim := { program := "ytmljcbfpennjkaa", sum := "41ca01da9d6c8b63de3bd9526f73b0f4c5add6aaf44a8e2ac617a9103e2d96e6", func := "loop.example/g00915/laws.FnStreams", spec := "fnStreams", unfollowed := true, recurses := true, apart := false }
def FnStreamsSaid : Prop := fnStreamsRow.holds Try.pinned (OpenSpec.ofChange fnStreamsSpec)

/-- ITS FALSE NEIGHBOUR: 'it returns false'. Refute it at one input. -/
def fnStreamsWrong : ChangeSpec := { name := "fnStreams", fn := fun _ => fun
  | [d] => { results := [.lit (.bool false)], args := [d] }
  | _ => none }
def FnStreamsWrongFalsely : Prop := fnStreamsRow.holds Try.pinned (OpenSpec.ofChange fnStreamsWrong)

/- THE SECOND FORM. 'bulk': how many values and letters a reading holds, each counted each time it is reached (what is shared counts as often as it is met; a slice's spare places count too). A statement '..UptoSaid' is the law's where the arguments, and the package variables that the reading takes, are together of bulk at most 1048576: NARROWER than '..Said'. Prove '..Said' where nothing that the law and all that it calls make is longer than what came in: it says more and counts as full. Else prove '..UptoSaid'. A law counts once. -/
mutual
def uptoBulk {H : Type} : DataW H → Nat
  | .lit (.string bytes) => bytes.length + 1
  | .lit _ => 1
  | .nil => 1
  | .ptr d => uptoBulk d + 1
  | .slice elems spare => uptoBulkAll elems + uptoBulkAll spare + 1
  | .agg parts => uptoBulkAll parts + 1
  | .iface _ d => uptoBulk d + 1
  | .map entries => uptoBulkEntries entries + 1
  | .held _ => 1
def uptoBulkAll {H : Type} : List (DataW H) → Nat
  | [] => 0
  | d :: r => uptoBulk d + uptoBulkAll r
def uptoBulkEntries {H : Type} : List (Lit × DataW H) → Nat
  | [] => 0
  | x :: r => uptoBulkEntry x + uptoBulkEntries r
def uptoBulkEntry {H : Type} : Lit × DataW H → Nat
  | (.string bytes, d) => bytes.length + uptoBulk d + 1
  | (_, d) => uptoBulk d + 1
 end
def uptoSmall : (H : Type) → List (DataW H) → Bool := fun _ ds => decide (uptoBulkAll ds ≤ 1048576)
def OpenSpec.upto (s : _root_.Go.ChangeSpec) : _root_.Go.OpenSpec := { _root_.Go.OpenSpec.ofChange s with cond := some uptoSmall }

/-- 'laws.FnExactFrameBits', WHERE WHAT IT READS IS OF BULK AT MOST 1048576: true; the input reads as it did. -/
def fnExactFrameBitsUptoRow : OpenClaim := { program := "ytmljcbfpennjkaa", sum := "41ca01da9d6c8b63de3bd9526f73b0f4c5add6aaf44a8e2ac617a9103e2d96e6", func := "loop.example/g00915/laws.FnExactFrameBits", spec := "fnExactFrameBits", apart := false, narrowed := true }
def FnExactFrameBitsUptoSaid : Prop := fnExactFrameBitsUptoRow.holds Try.pinned (OpenSpec.upto fnExactFrameBitsSpec)

/-- 'laws.FnExactReadFrame', WHERE WHAT IT READS IS OF BULK AT MOST 1048576: true; the input reads as it did. -/
def fnExactReadFrameUptoRow : OpenClaim := { program := "ytmljcbfpennjkaa", sum := "41ca01da9d6c8b63de3bd9526f73b0f4c5add6aaf44a8e2ac617a9103e2d96e6", func := "loop.example/g00915/laws.FnExactReadFrame", spec := "fnExactReadFrame", unfollowed := true, recurses := true, apart := false, narrowed := true }
def FnExactReadFrameUptoSaid : Prop := fnExactReadFrameUptoRow.holds Try.pinned (OpenSpec.upto fnExactReadFrameSpec)

/-- 'laws.FnExactFramesIn', WHERE WHAT IT READS IS OF BULK AT MOST 1048576: true; the input reads as it did. -/
def fnExactFramesInUptoRow : OpenClaim := { program := "ytmljcbfpennjkaa", sum := "41ca01da9d6c8b63de3bd9526f73b0f4c5add6aaf44a8e2ac617a9103e2d96e6", func := "loop.example/g00915/laws.FnExactFramesIn", spec := "fnExactFramesIn", unfollowed := true, recurses := true, apart := false, narrowed := true }
def FnExactFramesInUptoSaid : Prop := fnExactFramesInUptoRow.holds Try.pinned (OpenSpec.upto fnExactFramesInSpec)

/-- 'laws.FnFrames', WHERE WHAT IT READS IS OF BULK AT MOST 1048576: true; the input reads as it did. -/
def fnFramesUptoRow : OpenClaim := { program := "ytmljcbfpennjkaa", sum := "41ca01da9d6c8b63de3bd9526f73b0f4c5add6aaf44a8e2ac617a9103e2d96e6", func := "loop.example/g00915/laws.FnFrames", spec := "fnFrames", unfollowed := true, recurses := true, apart := false, narrowed := true }
def FnFramesUptoSaid : Prop := fnFramesUptoRow.holds Try.pinned (OpenSpec.upto fnFramesSpec)

/-- 'laws.FnStreams', WHERE WHAT IT READS IS OF BULK AT MOST 1048576: true; the input reads as it did. -/
def fnStreamsUptoRow : OpenClaim := { program := "ytmljcbfpennjkaa", sum := "41ca01da9d6c8b63de3bd9526f73b0f4c5add6aaf44a8e2ac617a9103e2d96e6", func := "loop.example/g00915/laws.FnStreams", spec := "fnStreams", unfollowed := true, recurses := true, apart := false, narrowed := true }
def FnStreamsUptoSaid : Prop := fnStreamsUptoRow.holds Try.pinned (OpenSpec.upto fnStreamsSpec)

end Rows
end Go.Proofs.Ytmljcbfpennjkaa
