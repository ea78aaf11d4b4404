/-
  DERIVED. GIVEN WITH THE SEED: THE CARDS: each row of YtaimckepaldocaaGreatDoorRows.lean that lists a variable, with what it lists TIED to the program's text (the seventh form; the later family's looks); each row that meets fmt, with fmt's text TOLD by the authors' own Lean function (tested against real Go, not proved from fmt's source: count such statements apart). THE CARD IS WHAT COUNTS. Prove the row's statement (the work); the ties are given (YtaimckepaldocaaGreatDoorTie.lean); close each card by the builder's one call (the guide's Derived/Test/ToyasCard.lean, 'card_holds'). Laid BY PROGRAM, IN A SANDBOX (cutbox-door.mjs). By AI agents, Wed Nov 11 2026. No macro, syntax, notation, axiom, sorry.
-/
import Derived.Test.YtaimckepaldocaaGreatDoorRows
import GoSem.ClaimSeven
namespace Go.Proofs.YtaimckepaldocaaGreatDoor
namespace Rows

/-- THE TIED CARD OF 'laws.FnThinned'. -/
def fnThinnedCard : Claim7 := { stood := { row := fnThinnedRow, standIns := [], harness := (true, "59f9bba043ec033877d912e466cff4025e48dd68843055020991482e304b26e6"), looks := true }, kinds := [], alts := [], laidByText := true, laidKinds := [.data, .data, .data, .data, .sentinel, .sentinel, .pinned], laidTests := true, laidLooks := .later }
def FnThinnedCardSaid : Prop := Claim7.holds Tryz.pinned (.plain (OpenSpec.ofChange fnThinnedSpec)) fnThinnedCard

/-- THE SECOND FORM's CARD OF 'laws.FnThinned'. -/
def fnThinnedUptoCard : Claim7 := { stood := { row := fnThinnedUptoRow, standIns := [], harness := (true, "59f9bba043ec033877d912e466cff4025e48dd68843055020991482e304b26e6"), looks := true }, kinds := [], alts := [], laidByText := true, laidKinds := [.data, .data, .data, .data, .sentinel, .sentinel, .pinned], laidTests := true, laidLooks := .later }
def FnThinnedUptoCardSaid : Prop := Claim7.holds Tryz.pinned (.plain (OpenSpec.upto fnThinnedSpec)) fnThinnedUptoCard
end Rows
end Go.Proofs.YtaimckepaldocaaGreatDoor
