/- Proved: FnThinned's card: the row tied to the program's text. -/
import Derived.Test.YtaimckepaldocaaGreatDoorRows
import Derived.Test.YtaimckepaldocaaGreatDoorCards
import Derived.Test.YtaimckepaldocaaGreatDoorTie
import Derived.Test.YtaimckepaldocaaGreatDoorFnThinned
import Derived.SevenTiedAt
namespace Go.Proofs.YtaimckepaldocaaGreatDoor.fnThinned
open Go

theorem proved : Rows.FnThinnedCardSaid :=
  Claim7.holds_tied_plain_at .later [] [.data, .data, .data, .data, .sentinel, .sentinel, .pinned] true (true, "59f9bba043ec033877d912e466cff4025e48dd68843055020991482e304b26e6") true
    over (fun _ h => by cases h) (by kernel_rfl) (fun _ h => by cases h) fnThinned_row_tie rfl ⟨rfl, rfl⟩ (by kernel_rfl) rfl
    (fun f fn hf hfn => by
      obtain rfl : f = 3 := Option.some.inj ((show Tryz.prog.funcNamed "loop.example/g00915/laws.FnThinned" = some 3 by kernel_rfl).symm.trans hf) |>.symm
      obtain rfl : fn = Tryz.f3 := (Option.some.inj (Tryz.func3.symm.trans hfn)).symm
      exact ⟨by kernel_rfl, fun j t ht => by
        rw [Tryz.params3] at ht
        have hm : t ∈ [22] := by simpa using Array.mem_of_getElem? ht
        have hall : ([22].all fun u => !Tryz.prog.wantsStandIn u) = true := by kernel_rfl
        exact (show Tryz.prog.wantsStandIn t = false by simpa using List.all_eq_true.1 hall t hm)⟩)
    (by kernel_rfl)
end Go.Proofs.YtaimckepaldocaaGreatDoor.fnThinned
