/- Opening the arguments of a law to plain facts: integers, slices of integers, slices of structs of integers. No program in sight. -/
import Derived.Test.YtnfopbdpnnhicaaMem
import Derived.ProofKit
import Derived.OpenShut
import Derived.Deep.Slices
import Derived.Deep.Fields
import Derived.ChangeSame
import Derived.Lib.SmallJoins
namespace Go.Proofs.Ytnfopbdpnnhicaa
open Go.ChangeShapes Go.WideShapes Go.ChangeAt Go.RowKit Go.Deep Go.Joins

theorem i64_of {x : Int} (h : (Lit.int .i64 x).wf = true) : I64 x := by
  have := bounds_i64 h
  unfold I64; omega

section
variable {H : Type} {enc : TypeId × Value → H} {P : Program} {w : World} {base : Nat} {spare : Nat → Bool} {held : Bool}

theorem arr_of {a : Option Addr} {n c : Nat} {x : DataW H × List MemPlace}
    (h : ((Value.slice a n c).cells.toList = [.slice none 0 0] ∧ x = (.nil, [])) ∨
      ∃ (b : Addr) (len cap : Nat) (zs : List Int), (Value.slice a n c).cells.toList = [.slice (some b) len cap] ∧ base ≤ b.block ∧ len ≤ cap ∧ cap ≤ maxLen ∧ zs.length = (if spare b.block then cap else len) ∧
        x = (.slice (lits .i64 (zs.take len)) (lits .i64 (zs.drop len)), MemPlace.row b zs.length) ∧
        (∀ i, i < zs.length → w.cell? (b.add i) = some (.int .i64 (zs.getD i 0))) ∧ (∀ n ∈ zs, (Lit.int .i64 n).wf = true)) : ∃ xs, Arr w a n xs := by
  rcases h with ⟨hcs, _⟩ | ⟨b, l, cp, zs, hcs, _, hl, hm, hz, _, hcell, hwz⟩
  · simp [Value.cells] at hcs
    obtain ⟨rfl, rfl, rfl⟩ := hcs
    exact ⟨[], Row.nil_, Nat.zero_le _, by simp⟩
  · simp [Value.cells] at hcs
    obtain ⟨rfl, rfl, rfl⟩ := hcs
    have hzn : n ≤ zs.length := by rw [hz]; split <;> omega
    refine ⟨zs.take n, ⟨by simp [ints]; omega, fun hn => ?_⟩, by omega, fun x hx => i64_of (hwz x (List.mem_of_mem_take hx))⟩
    obtain ⟨bk, off, spot⟩ := b
    have h0 := hcell 0 (by omega)
    have hs : spot = none := by simpa [Addr.add] using World.cell?_spot h0
    subst hs
    refine ⟨bk, off, rfl, fun j u hu => ?_⟩
    simp only [ints, List.getElem?_map, List.getElem?_take] at hu
    split at hu
    · have hj : j < zs.length := by omega
      have := hcell j hj
      rw [List.getElem?_eq_getElem hj] at hu
      simp at hu
      subst hu
      have e : (⟨bk, off, none⟩ : Addr).add j = ⟨bk, off + j, none⟩ := by unfold Addr.add; split <;> simp_all
      rw [e] at this
      rw [this]
      simp [hj]
    · simp at hu
end
end Go.Proofs.Ytnfopbdpnnhicaa
