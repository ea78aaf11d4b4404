/- Opening an argument that is a slice of bytes. -/
import Derived.Test.YtaimckepaldocaaGreatDoorOpen
import Derived.Test.YtaimckepaldocaaGreatDoorSource
namespace Go.Proofs.YtaimckepaldocaaGreatDoor
open Go.ChangeShapes Go.WideShapes Go.ChangeAt Go.RowKit Go.Deep Go.Joins

def Bytes (w : World) (a : Option Addr) (n : Nat) (bs : List Nat) : Prop := Row w 1 a n (bytes bs) ∧ n ≤ maxLen ∧ ∀ b ∈ bs, b ≤ 255
theorem Bytes.code {w : World} {a : Option Addr} {n : Nat} {bs : List Nat} (h : Bytes w a n bs) (hn : n ≤ 4096) : Code8 w a n bs := ⟨h.1, hn, h.2.2⟩

section
variable {H : Type} {w : World} {base : Nat} {spare : Nat → Bool}
theorem bytes_of {a : Option Addr} {n c : Nat} {x : DataW H × List MemPlace}
    (h : ((Value.slice a n c).cells.toList = [.slice none 0 0] ∧ x = (.nil, [])) ∨
      ∃ (b : Addr) (len cap : Nat) (zs : List Int), (Value.slice a n c).cells.toList = [.slice (some b) len cap] ∧ base ≤ b.block ∧ len ≤ cap ∧ cap ≤ maxLen ∧ zs.length = (if spare b.block then cap else len) ∧
        x = (.slice (lits .u8 (zs.take len)) (lits .u8 (zs.drop len)), MemPlace.row b zs.length) ∧
        (∀ i, i < zs.length → w.cell? (b.add i) = some (.int .u8 (zs.getD i 0))) ∧ (∀ n ∈ zs, (Lit.int .u8 n).wf = true)) : ∃ bs, Bytes w a n bs := by
  rcases h with ⟨hcs, _⟩ | ⟨b, l, cp, zs, hcs, _, hl, hm, hz, _, hcell, hwz⟩
  · simp [Value.cells] at hcs
    obtain ⟨rfl, rfl, rfl⟩ := hcs
    exact ⟨[], Row.nil_, Nat.zero_le _, by simp⟩
  · simp [Value.cells] at hcs
    obtain ⟨rfl, rfl, rfl⟩ := hcs
    have hzn : n ≤ zs.length := by rw [hz]; split <;> omega
    refine ⟨(zs.take n).map Int.toNat, ⟨by simp [bytes]; omega, fun hn => ?_⟩, by omega, fun x hx => ?_⟩
    · obtain ⟨bk, off, spot⟩ := b
      have h0 := hcell 0 (by omega)
      have hs : spot = none := by simpa [Addr.add] using World.cell?_spot h0
      subst hs
      refine ⟨bk, off, rfl, fun j u hu => ?_⟩
      simp only [bytes, List.getElem?_map, List.getElem?_take] at hu
      split at hu
      · have hj : j < zs.length := by omega
        have := hcell j hj
        rw [List.getElem?_eq_getElem hj] at hu
        simp at hu
        subst hu
        have e : (⟨bk, off, none⟩ : Addr).add j = ⟨bk, off + j, none⟩ := by unfold Addr.add; split <;> simp_all
        rw [e] at this
        rw [this]
        have hb := bounds_u8 (hwz zs[j] (List.getElem_mem hj))
        simp [hj]
        omega
      · simp at hu
    · simp only [List.mem_map] at hx
      obtain ⟨z, hz2, rfl⟩ := hx
      have hb := bounds_u8 (hwz z (List.mem_of_mem_take hz2))
      omega
end
end Go.Proofs.YtaimckepaldocaaGreatDoor
