/- FnThinned's plain law: in the square of each sounding one is kept, none deeper. -/
import Derived.Test.YtaimckepaldocaaGreatDoorThinJ
import Derived.Test.YtaimckepaldocaaGreatDoorThinT
import Derived.Test.YtaimckepaldocaaGreatDoorDrawTxt
import Derived.Test.YtaimckepaldocaaGreatDoorLikeSnd
namespace Go.Proofs.YtaimckepaldocaaGreatDoor
open Go.RowKit Go.Maps
set_option maxRecDepth 100000
set_option linter.unusedVariables false
set_option linter.unusedSimpArgs false
set_option linter.unusedVariables false

theorem thin_ex (ss : List I4) (z : Int) (hI : ∀ j, j < ss.length → I64 (sq z (at4 ss j)).1 ∧ I64 (sq z (at4 ss j)).2) : ∀ k, k ≤ ss.length → ∃ D, MOk ss z k D
  | 0, _ => ⟨_, MOk.start ss z⟩
  | k + 1, hk => by
    obtain ⟨D, h⟩ := thin_ex ss z hI k (by omega)
    have hI2 : ∀ j, j ≤ k → I64 (sq z (at4 ss j)).1 ∧ I64 (sq z (at4 ss j)).2 := fun j hj => hI j (by omega)
    cases hh : Maps.has D (kyOf ss z k) with
    | false => exact ⟨_, h.miss hI2 hh⟩
    | true =>
      obtain ⟨j, hj, e⟩ := (h.has _).1 hh
      obtain ⟨b, hb, e1, e2, e3⟩ := h.best j hj
      rw [← e] at e3
      obtain ⟨b', e4, hb', hs, hk'⟩ := h.at hI2 hh e3
      obtain rfl : b = b' := by omega
      by_cases hl : lowOf (at4 ss k) < lowOf (at4 ss b)
      · exact ⟨_, h.better hI2 hb' hs hk' hl⟩
      · exact ⟨_, h.stay hI2 hb' hs hk' e3 hl⟩
def cntTo (ss : List I4) (z : Int) (i k : Nat) : Nat := (((thinL ss z).take k).filter fun v => decide (sq z (at4 ss v.toNat) = sq z (at4 ss i))).length
theorem cntTo_succ {ss : List I4} {z : Int} {i k : Nat} {v : Int} (h : (thinL ss z)[k]? = some v) : cntTo ss z i (k + 1) = cntTo ss z i k + (if sq z (at4 ss v.toNat) = sq z (at4 ss i) then 1 else 0) := by
  unfold cntTo
  rw [take_snoc h, List.filter_append, List.length_append]
  by_cases hs : sq z (at4 ss v.toNat) = sq z (at4 ss i) <;> simp [hs]
theorem cntTo_le (ss : List I4) (z : Int) (i k : Nat) : cntTo ss z i k ≤ k := by
  unfold cntTo
  have h1 := List.length_filter_le (fun v : Int => decide (sq z (at4 ss v.toNat) = sq z (at4 ss i))) ((thinL ss z).take k)
  rw [List.length_take] at h1
  omega
theorem cntTo_all {ss : List I4} {z : Int} (hI : ∀ j, j < ss.length → I64 (sq z (at4 ss j)).1 ∧ I64 (sq z (at4 ss j)).2) {i m : Nat} (hi : i < ss.length) (hm : (thinL ss z).length = m) : cntTo ss z i m = 1 := by
  obtain ⟨D, h⟩ := thin_ex ss z hI ss.length (Nat.le_refl _)
  obtain ⟨b, hb, e1, e2, -⟩ := h.best i hi
  unfold cntTo
  rw [List.take_of_length_le (by omega)]
  have hf : (thinL ss z).filter (fun v => decide (sq z (at4 ss v.toNat) = sq z (at4 ss i))) = (thinL ss z).filter (fun v => false || decide (v = (b : Int))) := List.filter_congr fun v hv => by
    obtain ⟨j, rfl, hj, hk⟩ := mem_pick.1 hv
    rw [Int.toNat_natCast, Bool.false_or]
    by_cases hjb : j = b
    · subst hjb; rw [decide_eq_true e1, decide_eq_true rfl]
    · rw [decide_eq_false (p := ((j : Int) = (b : Int))) (by omega), decide_eq_false]
      intro hs
      have hs2 := hs.trans e1.symm
      have h1 := beats_not.1 (keepTo_iff.1 hk b hb)
      have h2 := beats_not.1 (keepTo_iff.1 e2 j hj)
      apply h1
      refine ⟨hs2.symm, ?_⟩
      rcases Int.lt_trichotomy (lowOf (at4 ss b)) (lowOf (at4 ss j)) with h3 | h3 | h3
      · exact .inl h3
      · rcases Nat.lt_or_ge b j with h4 | h4
        · exact .inr ⟨h3, h4⟩
        · exact absurd ⟨hs2, .inr ⟨h3.symm, by omega⟩⟩ h2
      · exact absurd ⟨hs2, .inl h3⟩ h2
  rw [hf]
  have := (filter_add (fun _ => false) (b : Int) rfl (thinL ss z) (pick_sorted _ _) (mem_pick.2 ⟨b, rfl, hb, e2⟩)).length_eq
  have h0 : (thinL ss z).filter (fun _ => false) = [] := List.filter_eq_nil_iff.2 (by simp)
  rw [h0] at this
  simpa using this
/-- One that is kept is not deeper than another of its square. -/
theorem thin_low {ss : List I4} {z : Int} {v : Int} (hv : v ∈ thinL ss z) {i : Nat} (hi : i < ss.length) : ∃ b : Nat, v = b ∧ b < ss.length ∧ (sq z (at4 ss b) = sq z (at4 ss i) → lowOf (at4 ss b) ≤ lowOf (at4 ss i)) := by
  obtain ⟨b, rfl, hb, hk⟩ := mem_pick.1 hv
  refine ⟨b, rfl, hb, fun hs => ?_⟩
  have h1 := beats_not.1 (keepTo_iff.1 hk i hi)
  rcases Int.lt_or_le (lowOf (at4 ss i)) (lowOf (at4 ss b)) with h3 | h3
  · exact absurd ⟨hs.symm, .inl h3⟩ h1
  · exact h3
theorem thin_cases (ss : List I4) (z : Int) : (thin ss z).2 ≠ 0 ∨ (sndsOk ss = true ∧ (1 ≤ z ∧ z ≤ 10000) ∧ thin ss z = (thinL ss z, 0)) := by
  unfold thin
  cases h1 : sndsOk ss
  · exact .inl (by simp)
  · cases h2 : inR 1 10000 z
    · exact .inl (by simp)
    · exact .inr ⟨rfl, by simpa [inR] using h2, rfl⟩
/-- What the text of a list reads as. -/
theorem read_txt {ls : List I4} {w w' : World} {e : Ending} (h : ReadPost (txtOf ls) w e w') : ∃ (ss : List I4) (a : Option Addr) (n cp : Nat), e = .returned (.tuple #[.slice a n cp, .bool true]) ∧ Row w' 4 a n (frs ss) ∧ (txtOf ls = [] ∨ txtOf ls ≠ [] ∧ ss = ls) ∧ ss.length ≤ 200 ∧ Below w.heap.size w w' := by
  rcases h with ⟨ss, a, cp, he, hr, ho, ht, hb⟩ | ⟨he, hno, hb⟩
  · refine ⟨ss, a, ss.length, cp, he, hr, ?_, sndsOk_len ho rfl, hb⟩
    by_cases h0 : txtOf ls = []
    · exact .inl h0
    · refine .inr ⟨h0, ?_⟩
      have hok : sndsOk ls = true := by
        cases h1 : sndsOk ls
        · exact absurd (by rw [txtOf, h1]; rfl) h0
        · rfl
      have : txtOf ls = sndsTxt ls := by rw [txtOf, hok]; rfl
      rw [this] at ht
      exact (sndsTxt_inj ht).symm
  · exfalso
    cases h1 : sndsOk ls
    · have : txtOf ls = [] := by rw [txtOf, h1]; rfl
      exact hno [] rfl (by rw [this]; rfl)
    · have : txtOf ls = sndsTxt ls := by rw [txtOf, h1]; rfl
      exact hno ls h1 this
def Rd (s : Txt) (ok : Bool) (ss : List I4) : Prop := (ok = true ∧ sndsOk ss = true ∧ s = sndsTxt ss) ∨ (ok = false ∧ ss = [] ∧ ∀ ss' : List I4, sndsOk ss' = true → s ≠ sndsTxt ss')
theorem rd_one {s : Txt} {ok ok' : Bool} {ss ss' : List I4} (h : Rd s ok ss) (h' : Rd s ok' ss') : ok' = ok ∧ ss' = ss := by
  rcases h with ⟨rfl, h1, h2⟩ | ⟨rfl, rfl, h2⟩
  · rcases h' with ⟨rfl, h3, h4⟩ | ⟨rfl, rfl, h4⟩
    · exact ⟨rfl, sndsTxt_inj (h4.symm.trans h2)⟩
    · exact absurd h2 (h4 ss h1)
  · rcases h' with ⟨rfl, h3, h4⟩ | ⟨rfl, rfl, h4⟩
    · exact absurd h4 (h2 ss' h3)
    · exact ⟨rfl, rfl⟩
theorem read_rd {s : Txt} {w w' : World} {e : Ending} (h : ReadPost s w e w') : ∃ (a : Option Addr) (n c : Nat) (ok : Bool) (ss : List I4), e = .returned (.tuple #[.slice a n c, .bool ok]) ∧ Row w' 4 a n (frs ss) ∧ Rd s ok ss ∧ Below w.heap.size w w' := by
  rcases h with ⟨ss, a, cp, he, hr, ho, ht, hb⟩ | ⟨he, hno, hb⟩
  · exact ⟨a, ss.length, cp, true, ss, he, hr, .inl ⟨rfl, ho, ht⟩, hb⟩
  · exact ⟨none, 0, 0, false, [], he, Row.nil_, .inr ⟨rfl, rfl, hno⟩, hb⟩
theorem rd_len {s : Txt} {ok : Bool} {ss : List I4} (h : Rd s ok ss) : ss.length ≤ 200 := by
  rcases h with ⟨_, h1, _⟩ | ⟨_, rfl, _⟩
  · exact sndsOk_len h1 rfl
  · simp
theorem ReadPost.below {s : Txt} {w w' : World} {e : Ending} (h : ReadPost s w e w') : Below w.heap.size w w' := by
  rcases h with ⟨_, _, _, _, _, _, _, hb⟩ | ⟨_, _, hb⟩ <;> exact hb
end Go.Proofs.YtaimckepaldocaaGreatDoor
