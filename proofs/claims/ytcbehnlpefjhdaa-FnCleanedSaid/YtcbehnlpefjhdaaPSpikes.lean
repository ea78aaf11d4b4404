/- Plain facts of spikes, for FnSpikes. -/
import Derived.Test.YtcbehnlpefjhdaaSnd
namespace Go.Proofs.Ytcbehnlpefjhdaa
open Go.RowKit
set_option maxRecDepth 100000
set_option linter.unusedVariables false

theorem mostOf_le (ss : List I4) (B : Int) : ∀ (ks : List Int) (b : Int), mostOf ss b ks ≤ B ↔ b ≤ B ∧ ∀ k ∈ ks, highOf (at4 ss k.toNat) ≤ B
  | [], b => by simp [mostOf]
  | k :: t, b => by
    rw [mostOf, mostOf_le ss B t]
    simp only [List.mem_cons, forall_eq_or_imp]
    constructor
    · rintro ⟨h1, h2⟩; exact ⟨by omega, by omega, h2⟩
    · rintro ⟨h1, h2, h3⟩; exact ⟨by omega, h3⟩

theorem low_high {ss : List I4} (h : sndsOk ss = true) (k : Nat) : lowOf (at4 ss k) ≤ highOf (at4 ss k) := by
  unfold lowOf highOf
  cases hk : ss[k]? with
  | none => simp [at4, hk]
  | some s =>
    rw [at4_get hk]
    obtain ⟨x, y, d, e⟩ := s
    have := sndOk_bd (sndsOk_get h hk)
    show d - e ≤ d + e
    omega

theorem rule_of {ss : List I4} {r l m : Int} (h : ruleC ss r l m = 0) : sndsOk ss = true ∧ spikeRuleOk r l m = true := by
  cases h0 : sndsOk ss && spikeRuleOk r l m
  · rw [ruleC_no h0] at h; cases h
  · simpa using h0

theorem deepQ_true {ss : List I4} {m : Int} {i : Nat} {k : Int} : deepQ true ss m i k = true ↔ highOf (at4 ss k.toNat) + m < lowOf (at4 ss i) := by
  simp [deepQ, apartB]
theorem deepQ_false {ss : List I4} {m : Int} {i : Nat} {k : Int} : deepQ false ss m i k = true ↔ highOf (at4 ss i) < lowOf (at4 ss k.toNat) - m := by
  simp [deepQ, apartB]

theorem margin_spike {ss : List I4} {r l m i : Int} (h : (spikeMargin ss r l m i).2 = 0) :
    (spikesOf true ss r l m).2 = 0 ∧ decide (i ∈ (spikesOf true ss r l m).1) = (decide (l ≤ ((neighboursOf ss r l m i).1.length : Int)) && decide (m ≤ (spikeMargin ss r l m i).1)) := by
  rcases indexC_cases ss r l m i with ⟨hi, ⟨hs, hr⟩, hi0, hi1⟩ | ⟨c, hc, hc0⟩
  · have hru : ruleC ss r l m = 0 := ruleC_yes (by simp [hs, hr])
    rw [neighboursOf_yes hi]
    obtain ⟨I, rfl⟩ := Int.eq_ofNat_of_zero_le hi0
    have hso : spikesOf true ss r l m = (spikeL true ss r l m, 0) := by simp [spikesOf, hru]
    rw [hso]
    cases hn : nearL ss r ((I : Int)).toNat with
    | nil =>
      have : spikeMargin ss r l m (I : Int) = (0, 4) := by rw [spikeMargin, if_pos hi, hn]
      rw [this] at h
      simp at h
    | cons k t =>
      have hsm : spikeMargin ss r l m (I : Int) = (lowOf (at4 ss I) - mostOf ss (highOf (at4 ss k.toNat)) t - 1, 0) := by rw [spikeMargin, if_pos hi, hn]; rfl
      rw [hsm]
      rw [Int.toNat_natCast] at hn
      refine ⟨rfl, ?_⟩
      show decide ((I : Int) ∈ spikeL true ss r l m) = (decide (l ≤ ((k :: t).length : Int)) && decide (m ≤ lowOf (at4 ss I) - mostOf ss (highOf (at4 ss k.toNat)) t - 1))
      rw [Bool.eq_iff_iff]
      simp only [Bool.and_eq_true, decide_eq_true_eq]
      have hm : (I : Int) ∈ spikeL true ss r l m ↔ spikeB true ss r l m I = true := by
        unfold spikeL
        rw [mem_pick]
        constructor
        · rintro ⟨j, h1, _, h3⟩
          have : I = j := by omega
          rw [this]; exact h3
        · intro h3; exact ⟨I, rfl, by omega, h3⟩
      rw [hm]
      unfold spikeB
      rw [hn, Bool.and_eq_true, decide_eq_true_eq, List.all_cons, Bool.and_eq_true, List.all_eq_true, deepQ_true]
      have h2 := mostOf_le ss (lowOf (at4 ss I) - m - 1) t (highOf (at4 ss k.toNat))
      constructor
      · rintro ⟨ha, hb, hc⟩
        refine ⟨ha, ?_⟩
        have := h2.2 ⟨by omega, fun x hx => by have := deepQ_true.1 (hc x hx); omega⟩
        omega
      · rintro ⟨ha, hb⟩
        have := h2.1 (by omega)
        exact ⟨ha, by omega, fun x hx => deepQ_true.2 (by have := this.2 x hx; omega)⟩
  · unfold spikeMargin at h
    rw [hc, if_neg hc0] at h
    exact absurd h hc0

theorem spikeB_of {deep : Bool} {ss : List I4} {r l m k : Int} (h : (spikesOf deep ss r l m).2 = 0) (hk : k ∈ (spikesOf deep ss r l m).1) :
    sndsOk ss = true ∧ spikeRuleOk r l m = true ∧ ∃ j : Nat, k = j ∧ j < ss.length ∧ l ≤ ((nearL ss r j).length : Int) ∧ ∀ x ∈ nearL ss r j, deepQ deep ss m j x = true := by
  unfold spikesOf at h hk
  by_cases hr : ruleC ss r l m = 0
  · rw [if_pos hr] at hk
    obtain ⟨j, h1, h2, h3⟩ := mem_pick.1 hk
    unfold spikeB at h3
    simp only [Bool.and_eq_true, decide_eq_true_eq, List.all_eq_true] at h3
    exact ⟨(rule_of hr).1, (rule_of hr).2, j, h1, h2, h3.1, h3.2⟩
  · rw [if_neg hr] at h; cases h

theorem deep_near {ss : List I4} {r l m k : Int} (h : (spikesOf true ss r l m).2 = 0) (hk : k ∈ (spikesOf true ss r l m).1) :
    (neighboursOf ss r l m k).2 = 0 ∧ 0 < (neighboursOf ss r l m k).1.length ∧ decide (k ∈ (spikesOf false ss r l m).1) = false ∧ ∀ j ∈ (neighboursOf ss r l m k).1, decide (j ∈ (spikesOf true ss r l m).1) = false := by
  obtain ⟨hs, hr, j, rfl, hj, hl, hall⟩ := spikeB_of h hk
  have hb := rule_bd hr
  have hin : inR 0 ((ss.length : Int) - 1) (j : Int) = true := by simp [inR]; omega
  rw [neighboursOf_yes (indexC_yes (by simp [hs, hr]) hin)]
  simp only [Int.toNat_natCast]
  have hpos : 0 < (nearL ss r j).length := by omega
  have h2 : (spikesOf false ss r l m).2 = 0 := by
    unfold spikesOf at h ⊢
    by_cases hru : ruleC ss r l m = 0
    · rw [if_pos hru]
    · rw [if_neg hru] at h; cases h
  refine ⟨trivial, hpos, ?_, ?_⟩
  · rw [decide_eq_false_iff_not]
    intro hsh
    obtain ⟨-, -, j', hj', -, -, hall'⟩ := spikeB_of h2 hsh
    have : j = j' := by omega
    subst this
    obtain ⟨x, hx⟩ : ∃ x, x ∈ nearL ss r j := ⟨_, List.getElem_mem hpos⟩
    have h3 := deepQ_true.1 (hall x hx)
    have h4 := deepQ_false.1 (hall' x hx)
    have h5 := low_high hs x.toNat
    have h6 := low_high hs j
    omega
  · intro x hx
    rw [decide_eq_false_iff_not]
    intro hd
    obtain ⟨-, -, i, rfl, hi, -, hall'⟩ := spikeB_of h hd
    have h3 := deepQ_true.1 (hall _ hx)
    simp only [Int.toNat_natCast] at h3
    have hsym : (j : Int) ∈ nearL ss r i := by
      obtain ⟨i', h1, h2, h3⟩ := mem_pick.1 hx
      have : i = i' := by omega
      subst this
      exact mem_pick.2 ⟨j, rfl, hj, by rw [nearB_sym]; exact h3⟩
    have h4 := deepQ_true.1 (hall' _ hsym)
    simp only [Int.toNat_natCast] at h4
    have h5 := low_high hs i
    have h6 := low_high hs j
    omega
end Go.Proofs.Ytcbehnlpefjhdaa
