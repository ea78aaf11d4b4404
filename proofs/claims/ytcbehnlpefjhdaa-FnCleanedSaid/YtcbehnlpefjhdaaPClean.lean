/- Plain facts of cleaning, for FnCleaned. -/
import Derived.Test.YtcbehnlpefjhdaaPSpikes
namespace Go.Proofs.Ytcbehnlpefjhdaa
open Go.RowKit
set_option maxRecDepth 100000
set_option linter.unusedVariables false

theorem cleanF_fix {ss : List I4} {r l m : Int} : ∀ (f : Nat) (ks : List Int) (c : Int), ks.length ≤ f → (onceL ss r l m (cleanF ss r l m f ks c).1).length = (cleanF ss r l m f ks c).1.length := by
  intro f
  induction f with
  | zero =>
    intro ks c h
    have : ks = [] := List.eq_nil_of_length_eq_zero (by omega)
    subst this
    rfl
  | succ f ih =>
    intro ks c h
    by_cases h1 : (onceL ss r l m ks).length = ks.length
    · rw [cleanF_stop h1]; exact h1
    · rw [cleanF_go h1]
      have := onceL_len ss r l m ks
      exact ih _ _ (by omega)
theorem cleanF_rounds {ss : List I4} {r l m : Int} : ∀ (f : Nat) (ks : List Int) (c : Int), c ≤ (cleanF ss r l m f ks c).2 ∧ (cleanF ss r l m f ks c).2 - c + (cleanF ss r l m f ks c).1.length ≤ ks.length ∧ ((cleanF ss r l m f ks c).1.length = ks.length ∨ c + 1 ≤ (cleanF ss r l m f ks c).2) := by
  intro f
  induction f with
  | zero => intro ks c; simp [cleanF]
  | succ f ih =>
    intro ks c
    by_cases h1 : (onceL ss r l m ks).length = ks.length
    · rw [cleanF_stop h1]; simp
    · rw [cleanF_go h1]
      have := onceL_len ss r l m ks
      have := ih (onceL ss r l m ks) (c + 1)
      omega
theorem Idx.clean' {ss : List I4} {r l m : Int} : ∀ (f : Nat) (ks : List Int) (c : Int), Idx ss ks → Idx ss (cleanF ss r l m f ks c).1 := by
  intro f
  induction f with
  | zero => intro ks c h; exact h
  | succ f ih =>
    intro ks c h
    by_cases h1 : (onceL ss r l m ks).length = ks.length
    · rw [cleanF_stop h1]; exact h
    · rw [cleanF_go h1]; exact ih _ _ h.once

/-- The least index of a sounding with the least lower bound. -/
def shoalF (ss : List I4) : Nat → Nat
  | 0 => 0
  | k + 1 => if lowOf (at4 ss k) < lowOf (at4 ss (shoalF ss k)) then k else shoalF ss k
theorem shoalF_lt (ss : List I4) : ∀ n, 0 < n → shoalF ss n < n
  | 0, h => by omega
  | 1, _ => by simp [shoalF]
  | n + 2, _ => by
    have := shoalF_lt ss (n + 1) (by omega)
    rw [shoalF]
    split <;> omega
theorem shoalF_min (ss : List I4) : ∀ n j, j < n → lowOf (at4 ss (shoalF ss n)) ≤ lowOf (at4 ss j)
  | 0, j, h => by omega
  | n + 1, j, h => by
    rw [shoalF]
    split
    · rename_i hlt
      by_cases hj : j = n
      · subst hj; omega
      · have := shoalF_min ss n j (by omega); omega
    · rename_i hlt
      by_cases hj : j = n
      · subst hj; omega
      · exact shoalF_min ss n j (by omega)
def shoalOf (ss : List I4) : Int × Int := if sndsOk ss then (if ss.length = 0 then (0, 4) else (((shoalF ss ss.length : Nat) : Int), 0)) else (0, 1)
theorem shoalOf_bad {ss : List I4} (h : sndsOk ss = false) : shoalOf ss = (0, 1) := by simp [shoalOf, h]
theorem shoalOf_none {ss : List I4} (h : sndsOk ss = true) (h2 : ss.length = 0) : shoalOf ss = (0, 4) := by simp [shoalOf, h, h2]
theorem shoalOf_yes {ss : List I4} (h : sndsOk ss = true) (h2 : 0 < ss.length) : shoalOf ss = (((shoalF ss ss.length : Nat) : Int), 0) := by rw [shoalOf, if_pos h, if_neg (by omega)]

/-- The shoalest sounding is never dropped. -/
theorem once_keeps {ss : List I4} {r l m : Int} {ks : List Int} {p : Nat} (hr : spikeRuleOk r l m = true) (hs : sndsOk (chosen ss ks) = true) (hp : ks[p]? = some ((shoalF ss ss.length : Nat) : Int)) (hi : Idx ss ks) :
    ((shoalF ss ss.length : Nat) : Int) ∈ onceL ss r l m ks := by
  have hpl : p < ks.length := (List.getElem?_eq_some_iff.1 hp).1
  have hno : spikeB true (chosen ss ks) r l m p = false := by
    cases hb : spikeB true (chosen ss ks) r l m p
    · rfl
    · exfalso
      unfold spikeB at hb
      simp only [Bool.and_eq_true, decide_eq_true_eq, List.all_eq_true] at hb
      have hbd := rule_bd hr
      have hpos : 0 < (nearL (chosen ss ks) r p).length := by omega
      obtain ⟨x, hx⟩ : ∃ x, x ∈ nearL (chosen ss ks) r p := ⟨_, List.getElem_mem hpos⟩
      have h1 := deepQ_true.1 (hb.2 x hx)
      obtain ⟨j, rfl, hj, -⟩ := mem_pick.1 hx
      rw [chosen_length] at hj
      have h2 := low_high hs j
      simp only [Int.toNat_natCast] at h1
      rw [at4_get (chosen_get hp)] at h1
      have hkj : ks[j]? = some ks[j] := List.getElem?_eq_getElem hj
      rw [at4_get (chosen_get hkj)] at h1 h2
      obtain ⟨i, hi1, hi2⟩ := hi.get hkj
      rw [hi1] at h1 h2
      simp only [Int.toNat_natCast] at h1 h2
      have h3 := shoalF_min ss ss.length i hi2
      omega
  unfold onceL sel
  rw [List.mem_map]
  exact ⟨p, by simp [hpl, hno], by simp [hp]⟩
theorem clean_keeps {ss : List I4} {r l m : Int} (hs : sndsOk ss = true) (hr : spikeRuleOk r l m = true) : ∀ (f : Nat) (ks : List Int) (c : Int), Idx ss ks → ks.length ≤ 200 → ((shoalF ss ss.length : Nat) : Int) ∈ ks → ((shoalF ss ss.length : Nat) : Int) ∈ (cleanF ss r l m f ks c).1 := by
  intro f
  induction f with
  | zero => intro ks c _ _ h; exact h
  | succ f ih =>
    intro ks c hi hl h
    by_cases h1 : (onceL ss r l m ks).length = ks.length
    · rw [cleanF_stop h1]; exact h
    · rw [cleanF_go h1]
      obtain ⟨p, hp⟩ := List.mem_iff_getElem?.1 h
      exact ih _ _ hi.once (Nat.le_trans (onceL_len _ _ _ _ _) hl) (once_keeps hr (hi.ok hs hl) hp hi)

theorem rule_200 {ss : List I4} {r l m : Int} (h : ruleC ss r l m = 0) : ss.length ≤ 200 := sndsOk_len (rule_of h).1 rfl

/-- All that FnCleaned asks of the cleaned list. -/
theorem clean_facts {ss : List I4} {r l m : Int} (h : ruleC ss r l m = 0) :
    spikesOf true (chosen ss (cleanL ss r l m).1) r l m = ([], 0) ∧ 0 ≤ (cleanL ss r l m).2 ∧ (cleanL ss r l m).2 + (cleanL ss r l m).1.length ≤ ss.length ∧ ((cleanL ss r l m).1.length = ss.length ∨ 1 ≤ (cleanL ss r l m).2) ∧ Idx ss (cleanL ss r l m).1 ∧ sndsOk (chosen ss (cleanL ss r l m).1) = true := by
  obtain ⟨hs, hr⟩ := rule_of h
  have hl := rule_200 h
  have hal := allL_length ss
  have hfix := cleanF_fix (ss := ss) (r := r) (l := l) (m := m) 200 (allL ss) 0 (by omega)
  have hrd := cleanF_rounds (ss := ss) (r := r) (l := l) (m := m) 200 (allL ss) 0
  have hidx : Idx ss (cleanL ss r l m).1 := Idx.clean' 200 (allL ss) 0 (Idx.all ss)
  have hlen := cleanL_len ss r l m
  have hok := hidx.ok hs (by omega)
  have hsp := onceL_spikes ss r l m (cleanL ss r l m).1
  unfold cleanL at *
  refine ⟨?_, by omega, by omega, by omega, hidx, hok⟩
  unfold spikesOf
  rw [ruleC_yes (by simp [hok, hr]), if_pos rfl]
  have h0 : (spikeL true (chosen ss (cleanF ss r l m 200 (allL ss) 0).1) r l m).length = 0 := by omega
  rw [List.eq_nil_of_length_eq_zero h0]

theorem clean_shoal {ss : List I4} {r l m : Int} (h : ruleC ss r l m = 0) (h0 : 0 < ss.length) :
    ((shoalF ss ss.length : Nat) : Int) ∈ (cleanL ss r l m).1 ∧ 0 < (cleanL ss r l m).1.length ∧
    lowOf (at4 (chosen ss (cleanL ss r l m).1) (shoalF (chosen ss (cleanL ss r l m).1) (chosen ss (cleanL ss r l m).1).length)) = lowOf (at4 ss (shoalF ss ss.length)) := by
  obtain ⟨hs, hr⟩ := rule_of h
  have hl := rule_200 h
  obtain ⟨-, -, -, -, hidx, hok⟩ := clean_facts h
  have hmem : ((shoalF ss ss.length : Nat) : Int) ∈ (cleanL ss r l m).1 :=
    clean_keeps hs hr 200 (allL ss) 0 (Idx.all ss) (by rw [allL_length]; exact hl) (mem_pick.2 ⟨_, rfl, shoalF_lt ss _ h0, rfl⟩)
  have hpos : 0 < (cleanL ss r l m).1.length := List.length_pos_of_mem hmem
  refine ⟨hmem, hpos, ?_⟩
  obtain ⟨p, hp⟩ := List.mem_iff_getElem?.1 hmem
  have hpl : p < (cleanL ss r l m).1.length := (List.getElem?_eq_some_iff.1 hp).1
  have h1 := shoalF_min (chosen ss (cleanL ss r l m).1) (chosen ss (cleanL ss r l m).1).length p (by rw [chosen_length]; exact hpl)
  rw [at4_get (chosen_get hp), Int.toNat_natCast] at h1
  have h2 := shoalF_lt (chosen ss (cleanL ss r l m).1) (chosen ss (cleanL ss r l m).1).length (by rw [chosen_length]; exact hpos)
  rw [chosen_length] at h2
  obtain ⟨q, hq⟩ : ∃ q, (cleanL ss r l m).1[shoalF (chosen ss (cleanL ss r l m).1) (cleanL ss r l m).1.length]? = some q := ⟨_, List.getElem?_eq_getElem h2⟩
  obtain ⟨i, rfl, hi⟩ := hidx.get hq
  have h3 := shoalF_min ss ss.length i hi
  rw [chosen_length] at h1 ⊢
  rw [at4_get (chosen_get hq), Int.toNat_natCast] at h1 ⊢
  omega
end Go.Proofs.Ytcbehnlpefjhdaa
