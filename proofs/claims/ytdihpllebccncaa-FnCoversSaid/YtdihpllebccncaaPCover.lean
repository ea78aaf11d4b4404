/- The least cover: what it covers, and that each of its spans is needed: plain. -/
import Derived.Test.YtdihpllebccncaaGapsOf0
namespace Go.Proofs.Ytdihpllebccncaa
open Go.RowKit
set_option maxRecDepth 100000
set_option linter.unusedVariables false

theorem best_ge {c : I2 → Bool} {ss : List I2} : ∀ k, k ≤ ss.length → ∀ j : Nat, j < k → c (spAt ss j) = true → 0 ≤ best c ss k ∧ hiS (spAt ss j) ≤ hiOf ss (best c ss k) := by
  intro k
  induction k with
  | zero => intro _ j hj; omega
  | succ k ih =>
    intro hk j hj hc
    have hs : ss[k]? = some ss[k] := List.getElem?_eq_getElem (by omega)
    generalize ss[k] = s at hs
    obtain ⟨x, y⟩ := s
    have hsp := spAt_get hs
    have hkk := hiOf_get hs
    by_cases e : j = k
    · subst e
      rw [hsp] at hc ⊢
      rcases best_cases c ss j with hb | ⟨i, hb, hi, _⟩
      · rw [best_first hs hc hb]; exact ⟨by omega, by rw [hkk]; exact Int.le_refl _⟩
      · have his : ss[i]? = some ss[i] := List.getElem?_eq_getElem (by omega)
        generalize ss[i] = si at his
        obtain ⟨u, v⟩ := si
        by_cases hlt : u + v < x + y
        · rw [best_more hs hc hb his hlt]; exact ⟨by omega, by rw [hkk]; exact Int.le_refl _⟩
        · rw [best_less hs hc hb his hlt]; exact ⟨by omega, by rw [hiOf_get his]; show x + y ≤ u + v; omega⟩
    · obtain ⟨h0, h1⟩ := ih (by omega) j (by omega) hc
      cases hck : c (x, y)
      · rw [best_no hs hck]; exact ⟨h0, h1⟩
      · rcases best_cases c ss k with hb | ⟨i, hb, hi, _⟩
        · omega
        · have his : ss[i]? = some ss[i] := List.getElem?_eq_getElem (by omega)
          generalize ss[i] = si at his
          obtain ⟨u, v⟩ := si
          by_cases hlt : u + v < x + y
          · rw [best_more hs hck hb his hlt]
            rw [hb, hiOf_get his] at h1
            exact ⟨by omega, by rw [hkk]; omega⟩
          · rw [best_less hs hck hb his hlt]
            rw [hb] at h1
            exact ⟨by omega, h1⟩

/-- The span of a number of the cover. -/
def spB (ss : List I2) (b : Int) : I2 := spAt ss b.toNat
/-- Spans that follow one another from p on. -/
def Chain (W : Int) (ss : List I2) : Int → List Int → Prop
  | p, [] => ¬ p < W
  | p, b :: t => p < W ∧ best (upB p) ss ss.length = b ∧ 0 ≤ b ∧ Chain W ss (hiOf ss b) t
theorem chain_head {W : Int} {ss : List I2} {p b : Int} (h : best (upB p) ss ss.length = b) (h0 : 0 ≤ b) : loS (spB ss b) ≤ p ∧ p < hiS (spB ss b) ∧ hiOf ss b = hiS (spB ss b) ∧ b.toNat < ss.length := by
  rcases best_cases (upB p) ss ss.length with hb | ⟨j, hb, hj, hc⟩
  · omega
  · rw [h] at hb
    subst hb
    simp only [upB, Bool.and_eq_true, decide_eq_true_eq] at hc
    simp only [spB, Int.toNat_natCast, loS, hiS, hiOf]
    exact ⟨hc.1, hc.2, trivial, hj⟩
theorem coverF_chain {W : Int} {ss : List I2} : ∀ (f : Nat) (p : Int) (acc l : List Int), W - p ≤ f → coverF W ss f p acc = some l → ∃ t, l = acc ++ t ∧ Chain W ss p t := by
  intro f
  induction f with
  | zero =>
    intro p acc l hf h
    simp [coverF] at h
    subst h
    exact ⟨[], by simp, by unfold Chain; omega⟩
  | succ f ih =>
    intro p acc l hf h
    by_cases hp : p < W
    · by_cases hb : best (upB p) ss ss.length < 0
      · rw [coverF_none hp hb] at h; cases h
      · rw [coverF_step hp rfl hb] at h
        have hh := chain_head (W := W) (p := p) rfl (show 0 ≤ best (upB p) ss ss.length by omega)
        obtain ⟨t, h1, h2⟩ := ih _ _ _ (by omega) h
        exact ⟨_ :: t, by rw [h1]; simp, hp, rfl, by omega, h2⟩
    · rw [coverF_done hp] at h
      injection h with h
      exact ⟨[], by simp [h], hp⟩
theorem coverF_hole {W : Int} {ss : List I2} : ∀ (f : Nat) (p : Int) (acc : List Int), 0 ≤ p → coverF W ss f p acc = none → ∃ q : Int, 0 ≤ q ∧ q < W ∧ unitB ss q = false := by
  intro f
  induction f with
  | zero => intro p acc _ h; simp [coverF] at h
  | succ f ih =>
    intro p acc h0 h
    by_cases hp : p < W
    · by_cases hb : best (upB p) ss ss.length < 0
      · refine ⟨p, h0, hp, ?_⟩
        cases hu : unitB ss p
        · rfl
        · obtain ⟨s, hs, h1, h2⟩ := unitB_iff.1 hu
          obtain ⟨j, hj⟩ := List.getElem?_of_mem hs
          have hjl := (List.getElem?_eq_some_iff.1 hj).1
          have := best_ge (c := upB p) ss.length (Nat.le_refl _) j hjl (by
            rw [spAt_get hj]
            simp only [upB, loS, hiS, Bool.and_eq_true, decide_eq_true_eq] at *
            omega)
          omega
      · rw [coverF_step hp rfl hb] at h
        have hh := chain_head (W := W) (p := p) rfl (show 0 ≤ best (upB p) ss ss.length by omega)
        exact ih _ _ (by omega) h
    · rw [coverF_done hp] at h; cases h

/-- Every span of a chain reaches beyond its start. -/
theorem chain_up {W : Int} {ss : List I2} : ∀ (l : List Int) (p : Int), Chain W ss p l → ∀ b ∈ l, p < hiS (spB ss b) ∧ 0 ≤ b ∧ b.toNat < ss.length := by
  intro l
  induction l with
  | nil => intro p _ b hb; simp at hb
  | cons a t ih =>
    intro p h b hb
    obtain ⟨hp, h1, h2, h3⟩ := h
    have hh := chain_head (W := W) h1 h2
    rcases List.mem_cons.1 hb with rfl | hb
    · exact ⟨hh.2.1, h2, hh.2.2.2⟩
    · have := ih _ h3 b hb
      exact ⟨by omega, this.2⟩
theorem chain_covers {W : Int} {ss : List I2} : ∀ (l : List Int) (p : Int), Chain W ss p l → ∀ j : Int, p ≤ j → j < W → unitB (l.map (spB ss)) j = true := by
  intro l
  induction l with
  | nil => intro p h j h1 h2; unfold Chain at h; omega
  | cons a t ih =>
    intro p h j hj hjW
    obtain ⟨hp, h1, h2, h3⟩ := h
    have hh := chain_head (W := W) h1 h2
    rw [unitB_iff]
    by_cases hc : j < hiOf ss a
    · exact ⟨spB ss a, by simp, by omega, by omega⟩
    · obtain ⟨s, hs, h4⟩ := unitB_iff.1 (ih _ h3 j (by omega) hjW)
      exact ⟨s, List.mem_cons_of_mem _ hs, h4⟩
theorem chain_needs {W : Int} {ss : List I2} : ∀ (l : List Int) (p : Int), Chain W ss p l → ∀ d : Nat, d < l.length → ∃ q : Int, p ≤ q ∧ q < W ∧ unitB ((l.eraseIdx d).map (spB ss)) q = false := by
  intro l
  induction l with
  | nil => intro p _ d hd; simp at hd
  | cons a t ih =>
    intro p h d hd
    obtain ⟨hp, h1, h2, h3⟩ := h
    have hh := chain_head (W := W) h1 h2
    cases d with
    | zero =>
      refine ⟨p, Int.le_refl _, hp, ?_⟩
      rw [List.eraseIdx_zero, List.tail_cons]
      cases hu : unitB (t.map (spB ss)) p
      · rfl
      · obtain ⟨s, hs, h4, h5⟩ := unitB_iff.1 hu
        obtain ⟨b, hb, rfl⟩ := List.mem_map.1 hs
        obtain ⟨c1, c2, c3⟩ := chain_up t _ h3 b hb
        have := (best_ge (c := upB p) ss.length (Nat.le_refl _) b.toNat c3 (by
          have e : spAt ss b.toNat = spB ss b := rfl
          rw [e]
          simp only [upB, Bool.and_eq_true, decide_eq_true_eq]
          simp only [loS, hiS] at h4 h5 hh c1
          omega)).2
        rw [h1] at this
        have e : spAt ss b.toNat = spB ss b := rfl
        rw [e] at this
        omega
    | succ d =>
      obtain ⟨q, q1, q2, q3⟩ := ih _ h3 d (by simpa using hd)
      refine ⟨q, by omega, q2, ?_⟩
      rw [List.eraseIdx_cons_succ, List.map_cons]
      have e : unitB (spB ss a :: (t.eraseIdx d).map (spB ss)) q = ((decide (loS (spB ss a) ≤ q) && decide (q + 1 ≤ hiS (spB ss a))) || unitB ((t.eraseIdx d).map (spB ss)) q) := by simp [unitB]
      rw [e, q3, decide_eq_false (show ¬ q + 1 ≤ hiS (spB ss a) by omega)]
      simp
theorem countP_part (ss : List I2) (p p' : Int) (h : p ≤ p') : ss.countP (fun s => decide (p < hiS s)) = ss.countP (fun s => decide (p' < hiS s)) + ss.countP (fun s => decide (p < hiS s) && decide (hiS s ≤ p')) := by
  induction ss with
  | nil => rfl
  | cons s t ih =>
    simp only [List.countP_cons, ih]
    by_cases h1 : p < hiS s
    · by_cases h2 : p' < hiS s
      · simp [h1, h2, show ¬ hiS s ≤ p' by omega]; omega
      · simp [h1, h2, show hiS s ≤ p' by omega]; omega
    · simp [h1, show ¬ p' < hiS s by omega]
theorem chain_len {W : Int} {ss : List I2} : ∀ (l : List Int) (p : Int), Chain W ss p l → l.length ≤ ss.countP (fun s => decide (p < hiS s)) := by
  intro l
  induction l with
  | nil => intro p _; simp
  | cons a t ih =>
    intro p h
    obtain ⟨hp, h1, h2, h3⟩ := h
    have hh := chain_head (W := W) h1 h2
    have i := ih _ h3
    rw [countP_part ss p (hiOf ss a) (by omega), List.length_cons]
    have hm : spB ss a ∈ ss := by
      have := List.getElem?_eq_getElem hh.2.2.2
      exact List.mem_of_getElem? (show ss[a.toNat]? = some (spB ss a) by rw [spB, spAt, this]; rfl)
    have : 0 < ss.countP (fun s => decide (p < hiS s) && decide (hiS s ≤ hiOf ss a)) := List.countP_pos_iff.2 ⟨_, hm, by simp; omega⟩
    omega
end Go.Proofs.Ytdihpllebccncaa
