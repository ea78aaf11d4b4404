/- Plain laws of stuffed bits: what is stuffed is restored; no six ones in a row. No program in sight. -/
import Derived.Test.YtmljcbfpennjkaaStuff
import Derived.Test.YtmljcbfpennjkaaLongRun
namespace Go.Proofs.Ytmljcbfpennjkaa
open Go.RowKit
set_option maxRecDepth 100000
set_option linter.unusedVariables false

def Bit01 (xs : List Int) : Prop := ∀ x ∈ xs, x = 0 ∨ x = 1
theorem Bit01.of {most : Int} {xs : List Int} (h : listOk most 0 1 xs = true) : Bit01 xs := by
  intro x hx
  simp only [listOk, Bool.and_eq_true, List.all_eq_true] at h
  have := h.1 x hx
  simp only [inR, Bool.and_eq_true, decide_eq_true_eq] at this
  omega
theorem Bit01.ok {most : Int} {xs : List Int} (h : Bit01 xs) (hl : (xs.length : Int) ≤ most) : listOk most 0 1 xs = true := by
  simp only [listOk, Bool.and_eq_true, List.all_eq_true, decide_eq_true_eq]
  refine ⟨fun x hx => ?_, hl⟩
  have := h x hx
  simp only [inR, Bool.and_eq_true, decide_eq_true_eq]
  omega
theorem Bit01.tail {b : Int} {xs : List Int} (h : Bit01 (b :: xs)) : Bit01 xs := fun x hx => h x (List.mem_cons_of_mem _ hx)
theorem Bit01.head {b : Int} {xs : List Int} (h : Bit01 (b :: xs)) : b = 0 ∨ b = 1 := h b List.mem_cons_self

theorem ons_le {o : Nat} {b : Int} (h : o ≤ 4) : ons o b ≤ 5 := by unfold ons; split <;> omega
theorem unst_stuff : ∀ (xs : List Int) (o : Nat), o ≤ 4 → unstL o (stuffL o xs) = some xs
  | [], o, h => by simp [stuffL, unstL]; omega
  | b :: t, o, h => by
    have h5 : o ≠ 5 := by omega
    by_cases hb : ons o b = 5
    · rw [stuffL, if_pos hb, unstL, if_neg h5, hb, unstL]
      simp [unst_stuff t 0 (by omega)]
    · rw [stuffL, if_neg hb, unstL, if_neg h5, unst_stuff t (ons o b) (by have := ons_le (b := b) h; omega)]
      rfl
theorem stuff_unst : ∀ (ys : List Int) (o : Nat) (zs : List Int), o ≤ 5 → Bit01 ys → unstL o ys = some zs → (o ≤ 4 → stuffL o zs = ys) ∧ (o = 5 → ys = 0 :: stuffL 0 zs)
  | [], o, zs, h, hb, he => by
    rw [unstL] at he
    split at he
    · injection he with he; subst he
      exact ⟨fun _ => rfl, fun h5 => by omega⟩
    · cases he
  | b :: t, o, zs, h, hb, he => by
    rw [unstL] at he
    by_cases h5 : o = 5
    · rw [if_pos h5] at he
      split at he
      · cases he
      · rename_i hb1
        have hb0 : b = 0 := by rcases hb.head with h0 | h0; exact h0; exact absurd h0 hb1
        subst hb0
        exact ⟨fun h4 => by omega, fun _ => by rw [(stuff_unst t 0 zs (by omega) hb.tail he).1 (by omega)]⟩
    · rw [if_neg h5] at he
      obtain ⟨zs', hz, rfl⟩ := Option.map_eq_some_iff.1 he
      refine ⟨fun h4 => ?_, fun h5' => absurd h5' h5⟩
      have ih := stuff_unst t (ons o b) zs' (ons_le h4) hb.tail hz
      by_cases hn : ons o b = 5
      · rw [stuffL, if_pos hn, ih.2 hn]
      · rw [stuffL, if_neg hn, ih.1 (by have := ons_le (b := b) h4; omega)]
theorem unst_bits : ∀ (ys : List Int) (o : Nat) (zs : List Int), Bit01 ys → unstL o ys = some zs → Bit01 zs
  | [], o, zs, hb, he => by
    rw [unstL] at he
    split at he
    · injection he with he; subst he; exact hb
    · cases he
  | b :: t, o, zs, hb, he => by
    rw [unstL] at he
    split at he
    · split at he
      · cases he
      · exact unst_bits t 0 zs hb.tail he
    · obtain ⟨zs', hz, rfl⟩ := Option.map_eq_some_iff.1 he
      have ih := unst_bits t (ons o b) zs' hb.tail hz
      intro x hx
      rcases List.mem_cons.1 hx with rfl | hx
      · exact hb.head
      · exact ih x hx
theorem stuff_bits : ∀ (xs : List Int) (o : Nat), Bit01 xs → Bit01 (stuffL o xs)
  | [], o, hb => by simp [stuffL]; exact hb
  | b :: t, o, hb => by
    rw [stuffL]
    split
    · intro x hx
      rcases List.mem_cons.1 hx with rfl | hx
      · exact hb.head
      · rcases List.mem_cons.1 hx with rfl | hx
        · exact .inl rfl
        · exact stuff_bits t 0 hb.tail x hx
    · intro x hx
      rcases List.mem_cons.1 hx with rfl | hx
      · exact hb.head
      · exact stuff_bits t _ hb.tail x hx
/-- The longest run of stuffed bits: at most five. -/
theorem lrun_stuff : ∀ (xs : List Int) (o : Nat) (m : Int), o ≤ 4 → m ≤ 5 → lrun m o (stuffL o xs) ≤ 5
  | [], o, m, h, hm => by simpa [stuffL, lrun] using hm
  | b :: t, o, m, h, hm => by
    have hr : rstep (o : Int) b = ((ons o b : Nat) : Int) := by unfold rstep ons; split <;> simp
    have hle := ons_le (b := b) h
    by_cases hb : ons o b = 5
    · rw [stuffL, if_pos hb, lrun, lrun, hr, hb]
      rw [show rstep ((5 : Nat) : Int) 0 = ((0 : Nat) : Int) from rfl]
      exact lrun_stuff t 0 _ (by omega) (by omega)
    · rw [stuffL, if_neg hb, lrun, hr]
      exact lrun_stuff t _ _ (by omega) (by omega)

/-! the statement's three parts -/
theorem stuffBits_code {xs : List Int} (h : (stuffBits xs).2 = 0) : listOk 1200 0 1 xs = true ∧ ¬ 1200 < (stuffL 0 xs).length ∧ stuffBits xs = (stuffL 0 xs, 0) := by
  cases h1 : listOk 1200 0 1 xs
  · rw [stuffBits_no h1] at h; simp at h
  · by_cases h2 : 1200 < (stuffL 0 xs).length
    · rw [stuffBits_out h1 h2] at h; simp at h
    · exact ⟨rfl, h2, stuffBits_yes h1 h2⟩
theorem unstuffBits_code {xs : List Int} (h : (unstuffBits xs).2 = 0) : ∃ zs, listOk 1200 0 1 xs = true ∧ unstL 0 xs = some zs ∧ unstuffBits xs = (zs, 0) := by
  cases h1 : listOk 1200 0 1 xs
  · rw [unstuffBits_no h1] at h; simp at h
  · cases h2 : unstL 0 xs with
    | none => rw [unstuffBits_out h1 h2] at h; simp at h
    | some zs => exact ⟨zs, rfl, rfl, unstuffBits_yes h1 h2⟩
theorem stuff_again {xs : List Int} (h : (unstuffBits xs).2 = 0) : stuffBits (unstuffBits xs).1 = (xs, 0) := by
  obtain ⟨zs, h1, h2, h3⟩ := unstuffBits_code h
  have hb := Bit01.of h1
  have hl : (xs.length : Int) ≤ 1200 := by simp only [listOk, Bool.and_eq_true, decide_eq_true_eq] at h1; exact h1.2
  have hz := unst_bits xs 0 zs hb h2
  have hzl := unstL_len 0 xs zs h2
  have e := (stuff_unst xs 0 zs (by omega) hb h2).1 (by omega)
  rw [h3]
  rw [stuffBits_yes (hz.ok (by omega)) (by rw [e]; omega), e]
theorem unstuff_back {xs : List Int} (h : (stuffBits xs).2 = 0) : unstuffBits (stuffBits xs).1 = (xs, 0) := by
  obtain ⟨h1, h2, h3⟩ := stuffBits_code h
  have hs := stuff_bits xs 0 (Bit01.of h1)
  rw [h3]
  exact unstuffBits_yes (hs.ok (by omega)) (unst_stuff xs 0 (by omega))
theorem run_five {xs : List Int} (h : (stuffBits xs).2 = 0) : ∃ r, longestRun (stuffBits xs).1 = (r, 0) ∧ r ≤ 5 := by
  obtain ⟨h1, h2, h3⟩ := stuffBits_code h
  have hs := stuff_bits xs 0 (Bit01.of h1)
  rw [h3]
  exact ⟨_, longestRun_yes (hs.ok (by omega)), lrun_stuff xs 0 0 (by omega) (by omega)⟩
end Go.Proofs.Ytmljcbfpennjkaa
