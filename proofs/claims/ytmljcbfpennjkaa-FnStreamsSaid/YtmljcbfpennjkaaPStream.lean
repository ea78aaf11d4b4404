/- Plain laws of streams: a frame behind all others is found last; inverting twice restores. No program in sight. -/
import Derived.Test.YtmljcbfpennjkaaPFrLaw
import Derived.Test.YtmljcbfpennjkaaFramesI
import Derived.Test.YtmljcbfpennjkaaDamage
namespace Go.Proofs.Ytmljcbfpennjkaa
open Go.RowKit
set_option maxRecDepth 100000
set_option linter.unusedVariables false

theorem flag_get {xs : List Int} {i : Nat} (h : flagAt xs i = true) {t : Nat} (ht : t < 8) : xs[i + t]? = flagL[t]? := by
  have h := of_decide_eq_true h
  have := congrArg (·[t]?) h
  simpa [List.getElem?_take, ht] using this
theorem flag_zero {xs : List Int} {i : Nat} (h : flagAt xs i = true) : xs[i]? = some 0 := by simpa [flagL] using flag_get h (t := 0) (by omega)
theorem flag_one {xs : List Int} {i d : Nat} (h : flagAt xs i = true) (h1 : 1 ≤ d) (h6 : d ≤ 6) : xs[i + d]? = some 1 := by
  have := flag_get h (t := d) (by omega)
  have : d = 1 ∨ d = 2 ∨ d = 3 ∨ d = 4 ∨ d = 5 ∨ d = 6 := by omega
  rcases this with rfl | rfl | rfl | rfl | rfl | rfl <;> simpa [flagL] using this
/-- Flags share one bit at most. -/
theorem flag_far {xs : List Int} {i j : Nat} (hi : flagAt xs i = true) (hj : flagAt xs j = true) (hij : i < j) : i + 7 ≤ j := by
  by_cases h : i + 7 ≤ j
  · exact h
  · have h1 := flag_one hi (d := j - i) (by omega) (by omega)
    rw [show i + (j - i) = j by omega, flag_zero hj] at h1
    simp at h1
theorem nextF_to {xs : List Int} {m : Nat} (hm : flagAt xs m = true) : ∀ (f i : Nat), i ≤ m → m < i + f → ∃ j : Nat, nextF xs f i = (j : Int) ∧ i ≤ j ∧ j ≤ m ∧ flagAt xs j = true
  | 0, i, h1, h2 => by omega
  | f + 1, i, h1, h2 => by
    rw [nextF]
    cases hi : flagAt xs i
    · simp only [Bool.false_eq_true, if_false]
      have hne : i ≠ m := by intro e; subst e; rw [hm] at hi; cases hi
      obtain ⟨j, h3, h4, h5, h6⟩ := nextF_to hm f (i + 1) (by omega) (by omega)
      exact ⟨j, h3, by omega, h5, h6⟩
    · exact ⟨i, by simp, by omega, h1, hi⟩
theorem flag_in {xs : List Int} {i : Nat} (h : flagAt xs i = true) : i + 8 ≤ xs.length := by
  by_cases h8 : i + 8 ≤ xs.length
  · exact h8
  · rw [flagAt_far rfl h8] at h; cases h
theorem nextL_to {xs : List Int} {m i : Nat} (hm : flagAt xs m = true) (hi : i ≤ m) : ∃ j : Nat, nextL xs i = (j : Int) ∧ i ≤ j ∧ j ≤ m ∧ flagAt xs j = true :=
  nextF_to hm _ _ hi (by have := flag_in hm; omega)

/-- The last two flags, what lies between them, and no flag between. -/
structure Tail (xs : List Int) (n N : Nat) (f : Fr) : Prop where
  len : xs.length = N + 8
  le : n + 8 ≤ N
  first : flagAt xs n = true
  last : flagAt xs N = true
  no : ∀ q, n + 7 ≤ q → q < N → flagAt xs q = false
  read : readL (between xs n N) = some f
theorem frames_tail {xs : List Int} {n N : Nat} {f : Fr} (h : Tail xs n N f) : ∀ (fu p : Nat), p ≤ n → flagAt xs p = true → xs.length < p + fu → ∃ acc, framesF xs fu (p : Int) = acc ++ [f]
  | 0, p, h1, h2, h3 => by have := h.len; have := h.le; omega
  | fu + 1, p, h1, h2, h3 => by
    rw [framesF, if_neg (by omega), Int.toNat_natCast]
    by_cases hp : p = n
    · subst hp
      obtain ⟨j, hj, h4, h5, h6⟩ := nextL_to h.last (i := p + 7) (by have := h.le; omega)
      have hjN : j = N := by
        by_cases e : j = N
        · exact e
        · have := h.no j h4 (by omega)
          rw [h6] at this; cases this
      subst hjN
      rw [hj, if_neg (by omega), Int.toNat_natCast, h.read]
      refine ⟨[], ?_⟩
      have hz : framesF xs fu (j : Int) = [] := by
        cases fu with
        | zero => rfl
        | succ fu =>
          rw [framesF, if_neg (by omega), Int.toNat_natCast, if_pos]
          rcases nextL_cases (n := j + 8) h.len (j + 7) with e | ⟨r, e, h7, h8, h9⟩
          · rw [e]; omega
          · omega
      rw [hz]; rfl
    · have hfar := flag_far h2 h.first (by omega)
      obtain ⟨j, hj, h4, h5, h6⟩ := nextL_to h.first (i := p + 7) hfar
      rw [hj, if_neg (by omega), Int.toNat_natCast]
      obtain ⟨acc, ha⟩ := frames_tail h fu j h5 h6 (by omega)
      exact ⟨optL (readL (between xs p j)) ++ acc, by rw [ha, List.append_assoc]⟩
theorem frames_last {xs : List Int} {n N : Nat} {f : Fr} (h : Tail xs n N f) : ∃ acc, framesL xs = acc ++ [f] := by
  obtain ⟨j, hj, h4, h5, h6⟩ := nextL_to h.first (i := 0) (by omega)
  rw [framesL, hj]
  exact frames_tail h _ j h5 h6 (by omega)
theorem tail_of {bits : List Int} {k m : Int} {fs : List Int} (hf : frameOk k m fs = true) : Tail (bits ++ frameL k m fs) bits.length (bits.length + 8 + (stuffL 0 (bitsL (bytesL k m fs))).length) (k, m, fs) := by
  have hr := readL_frameL hf
  obtain ⟨S, hS⟩ : ∃ S, stuffL 0 (bitsL (bytesL k m fs)) = S := ⟨_, rfl⟩
  have hfl : frameL k m fs = flagL ++ S ++ flagL := by rw [frameL, hS]
  have h6 : six 0 S := hS ▸ six_stuff _ 0 (by omega)
  have hl : (bits ++ frameL k m fs).length = bits.length + 8 + S.length + 8 := by rw [hfl]; simp [flagL]; omega
  have hfirst : flagAt (bits ++ frameL k m fs) bits.length = true := by
    simp only [flagAt, decide_eq_true_eq]
    rw [List.drop_left' rfl, hfl, List.append_assoc, List.take_left' (by rfl)]
  have hlast : flagAt (bits ++ frameL k m fs) (bits.length + 8 + S.length) = true := by
    simp only [flagAt, decide_eq_true_eq]
    rw [hfl, ← List.append_assoc, List.drop_left' (by simp [flagL]; omega)]
    rfl
  have hget : ∀ u, u < S.length → (bits ++ frameL k m fs)[bits.length + 8 + u]? = S[u]? := by
    intro u hu
    rw [hfl, List.getElem?_append_right (by omega), show bits.length + 8 + u - bits.length = 8 + u by omega, List.append_assoc, List.getElem?_append_right (by simp [flagL]), List.getElem?_append_left (by simp [flagL]; omega)]
    simp [flagL]
  rw [hS]
  refine ⟨hl, by omega, hfirst, hlast, ?_, ?_⟩
  · intro q h1 h2
    cases hq : flagAt (bits ++ frameL k m fs) q
    · rfl
    · exfalso
      have hfar := flag_far hq hlast h2
      refine six_ones (six_drop (q + 1 - (bits.length + 8)) S 0 h6) ?_
      obtain ⟨u, hu⟩ : ∃ u, q + 1 - (bits.length + 8) = u := ⟨_, rfl⟩
      rw [hu]
      apply List.ext_getElem?
      intro t
      by_cases ht : t < 6
      · have e1 := flag_one hq (d := t + 1) (by omega) (by omega)
        have e2 := hget (u + t) (by omega)
        rw [show bits.length + 8 + (u + t) = q + (t + 1) by omega, e1] at e2
        rw [List.getElem?_take_of_lt ht, List.getElem?_drop, ← e2]
        have : t = 0 ∨ t = 1 ∨ t = 2 ∨ t = 3 ∨ t = 4 ∨ t = 5 := by omega
        rcases this with rfl | rfl | rfl | rfl | rfl | rfl <;> rfl
      · rw [List.getElem?_eq_none (by simp; omega), List.getElem?_eq_none (by simp; omega)]
  · rw [between, List.drop_left' rfl, List.take_of_length_le (by rw [hfl]; simp [flagL]; omega), hr]
/-- The statement's step. -/
theorem stream_last {bits : List Int} {k m : Int} {fs : List Int} (hb : listOk 1200 0 1 bits = true) (hf : frameOk k m fs = true) (hl : bits.length + (frameL k m fs).length ≤ 1200) :
    ∃ acc, framesIn (bits ++ frameL k m fs) = (acc ++ [(k, m, fs)], 0) := by
  have hs := frameL_small' k m fs
  have hok : listOk 1200 0 1 (bits ++ frameL k m fs) = true := by
    simp only [listOk, Bool.and_eq_true, List.all_eq_true, decide_eq_true_eq, inR, List.length_append, List.mem_append] at hb ⊢
    refine ⟨fun x hx => ?_, by omega⟩
    rcases hx with hx | hx
    · exact hb.1 x hx
    · exact hs x hx
  obtain ⟨acc, ha⟩ := frames_last (tail_of (bits := bits) hf)
  exact ⟨acc, by rw [framesIn_yes hok, ha]⟩

/-! inverting twice -/
theorem flip_twice (xs : List Int) (p : Int) : flip1 (flip1 xs p) p = xs := by
  unfold flip1
  by_cases h : p.toNat < xs.length
  · rw [List.set_set]
    apply List.ext_getElem?
    intro i
    rw [List.getElem?_set]
    split
    · rename_i e; subst e
      simp [List.getD, h]; omega
    · rfl
  · rw [List.set_eq_of_length_le (l := xs) (by omega), List.set_eq_of_length_le (by omega)]
theorem flip_comm (xs : List Int) (p q : Int) : flip1 (flip1 xs p) q = flip1 (flip1 xs q) p := by
  by_cases h : p.toNat = q.toNat
  · unfold flip1; rw [h]
  · have e : ∀ (a b : Nat) (v : Int), a ≠ b → (xs.set a v).getD b 0 = xs.getD b 0 := by
      intro a b v hab; simp [List.getD, List.getElem?_set_ne hab]
    unfold flip1
    rw [e _ _ _ h, e _ _ _ (Ne.symm h), List.set_comm _ _ h]
theorem damage_flip : ∀ (ps xs : List Int) (p : Int), damage (flip1 xs p) ps = flip1 (damage xs ps) p
  | [], _, _ => rfl
  | q :: t, xs, p => by
    show damage (flip1 (flip1 xs p) q) t = flip1 (damage (flip1 xs q) t) p
    rw [flip_comm, damage_flip t (flip1 xs q) p]
theorem damage_twice : ∀ (ps xs : List Int), damage (damage xs ps) ps = xs
  | [], _ => rfl
  | p :: t, xs => by
    show damage (flip1 (damage (flip1 xs p) t) p) t = xs
    rw [damage_flip t xs p, flip_twice, damage_twice t xs]
theorem damage_small : ∀ (ps xs : List Int), Small xs → Small (damage xs ps)
  | [], _, h => h
  | p :: t, xs, h => damage_small t (flip1 xs p) (flip1_small p h)
theorem damage_back {xs ps : List Int} (h : (damageBits xs ps).2 = 0) : damageBits (damageBits xs ps).1 ps = (xs, 0) := by
  cases h1 : listOk 1200 0 1 xs
  · rw [damageBits_no h1] at h; simp at h
  · cases h2 : rises xs.length none ps
    · rw [damageBits_out h1 rfl h2] at h; simp at h
    · have hl := damage_len ps xs
      have hs : Small (damage xs ps) := damage_small ps xs (listOk_mem h1)
      have hle := listOk_le h1 rfl
      have hok : listOk 1200 0 1 (damage xs ps) = true := by
        simp only [listOk, Bool.and_eq_true, List.all_eq_true, decide_eq_true_eq, inR]
        exact ⟨hs, by rw [hl]; omega⟩
      rw [damageBits_yes h1 rfl h2, damageBits_yes hok hl h2, damage_twice]
end Go.Proofs.Ytmljcbfpennjkaa
