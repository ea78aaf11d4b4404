/- The gaps of spans, plain: unit by unit, and by a sweep over the sorted spans. -/
import Derived.Test.YtdihpllebccncaaMem
namespace Go.Proofs.Ytdihpllebccncaa
open Go.RowKit
set_option maxRecDepth 100000
set_option linter.unusedVariables false

abbrev I2 := Int × Int
def loS (s : I2) : Int := s.1 - s.2
def hiS (s : I2) : Int := s.1 + s.2
/-- The places between k and k + 1 are in a swath. -/
def unitB (ss : List I2) (k : Int) : Bool := ss.any fun s => decide (loS s ≤ k) && decide (k + 1 ≤ hiS s)
/-- The place k is in a swath. -/
def touchB (ss : List I2) (k : Int) : Bool := ss.any fun s => decide (loS s ≤ k) && decide (k ≤ hiS s)
theorem unitB_iff {ss : List I2} {k : Int} : unitB ss k = true ↔ ∃ s ∈ ss, loS s ≤ k ∧ k + 1 ≤ hiS s := by simp [unitB, List.any_eq_true]
theorem touchB_iff {ss : List I2} {k : Int} : touchB ss k = true ↔ ∃ s ∈ ss, loS s ≤ k ∧ k ≤ hiS s := by simp [touchB, List.any_eq_true]
theorem unitB_perm {ss ts : List I2} (h : ss.Perm ts) (k : Int) : unitB ss k = unitB ts k := by
  rw [Bool.eq_iff_iff, unitB_iff, unitB_iff]
  constructor <;> rintro ⟨s, hs, h'⟩ <;> exact ⟨s, by first | exact h.mem_iff.1 hs | exact h.mem_iff.2 hs, h'⟩
theorem touchB_perm {ss ts : List I2} (h : ss.Perm ts) (k : Int) : touchB ss k = touchB ts k := by
  rw [Bool.eq_iff_iff, touchB_iff, touchB_iff]
  constructor <;> rintro ⟨s, hs, h'⟩ <;> exact ⟨s, by first | exact h.mem_iff.1 hs | exact h.mem_iff.2 hs, h'⟩

/-- One unit of the reference's loop. -/
def stepG (ss : List I2) (k : Int) (out : List I2) : List I2 :=
  if unitB ss k then out else
  match out.getLast? with
  | some (a, b) => if b = k ∧ touchB ss k = false then out.dropLast ++ [(a, k + 1)] else out ++ [(k, k + 1)]
  | none => out ++ [(k, k + 1)]
/-- n units from k on. -/
def unitsG (ss : List I2) : Nat → Int → List I2 → List I2
  | 0, _, out => out
  | n + 1, k, out => unitsG ss n (k + 1) (stepG ss k out)
theorem unitsG_snoc (ss : List I2) : ∀ (n : Nat) (k : Int) (out : List I2), unitsG ss (n + 1) k out = stepG ss (k + n) (unitsG ss n k out)
  | 0, k, out => by simp [unitsG]
  | n + 1, k, out => by
    rw [unitsG, unitsG_snoc ss n (k + 1), ← unitsG]
    congr 1
    omega
theorem unitsG_add (ss : List I2) : ∀ (n m : Nat) (k : Int) (out : List I2), unitsG ss (n + m) k out = unitsG ss m (k + n) (unitsG ss n k out)
  | 0, m, k, out => by simp [unitsG]
  | n + 1, m, k, out => by
    rw [show n + 1 + m = (n + m) + 1 by omega, unitsG, unitsG_add ss n m, unitsG]
    congr 1
    omega
theorem unitsG_full (ss : List I2) : ∀ (n : Nat) (k : Int) (out : List I2), (∀ j : Int, k ≤ j → j < k + n → unitB ss j = true) → unitsG ss n k out = out
  | 0, _, _, _ => rfl
  | n + 1, k, out, h => by
    rw [unitsG, show stepG ss k out = out by simp [stepG, h k (by omega) (by omega)]]
    exact unitsG_full ss n (k + 1) out fun j h1 h2 => h j (by omega) (by omega)
theorem unitsG_run (ss : List I2) (a : Int) (out : List I2) : ∀ (n : Nat) (k : Int), (∀ j : Int, k ≤ j → j < k + n → unitB ss j = false ∧ touchB ss j = false) → unitsG ss n k (out ++ [(a, k)]) = out ++ [(a, k + n)]
  | 0, k, _ => by simp [unitsG]
  | n + 1, k, h => by
    have h0 := h k (by omega) (by omega)
    have e : stepG ss k (out ++ [(a, k)]) = out ++ [(a, k + 1)] := by simp [stepG, h0.1, h0.2]
    rw [unitsG, e, unitsG_run ss a out n (k + 1) fun j h1 h2 => h j (by omega) (by omega)]
    congr 3
    omega
/-- A run of units that are not covered, with no place touched inside. -/
theorem unitsG_gap (ss : List I2) {n : Nat} {k : Int} {out : List I2} (hn : 0 < n) (h0 : unitB ss k = false) (h : ∀ j : Int, k + 1 ≤ j → j < k + n → unitB ss j = false ∧ touchB ss j = false)
    (hl : ∀ a, out.getLast? = some (a, k) → touchB ss k = true) : unitsG ss n k out = out ++ [(k, k + n)] := by
  obtain ⟨m, rfl⟩ : ∃ m, n = m + 1 := ⟨n - 1, by omega⟩
  have e : stepG ss k out = out ++ [(k, k + 1)] := by
    unfold stepG
    rw [h0]
    simp only [Bool.false_eq_true, if_false]
    cases hg : out.getLast? with
    | none => rfl
    | some p =>
      obtain ⟨a, b⟩ := p
      by_cases hb : b = k
      · subst hb
        simp [hl a hg]
      · simp [hb]
  rw [unitsG, e, unitsG_run ss k out m (k + 1) fun j h1 h2 => h j (by omega) (by omega)]
  congr 3
  omega

/-- The sweep over spans that are sorted by their lower ends. -/
def sweepG (width : Int) : Int → List I2 → List I2
  | at_, [] => if at_ < width then [(at_, width)] else []
  | at_, s :: t => if width ≤ loS s then (if at_ < width then [(at_, width)] else []) else (if at_ < loS s then [(at_, loS s)] else []) ++ sweepG width (max at_ (hiS s)) t

theorem sweep_units {ss : List I2} {width : Int} : ∀ (rs : List I2) (at_ : Int) (out : List I2), 0 ≤ at_ →
    (∀ s ∈ ss, s ∈ rs ∨ hiS s ≤ at_) → (∀ s ∈ rs, s ∈ ss) → rs.Pairwise (fun a b => loS a ≤ loS b) → (∀ s ∈ rs, loS s ≤ hiS s) →
    (∀ a b, out.getLast? = some (a, b) → b ≤ at_ ∧ (b = at_ → touchB ss b = true)) →
    unitsG ss (width - at_).toNat at_ out = out ++ sweepG width at_ rs := by
  intro rs
  induction rs with
  | nil =>
    intro at_ out h0 h1 _ _ _ hl
    rw [sweepG]
    by_cases hw : at_ < width
    · rw [if_pos hw]
      have hun : ∀ j : Int, at_ ≤ j → unitB ss j = false := by
        intro j hj
        cases hu : unitB ss j
        · rfl
        · obtain ⟨s, hs, h2, h3⟩ := unitB_iff.1 hu
          rcases h1 s hs with h | h
          · simp at h
          · omega
      have htn : ∀ j : Int, at_ < j → touchB ss j = false := by
        intro j hj
        cases hu : touchB ss j
        · rfl
        · obtain ⟨s, hs, h2, h3⟩ := touchB_iff.1 hu
          rcases h1 s hs with h | h
          · simp at h
          · omega
      rw [unitsG_gap ss (by omega) (hun at_ (by omega)) (fun j h1 _ => ⟨hun j (by omega), htn j (by omega)⟩) (fun a ha => (hl a at_ ha).2 rfl)]
      congr 3
      omega
    · rw [if_neg hw, show (width - at_).toNat = 0 by omega]
      simp [unitsG]
  | cons s t ih =>
    intro at_ out h0 h1 h2 hp hd hl
    have hp' := List.pairwise_cons.1 hp
    have hsd := hd s (by simp)
    rw [sweepG]
    -- what is not reached yet
    have hun : ∀ j : Int, at_ ≤ j → j < loS s → unitB ss j = false := by
      intro j hj hj2
      cases hu : unitB ss j
      · rfl
      · obtain ⟨x, hx, h3, h4⟩ := unitB_iff.1 hu
        rcases h1 x hx with h | h
        · rcases List.mem_cons.1 h with rfl | h
          · omega
          · have := hp'.1 x h; omega
        · omega
    have htn : ∀ j : Int, at_ < j → j < loS s → touchB ss j = false := by
      intro j hj hj2
      cases hu : touchB ss j
      · rfl
      · obtain ⟨x, hx, h3, h4⟩ := touchB_iff.1 hu
        rcases h1 x hx with h | h
        · rcases List.mem_cons.1 h with rfl | h
          · omega
          · have := hp'.1 x h; omega
        · omega
    by_cases hw : width ≤ loS s
    · rw [if_pos hw]
      by_cases haw : at_ < width
      · rw [if_pos haw]
        rw [unitsG_gap ss (by omega) (hun at_ (by omega) (by omega)) (fun j h1 h2 => ⟨hun j (by omega) (by omega), htn j (by omega) (by omega)⟩) (fun a ha => (hl a at_ ha).2 rfl)]
        congr 3
        omega
      · rw [if_neg haw, show (width - at_).toNat = 0 by omega]
        simp [unitsG]
    · rw [if_neg hw]
      have hts : touchB ss (loS s) = true := touchB_iff.2 ⟨s, h2 s (by simp), by omega, hsd⟩
      by_cases hgap : at_ < loS s
      · rw [if_pos hgap, show max at_ (hiS s) = hiS s by omega]
        have e1 := unitsG_gap ss (n := (loS s - at_).toNat) (k := at_) (out := out) (by omega) (hun at_ (by omega) (by omega)) (fun j h1 h2 => ⟨hun j (by omega) (by omega), htn j (by omega) (by omega)⟩) (fun a ha => (hl a at_ ha).2 rfl)
        rw [show at_ + ((loS s - at_).toNat : Int) = loS s by omega] at e1
        have hih := ih (hiS s) (out ++ [(at_, loS s)]) (by omega) (fun x hx => by
            rcases h1 x hx with h | h
            · rcases List.mem_cons.1 h with rfl | h
              · exact .inr (by omega)
              · exact .inl h
            · exact .inr (by omega)) (fun x hx => h2 x (List.mem_cons_of_mem _ hx)) hp'.2 (fun x hx => hd x (List.mem_cons_of_mem _ hx))
          (fun a b hab => by
            simp at hab
            obtain ⟨rfl, rfl⟩ := hab
            exact ⟨hsd, fun _ => hts⟩)
        by_cases hhw : hiS s ≤ width
        · rw [show (width - at_).toNat = (loS s - at_).toNat + ((hiS s - loS s).toNat + (width - hiS s).toNat) by omega, unitsG_add, e1, unitsG_add,
            unitsG_full ss (hiS s - loS s).toNat _ _ (fun j h3 h4 => unitB_iff.2 ⟨s, h2 s (by simp), by omega, by omega⟩),
            show at_ + ((loS s - at_).toNat : Int) + ((hiS s - loS s).toNat : Int) = hiS s by omega, hih, List.append_assoc]
        · rw [show (width - hiS s).toNat = 0 by omega, unitsG] at hih
          rw [show (width - at_).toNat = (loS s - at_).toNat + (width - loS s).toNat by omega, unitsG_add, e1,
            unitsG_full ss (width - loS s).toNat _ _ (fun j h3 h4 => unitB_iff.2 ⟨s, h2 s (by simp), by omega, by omega⟩)]
          exact hih.trans (List.append_assoc _ _ _)
      · rw [if_neg hgap, List.nil_append]
        have hih := ih (max at_ (hiS s)) out (by omega) (fun x hx => by
            rcases h1 x hx with h | h
            · rcases List.mem_cons.1 h with rfl | h
              · exact .inr (by omega)
              · exact .inl h
            · exact .inr (by omega)) (fun x hx => h2 x (List.mem_cons_of_mem _ hx)) hp'.2 (fun x hx => hd x (List.mem_cons_of_mem _ hx))
          (fun a b hab => by
            have := hl a b hab
            exact ⟨by omega, fun e => this.2 (by omega)⟩)
        by_cases hhw : max at_ (hiS s) ≤ width
        · rw [show (width - at_).toNat = (max at_ (hiS s) - at_).toNat + (width - max at_ (hiS s)).toNat by omega, unitsG_add,
            unitsG_full ss (max at_ (hiS s) - at_).toNat _ _ (fun j h3 h4 => unitB_iff.2 ⟨s, h2 s (by simp), by omega, by omega⟩),
            show at_ + ((max at_ (hiS s) - at_).toNat : Int) = max at_ (hiS s) by omega, hih]
        · rw [show (width - max at_ (hiS s)).toNat = 0 by omega, unitsG] at hih
          rw [unitsG_full ss (width - at_).toNat _ _ (fun j h3 h4 => unitB_iff.2 ⟨s, h2 s (by simp), by omega, by omega⟩)]
          exact hih

/-- The gaps of a width. -/
def gapsL (width : Int) (ss : List I2) : List I2 := unitsG ss width.toNat 0 []
theorem gaps_sweep {ss rs : List I2} (width : Int) (h : ss.Perm rs) (hp : rs.Pairwise (fun a b => loS a ≤ loS b)) (hd : ∀ s ∈ rs, 0 ≤ s.2) : sweepG width 0 rs = gapsL width ss := by
  have := sweep_units (ss := ss) (width := width) rs 0 [] (by omega) (fun s hs => .inl (h.mem_iff.1 hs)) (fun s hs => h.mem_iff.2 hs) hp (fun s hs => by have := hd s hs; unfold loS hiS; omega) (by intro a b hab; simp at hab)
  rw [List.nil_append, show (width - 0).toNat = width.toNat by omega] at this
  exact this.symm

/-! ### what gaps are -/
theorem stepG_len (ss : List I2) (k : Int) (out : List I2) : (stepG ss k out).length ≤ out.length + 1 := by
  unfold stepG
  split
  · omega
  · split
    · split
      · simp
      · simp
    · simp
theorem stepG_nil {ss : List I2} {k : Int} {out : List I2} : stepG ss k out = [] ↔ out = [] ∧ unitB ss k = true := by
  unfold stepG
  cases hu : unitB ss k
  · simp
    split
    · split <;> simp
    · simp
  · simp
theorem unitsG_nil {ss : List I2} : ∀ (n : Nat) (k : Int) (out : List I2), unitsG ss n k out = [] ↔ out = [] ∧ ∀ j : Int, k ≤ j → j < k + n → unitB ss j = true
  | 0, k, out => by simp [unitsG]; intro _ j h1 h2; omega
  | n + 1, k, out => by
    rw [unitsG, unitsG_nil n, stepG_nil]
    constructor
    · rintro ⟨⟨h1, h2⟩, h3⟩
      refine ⟨h1, fun j h4 h5 => ?_⟩
      by_cases hj : j = k
      · subst hj; exact h2
      · exact h3 j (by omega) (by omega)
    · rintro ⟨h1, h3⟩
      exact ⟨⟨h1, h3 k (by omega) (by omega)⟩, fun j h4 h5 => h3 j (by omega) (by omega)⟩
/-- Covered: no gap. -/
theorem gapsL_nil {ss : List I2} {width : Int} : gapsL width ss = [] ↔ ∀ j : Int, 0 ≤ j → j < width → unitB ss j = true := by
  unfold gapsL
  rw [unitsG_nil]
  constructor
  · rintro ⟨-, h⟩ j h1 h2; exact h j h1 (by omega)
  · intro h; exact ⟨rfl, fun j h1 h2 => h j h1 (by omega)⟩

/-- Gaps rise, each has a length, none reaches beyond k. -/
def GapsOk (k : Int) (out : List I2) : Prop := (∀ (i : Nat) (a b : Int), out[i]? = some (a, b) → 0 ≤ a ∧ a < b ∧ b ≤ k) ∧ ∀ (i : Nat) (a b c d : Int), out[i]? = some (a, b) → out[i + 1]? = some (c, d) → b ≤ c
theorem GapsOk.mono {k j : Int} {out : List I2} (h : GapsOk k out) (hk : k ≤ j) : GapsOk j out := ⟨fun i a b hi => by have := h.1 i a b hi; omega, h.2⟩
theorem GapsOk.snoc {k a b : Int} {out : List I2} (h : GapsOk k out) (h0 : 0 ≤ a) (ha : k ≤ a) (hab : a < b) : GapsOk b (out ++ [(a, b)]) := by
  constructor
  · intro i x y hi
    rw [List.getElem?_append] at hi
    split at hi
    · have := h.1 i x y hi; omega
    · rename_i hl
      rcases Nat.eq_zero_or_pos (i - out.length) with e | e
      · rw [e] at hi; simp at hi; omega
      · rw [List.getElem?_eq_none (by simp; omega)] at hi; cases hi
  · intro i x y c d hi hj
    have hjl := (List.getElem?_eq_some_iff.1 hj).1
    simp at hjl
    rw [List.getElem?_append_left (by omega)] at hi
    by_cases hl : i + 1 < out.length
    · rw [List.getElem?_append_left hl] at hj; exact h.2 i x y c d hi hj
    · rw [List.getElem?_append_right (by omega), show i + 1 - out.length = 0 by omega] at hj
      simp at hj
      have := h.1 i x y hi
      omega
theorem GapsOk.init {k : Int} {out : List I2} (h : GapsOk k out) : GapsOk k out.dropLast := by
  constructor
  · intro i a b hi
    rw [List.getElem?_dropLast] at hi
    split at hi
    · exact h.1 i a b hi
    · cases hi
  · intro i a b c d hi hj
    rw [List.getElem?_dropLast] at hi hj
    split at hi
    · split at hj
      · exact h.2 i a b c d hi hj
      · cases hj
    · cases hi
theorem stepG_ok {ss : List I2} {k : Int} {out : List I2} (h : GapsOk k out) (h0 : 0 ≤ k) : GapsOk (k + 1) (stepG ss k out) := by
  unfold stepG
  split
  · exact h.mono (by omega)
  · split
    · rename_i a b hg
      split
      · rename_i hb
        obtain ⟨rfl, -⟩ := hb
        obtain ⟨l, hl⟩ : ∃ l, out = l ++ [(a, b)] := by
          have hne : out ≠ [] := by rintro rfl; simp at hg
          refine ⟨out.dropLast, ?_⟩
          have h1 := List.dropLast_concat_getLast hne
          rw [List.getLast?_eq_some_getLast hne] at hg
          injection hg with hg
          rw [hg] at h1
          exact h1.symm
        subst hl
        rw [List.dropLast_concat]
        have hlast := h.1 l.length a b (by simp)
        have hi : GapsOk a l := by
          constructor
          · intro i x y hi
            have hil := (List.getElem?_eq_some_iff.1 hi).1
            have h1 := h.1 i x y (by rw [List.getElem?_append_left hil]; exact hi)
            refine ⟨h1.1, h1.2.1, ?_⟩
            -- the last of l ends at or before a
            have aux : ∀ m i x y, m + i + 1 = l.length → l[i]? = some (x, y) → y ≤ a := by
              intro m
              induction m with
              | zero =>
                intro i x y hm hi
                have hil := (List.getElem?_eq_some_iff.1 hi).1
                exact h.2 i x y a b (by rw [List.getElem?_append_left hil]; exact hi) (by rw [List.getElem?_append_right (by omega), show i + 1 - l.length = 0 by omega]; rfl)
              | succ m ih =>
                intro i x y hm hi
                have hil := (List.getElem?_eq_some_iff.1 hi).1
                obtain ⟨⟨c, d⟩, hj⟩ : ∃ q, l[i + 1]? = some q := ⟨_, List.getElem?_eq_getElem (by omega)⟩
                have h3 := ih (i + 1) c d (by omega) hj
                have h4 := h.2 i x y c d (by rw [List.getElem?_append_left hil]; exact hi) (by rw [List.getElem?_append_left (by omega)]; exact hj)
                have h5 := h.1 (i + 1) c d (by rw [List.getElem?_append_left (by omega)]; exact hj)
                omega
            exact aux (l.length - i - 1) i x y (by omega) hi
          · intro i x y c d hi hj
            have hil := (List.getElem?_eq_some_iff.1 hi).1
            have hjl := (List.getElem?_eq_some_iff.1 hj).1
            exact h.2 i x y c d (by rw [List.getElem?_append_left hil]; exact hi) (by rw [List.getElem?_append_left hjl]; exact hj)
        exact hi.snoc hlast.1 (Int.le_refl _) (by omega)
      · exact h.snoc h0 (Int.le_refl _) (by omega)
    · exact h.snoc h0 (Int.le_refl _) (by omega)
theorem unitsG_ok {ss : List I2} : ∀ (n : Nat) (k : Int) (out : List I2), 0 ≤ k → GapsOk k out → GapsOk (k + n) (unitsG ss n k out)
  | 0, k, out, _, h => by simpa [unitsG] using h
  | n + 1, k, out, h0, h => by
    rw [unitsG, show k + ((n + 1 : Nat) : Int) = k + 1 + (n : Int) by omega]
    exact unitsG_ok n (k + 1) _ (by omega) (stepG_ok h h0)
theorem gapsL_ok (ss : List I2) {width : Int} (hw : 0 ≤ width) : GapsOk width (gapsL width ss) := by
  have := unitsG_ok (ss := ss) width.toNat 0 [] (by omega) ⟨by intro i a b h; simp at h, by intro i a b c d h; simp at h⟩
  rwa [show (0 : Int) + (width.toNat : Int) = width by omega] at this
theorem sweepG_len (width : Int) : ∀ (rs : List I2) (at_ : Int), (sweepG width at_ rs).length ≤ rs.length + 1
  | [], at_ => by rw [sweepG]; split <;> simp
  | s :: t, at_ => by
    have ih := sweepG_len width t (max at_ (hiS s))
    rw [sweepG]
    split
    · split <;> simp
    · rw [List.length_append]
      split <;> (simp; omega)
end Go.Proofs.Ytdihpllebccncaa
