/- Soundings, neighbours, spikes, cleaning: the plain functions. No program in sight. -/
import Derived.Test.YtaimckepaldocaaGreatDoorFour
import Derived.Test.YtaimckepaldocaaGreatDoorSpikeRule
namespace Go.Proofs.YtaimckepaldocaaGreatDoor
open Go.RowKit
set_option maxRecDepth 100000
set_option linter.unusedVariables false

/-! ### indices that are picked -/
def pick (p : Nat → Bool) (n : Nat) : List Int := ((List.range n).filter p).map fun (j : Nat) => (j : Int)
theorem pick_zero (p : Nat → Bool) : pick p 0 = [] := rfl
theorem pick_yes {p : Nat → Bool} {k : Nat} (h : p k = true) : pick p (k + 1) = pick p k ++ [(k : Int)] := by
  simp [pick, List.range_succ, List.filter_append, h]
theorem pick_no {p : Nat → Bool} {k : Nat} (h : p k = false) : pick p (k + 1) = pick p k := by
  simp [pick, List.range_succ, List.filter_append, h]
theorem pick_len (p : Nat → Bool) (n : Nat) : (pick p n).length ≤ n := by
  have := List.length_filter_le p (List.range n)
  simpa [pick] using this
theorem mem_pick {p : Nat → Bool} {n : Nat} {x : Int} : x ∈ pick p n ↔ ∃ j : Nat, x = j ∧ j < n ∧ p j = true := by
  simp only [pick, List.mem_map, List.mem_filter, List.mem_range]
  constructor
  · rintro ⟨j, ⟨h1, h2⟩, rfl⟩; exact ⟨j, rfl, h1, h2⟩
  · rintro ⟨j, rfl, h1, h2⟩; exact ⟨j, ⟨h1, h2⟩, rfl⟩
theorem pick_get {p : Nat → Bool} {n i : Nat} {x : Int} (h : (pick p n)[i]? = some x) : ∃ j : Nat, x = j ∧ j < n ∧ p j = true := mem_pick.1 (List.mem_of_getElem? h)
theorem pick_congr {p q : Nat → Bool} {n : Nat} (h : ∀ k, k < n → p k = q k) : pick p n = pick q n := by
  induction n with
  | zero => rfl
  | succ n ih =>
    have hn := h n (Nat.lt_succ_self n)
    have ih' := ih fun k hk => h k (Nat.lt_succ_of_lt hk)
    cases hp : p n
    · rw [pick_no hp, pick_no (hn ▸ hp), ih']
    · rw [pick_yes hp, pick_yes (hn ▸ hp), ih']
theorem filt_all (n : Nat) : (List.range n).filter (fun _ => true) = List.range n := List.filter_eq_self.2 (by simp)
theorem pick_all (n : Nat) : (pick (fun _ => true) n).length = n := by rw [pick, filt_all]; simp
theorem pick_all_get {n i : Nat} (h : i < n) : (pick (fun _ => true) n)[i]? = some (i : Int) := by rw [pick, filt_all]; simp [h]

/-! ### soundings -/
def at4 (ss : List I4) (k : Nat) : I4 := ss[k]?.getD (0, 0, 0, 0)
theorem at4_get {ss : List I4} {k : Nat} {s : I4} (h : ss[k]? = some s) : at4 ss k = s := by simp [at4, h]
def lowOf (s : I4) : Int := s.2.2.1 - s.2.2.2
def highOf (s : I4) : Int := s.2.2.1 + s.2.2.2
def sndOk (s : I4) : Bool := inR 0 10000 s.1 && inR 0 10000 s.2.1 && inR (-2000) 1000000 s.2.2.1 && inR 0 5000 s.2.2.2
def sndsOk (ss : List I4) : Bool := ss.all sndOk && decide ((ss.length : Int) ≤ 200)
theorem sndOk_bd {x y d e : Int} (h : sndOk (x, y, d, e) = true) : (0 ≤ x ∧ x ≤ 10000) ∧ (0 ≤ y ∧ y ≤ 10000) ∧ (-2000 ≤ d ∧ d ≤ 1000000) ∧ (0 ≤ e ∧ e ≤ 5000) := by
  simp only [sndOk, inR, Bool.and_eq_true, decide_eq_true_eq] at h
  omega
theorem sndsOk_get {ss : List I4} {k : Nat} {s : I4} (h : sndsOk ss = true) (hs : ss[k]? = some s) : sndOk s = true := by
  simp only [sndsOk, Bool.and_eq_true, List.all_eq_true] at h
  exact h.1 s (List.mem_of_getElem? hs)
theorem sndsOk_len {ss : List I4} {n : Nat} (h : sndsOk ss = true) (hl : ss.length = n) : n ≤ 200 := by
  simp only [sndsOk, Bool.and_eq_true, decide_eq_true_eq] at h
  omega
theorem sndsOk_big {ss : List I4} {n : Nat} (hl : ss.length = n) (h : ¬ (n : Int) ≤ 200) : sndsOk ss = false := by subst hl; simp [sndsOk, h]
theorem sndsOk_all {ss : List I4} {n : Nat} (hl : ss.length = n) (h : (n : Int) ≤ 200) : sndsOk ss = ss.all sndOk := by subst hl; simp [sndsOk, h]
theorem sq_bd {a B : Int} (h1 : -B ≤ a) (h2 : a ≤ B) (hB : 0 ≤ B) : 0 ≤ a * a ∧ a * a ≤ B * B := by
  refine ⟨?_, ?_⟩
  · rcases Int.le_total 0 a with h | h
    · exact Int.mul_nonneg h h
    · exact Int.mul_nonneg_of_nonpos_of_nonpos h h
  · rcases Int.le_total 0 a with h | h
    · exact Int.mul_le_mul h2 h2 h hB
    · have := Int.mul_le_mul (show -a ≤ B by omega) (show -a ≤ B by omega) (by omega) hB
      rwa [Int.neg_mul_neg] at this

/-- The square of the distance of two soundings is at most the square of the radius. -/
def nearQ (x y u v r : Int) : Bool := decide ((x - u) * (x - u) + (y - v) * (y - v) ≤ r * r)
theorem sq_sym (a b : Int) : (a - b) * (a - b) = (b - a) * (b - a) := by
  rw [← Int.neg_sub b a, Int.neg_mul_neg]
theorem nearQ_sym (x y u v r : Int) : nearQ x y u v r = nearQ u v x y r := by unfold nearQ; rw [sq_sym x u, sq_sym y v]
def nearB (ss : List I4) (r : Int) (i k : Nat) : Bool := decide (k ≠ i) && nearQ (at4 ss k).1 (at4 ss k).2.1 (at4 ss i).1 (at4 ss i).2.1 r
theorem nearB_sym (ss : List I4) (r : Int) (i k : Nat) : nearB ss r i k = nearB ss r k i := by
  unfold nearB; rw [nearQ_sym]; simp [eq_comm]
def nearL (ss : List I4) (r : Int) (i : Nat) : List Int := pick (nearB ss r i) ss.length

/-- Codes: 1 not valid, 2 no such index. -/
def ruleC (ss : List I4) (r l m : Int) : Int := if sndsOk ss && spikeRuleOk r l m then 0 else 1
def indexC (ss : List I4) (r l m i : Int) : Int := if sndsOk ss && spikeRuleOk r l m then (if inR 0 ((ss.length : Int) - 1) i then 0 else 2) else 1
theorem ruleC_no {ss : List I4} {r l m : Int} (h : (sndsOk ss && spikeRuleOk r l m) = false) : ruleC ss r l m = 1 := by simp [ruleC, h]
theorem ruleC_yes {ss : List I4} {r l m : Int} (h : (sndsOk ss && spikeRuleOk r l m) = true) : ruleC ss r l m = 0 := by simp [ruleC, h]
theorem indexC_no {ss : List I4} {r l m i : Int} (h : (sndsOk ss && spikeRuleOk r l m) = false) : indexC ss r l m i = 1 := by simp [indexC, h]
theorem indexC_out {ss : List I4} {r l m i : Int} (h : (sndsOk ss && spikeRuleOk r l m) = true) (hi : inR 0 ((ss.length : Int) - 1) i = false) : indexC ss r l m i = 2 := by simp [indexC, h, hi]
theorem indexC_yes {ss : List I4} {r l m i : Int} (h : (sndsOk ss && spikeRuleOk r l m) = true) (hi : inR 0 ((ss.length : Int) - 1) i = true) : indexC ss r l m i = 0 := by simp [indexC, h, hi]
theorem indexC_cases (ss : List I4) (r l m i : Int) : (indexC ss r l m i = 0 ∧ (sndsOk ss = true ∧ spikeRuleOk r l m = true) ∧ (0 ≤ i ∧ i < ss.length)) ∨ ∃ c, indexC ss r l m i = c ∧ c ≠ 0 := by
  cases h : sndsOk ss && spikeRuleOk r l m
  · exact .inr ⟨1, indexC_no h, by omega⟩
  · cases hi : inR 0 ((ss.length : Int) - 1) i
    · exact .inr ⟨2, indexC_out h hi, by omega⟩
    · refine .inl ⟨indexC_yes h hi, by simpa using h, ?_⟩
      simp only [inR, Bool.and_eq_true, decide_eq_true_eq] at hi
      omega
theorem rule_bd {r l m : Int} (h : spikeRuleOk r l m = true) : (0 ≤ r ∧ r ≤ 10000) ∧ (1 ≤ l ∧ l ≤ 200) ∧ (0 ≤ m ∧ m ≤ 1000000) := by
  simp only [spikeRuleOk, inR, Bool.and_eq_true, decide_eq_true_eq] at h
  omega

def neighboursOf (ss : List I4) (r l m i : Int) : List Int × Int := if indexC ss r l m i = 0 then (nearL ss r i.toNat, 0) else ([], indexC ss r l m i)
theorem neighboursOf_no {ss : List I4} {r l m i c : Int} (h : indexC ss r l m i = c) (hc : c ≠ 0) : neighboursOf ss r l m i = ([], c) := by simp [neighboursOf, h, hc]
theorem neighboursOf_yes {ss : List I4} {r l m i : Int} (h : indexC ss r l m i = 0) : neighboursOf ss r l m i = (nearL ss r i.toNat, 0) := by simp [neighboursOf, h]
theorem neighboursOf_len (ss : List I4) (r l m i : Int) : (neighboursOf ss r l m i).1.length ≤ ss.length := by
  unfold neighboursOf
  split
  · exact pick_len _ _
  · simp

/-- The greatest upper bound of some soundings. -/
def mostOf (ss : List I4) : Int → List Int → Int
  | b, k :: t => mostOf ss (max b (highOf (at4 ss k.toNat))) t
  | b, [] => b
def spikeMargin (ss : List I4) (r l m i : Int) : Int × Int :=
  if indexC ss r l m i = 0 then
    match nearL ss r i.toNat with
    | [] => (0, 4)
    | k :: t => (lowOf (at4 ss i.toNat) - mostOf ss (highOf (at4 ss k.toNat)) t - 1, 0)
  else (0, indexC ss r l m i)

/-! ### spikes -/
def apartB (deep : Bool) (a b c d m : Int) : Bool := if deep then decide (d + m < a) else decide (b < c - m)
def deepQ (deep : Bool) (ss : List I4) (m : Int) (i : Nat) (k : Int) : Bool := apartB deep (lowOf (at4 ss i)) (highOf (at4 ss i)) (lowOf (at4 ss k.toNat)) (highOf (at4 ss k.toNat)) m
theorem deepQ_at {deep : Bool} {ss : List I4} {m x y d e x' y' d' e' : Int} {i k : Nat} (h : ss[i]? = some (x, y, d, e)) (h' : ss[k]? = some (x', y', d', e')) : deepQ deep ss m i (k : Int) = apartB deep (d - e) (d + e) (d' - e') (d' + e') m := by
  unfold deepQ
  rw [Int.toNat_natCast, at4_get h, at4_get h']
  rfl
def spikeB (deep : Bool) (ss : List I4) (r l m : Int) (i : Nat) : Bool := decide (l ≤ ((nearL ss r i).length : Int)) && (nearL ss r i).all (deepQ deep ss m i)
def spikeL (deep : Bool) (ss : List I4) (r l m : Int) : List Int := pick (spikeB deep ss r l m) ss.length
def spikesOf (deep : Bool) (ss : List I4) (r l m : Int) : List Int × Int := if ruleC ss r l m = 0 then (spikeL deep ss r l m, 0) else ([], 1)
theorem spikesOf_len (deep : Bool) (ss : List I4) (r l m : Int) : (spikesOf deep ss r l m).1.length ≤ ss.length := by
  unfold spikesOf
  split
  · exact pick_len _ _
  · simp

/-! ### cleaning -/
def chosen (ss : List I4) (ks : List Int) : List I4 := ks.map fun k => at4 ss k.toNat
theorem chosen_length (ss : List I4) (ks : List Int) : (chosen ss ks).length = ks.length := by simp [chosen]
theorem chosen_get {ss : List I4} {ks : List Int} {i : Nat} {k : Int} (h : ks[i]? = some k) : (chosen ss ks)[i]? = some (at4 ss k.toNat) := by simp [chosen, h]
/-- The elements at the places that p names. -/
def sel (p : Nat → Bool) (ks : List Int) (n : Nat) : List Int := ((List.range n).filter p).map fun j => ks[j]?.getD 0
theorem sel_zero (p : Nat → Bool) (ks : List Int) : sel p ks 0 = [] := rfl
theorem sel_yes {p : Nat → Bool} {ks : List Int} {k : Nat} {x : Int} (h : p k = true) (hx : ks[k]? = some x) : sel p ks (k + 1) = sel p ks k ++ [x] := by
  simp [sel, List.range_succ, List.filter_append, h, hx]
theorem sel_no {p : Nat → Bool} {ks : List Int} {k : Nat} (h : p k = false) : sel p ks (k + 1) = sel p ks k := by
  simp [sel, List.range_succ, List.filter_append, h]
theorem sel_len (p : Nat → Bool) (ks : List Int) (n : Nat) : (sel p ks n).length ≤ n := by
  have := List.length_filter_le p (List.range n)
  simpa [sel] using this
theorem sel_mem {p : Nat → Bool} {ks : List Int} {n : Nat} {x : Int} (hn : n ≤ ks.length) (h : x ∈ sel p ks n) : x ∈ ks := by
  simp only [sel, List.mem_map, List.mem_filter, List.mem_range] at h
  obtain ⟨j, ⟨h1, _⟩, rfl⟩ := h
  rw [List.getElem?_eq_getElem (by omega)]
  simp
theorem sel_pick_len (p : Nat → Bool) (ks : List Int) (n : Nat) : (sel (fun i => !p i) ks n).length + (pick p n).length = n := by
  induction n with
  | zero => rfl
  | succ n ih =>
    cases hp : p n
    · rw [pick_no hp]
      simp only [sel, List.range_succ, List.filter_append, List.map_append, List.length_append] at ih ⊢
      simp [hp] at ih ⊢
      omega
    · rw [pick_yes hp, sel_no (by simp [hp])]
      simp at ih ⊢
      omega
theorem sel_all (ks : List Int) (p : Nat → Bool) : ∀ n, n ≤ ks.length → (∀ i, i < n → p i = true) → sel p ks n = ks.take n := by
  intro n
  induction n with
  | zero => intro _ _; simp [sel]
  | succ n ih =>
    intro hn hp
    have hx : ks[n]? = some ks[n] := List.getElem?_eq_getElem (by omega)
    rw [sel_yes (hp n (by omega)) hx, ih (by omega) (fun i hi => hp i (by omega)), take_snoc hx]

def onceL (ss : List I4) (r l m : Int) (ks : List Int) : List Int := sel (fun i => !spikeB true (chosen ss ks) r l m i) ks ks.length
theorem onceL_len (ss : List I4) (r l m : Int) (ks : List Int) : (onceL ss r l m ks).length ≤ ks.length := sel_len _ _ _
theorem onceL_mem {ss : List I4} {r l m : Int} {ks : List Int} {x : Int} (h : x ∈ onceL ss r l m ks) : x ∈ ks := sel_mem (Nat.le_refl _) h
theorem onceL_spikes (ss : List I4) (r l m : Int) (ks : List Int) : (onceL ss r l m ks).length + (spikeL true (chosen ss ks) r l m).length = ks.length := by
  have := sel_pick_len (spikeB true (chosen ss ks) r l m) ks ks.length
  unfold onceL spikeL
  rw [chosen_length]
  exact this
theorem onceL_same {ss : List I4} {r l m : Int} {ks : List Int} (h : (onceL ss r l m ks).length = ks.length) : onceL ss r l m ks = ks := by
  have h1 := onceL_spikes ss r l m ks
  have h2 : spikeL true (chosen ss ks) r l m = [] := List.eq_nil_of_length_eq_zero (by omega)
  have h3 : ∀ i, i < ks.length → (fun i => !spikeB true (chosen ss ks) r l m i) i = true := by
    intro i hi
    cases hb : spikeB true (chosen ss ks) r l m i
    · simp [hb]
    · have : (i : Int) ∈ spikeL true (chosen ss ks) r l m := mem_pick.2 ⟨i, rfl, by rw [chosen_length]; exact hi, hb⟩
      rw [h2] at this
      simp at this
  unfold onceL
  rw [sel_all ks _ _ (Nat.le_refl _) h3, List.take_length]

/-- Drops deep spikes until there is none, at most so often. -/
def cleanF (ss : List I4) (r l m : Int) : Nat → List Int → Int → List Int × Int
  | 0, ks, c => (ks, c)
  | f + 1, ks, c => if (onceL ss r l m ks).length = ks.length then (ks, c) else cleanF ss r l m f (onceL ss r l m ks) (c + 1)
theorem cleanF_stop {ss : List I4} {r l m : Int} {ks : List Int} (h : (onceL ss r l m ks).length = ks.length) (f : Nat) (c : Int) : cleanF ss r l m f ks c = (ks, c) := by
  cases f with
  | zero => rfl
  | succ f => simp [cleanF, h]
theorem cleanF_go {ss : List I4} {r l m : Int} {ks : List Int} (h : (onceL ss r l m ks).length ≠ ks.length) (f : Nat) (c : Int) : cleanF ss r l m (f + 1) ks c = cleanF ss r l m f (onceL ss r l m ks) (c + 1) := by
  simp [cleanF, h]
theorem onceL_nil (ss : List I4) (r l m : Int) : onceL ss r l m [] = [] := rfl
/-- More rounds than elements change nothing. -/
theorem cleanF_enough {ss : List I4} {r l m : Int} : ∀ (f g : Nat) (ks : List Int) (c : Int), ks.length ≤ f → ks.length ≤ g → cleanF ss r l m f ks c = cleanF ss r l m g ks c := by
  intro f
  induction f with
  | zero =>
    intro g ks c hf _
    have : ks = [] := List.eq_nil_of_length_eq_zero (by omega)
    subst this
    rw [cleanF_stop (by simp [onceL_nil]), cleanF_stop (by simp [onceL_nil])]
  | succ f ih =>
    intro g ks c hf hg
    by_cases h : (onceL ss r l m ks).length = ks.length
    · rw [cleanF_stop h, cleanF_stop h]
    · have hl := onceL_len ss r l m ks
      cases g with
      | zero =>
        have : ks = [] := List.eq_nil_of_length_eq_zero (by omega)
        subst this
        exact absurd (by simp [onceL_nil]) h
      | succ g => rw [cleanF_go h, cleanF_go h]; exact ih g _ _ (by omega) (by omega)
theorem cleanF_len {ss : List I4} {r l m : Int} : ∀ (f : Nat) (ks : List Int) (c : Int), (cleanF ss r l m f ks c).1.length ≤ ks.length := by
  intro f
  induction f with
  | zero => intro ks c; exact Nat.le_refl _
  | succ f ih =>
    intro ks c
    by_cases h : (onceL ss r l m ks).length = ks.length
    · rw [cleanF_stop h]; exact Nat.le_refl _
    · rw [cleanF_go h]; exact Nat.le_trans (ih _ _) (onceL_len _ _ _ _ _)
def allL (ss : List I4) : List Int := pick (fun _ => true) ss.length
def cleanL (ss : List I4) (r l m : Int) : List Int × Int := cleanF ss r l m 200 (allL ss) 0
theorem allL_length (ss : List I4) : (allL ss).length = ss.length := pick_all _
/-- Indices that name soundings. -/
def Idx (ss : List I4) (ks : List Int) : Prop := ∀ x ∈ ks, ∃ j : Nat, x = j ∧ j < ss.length
theorem Idx.all (ss : List I4) : Idx ss (allL ss) := fun x hx => by obtain ⟨j, h1, h2, _⟩ := mem_pick.1 hx; exact ⟨j, h1, h2⟩
theorem Idx.once {ss : List I4} {r l m : Int} {ks : List Int} (h : Idx ss ks) : Idx ss (onceL ss r l m ks) := fun x hx => h x (onceL_mem hx)
theorem Idx.get {ss : List I4} {ks : List Int} {i : Nat} {x : Int} (h : Idx ss ks) (hx : ks[i]? = some x) : ∃ j : Nat, x = j ∧ j < ss.length := h x (List.mem_of_getElem? hx)
theorem Idx.ok {ss : List I4} {ks : List Int} (h : Idx ss ks) (hs : sndsOk ss = true) (hl : ks.length ≤ 200) : sndsOk (chosen ss ks) = true := by
  simp only [sndsOk, Bool.and_eq_true, List.all_eq_true, decide_eq_true_eq, chosen_length] at hs ⊢
  refine ⟨fun s hm => ?_, by omega⟩
  simp only [chosen, List.mem_map] at hm
  obtain ⟨x, hx, rfl⟩ := hm
  obtain ⟨j, rfl, hj⟩ := h x hx
  rw [at4_get (List.getElem?_eq_getElem (show ((j : Nat) : Int).toNat < ss.length by simpa using hj))]
  exact hs.1 _ (List.getElem_mem _)

def keptSoundings (ss : List I4) (r l m : Int) : List Int × Int := if ruleC ss r l m = 0 then ((cleanL ss r l m).1, 0) else ([], 1)
def cleanOnce (ss : List I4) (r l m : Int) : List I4 × Int := if ruleC ss r l m = 0 then (chosen ss (onceL ss r l m (allL ss)), 0) else ([], 1)
def cleanSoundings (ss : List I4) (r l m : Int) : List I4 × Int × Int := if ruleC ss r l m = 0 then (chosen ss (cleanL ss r l m).1, (cleanL ss r l m).2, 0) else ([], 0, 1)
theorem cleanL_len (ss : List I4) (r l m : Int) : (cleanL ss r l m).1.length ≤ ss.length := by
  have := cleanF_len (ss := ss) (r := r) (l := l) (m := m) 200 (allL ss) 0
  rwa [allL_length] at this
end Go.Proofs.YtaimckepaldocaaGreatDoor
