/- Stuffing bits and back, by both programs. -/
import Derived.Test.YtmljcbfpennjkaaLib
namespace Go.Proofs.Ytmljcbfpennjkaa
open Go.RowKit
set_option maxRecDepth 100000
set_option linter.unusedVariables false

def ons (o : Nat) (b : Int) : Nat := if b = 0 then 0 else o + 1
def stuffL : Nat → List Int → List Int
  | _, [] => []
  | o, b :: t => if ons o b = 5 then b :: 0 :: stuffL 0 t else b :: stuffL (ons o b) t
theorem stuffL_len : ∀ (o : Nat) (xs : List Int), (stuffL o xs).length ≤ 2 * xs.length
  | _, [] => by simp [stuffL]
  | o, b :: t => by
    have h1 := stuffL_len 0 t
    have h2 := stuffL_len (ons o b) t
    rw [stuffL]
    split <;> simp <;> omega
def unstL : Nat → List Int → Option (List Int)
  | o, [] => if o < 5 then some [] else none
  | o, b :: t => if o = 5 then (if b = 1 then none else unstL 0 t) else (unstL (ons o b) t).map (b :: ·)
theorem unstL_len : ∀ (o : Nat) (xs ys : List Int), unstL o xs = some ys → ys.length ≤ xs.length
  | o, [], ys, h => by
    rw [unstL] at h
    split at h
    · injection h with h; subst h; simp
    · cases h
  | o, b :: t, ys, h => by
    rw [unstL] at h
    split at h
    · split at h
      · cases h
      · have := unstL_len 0 t ys h; simp; omega
    · cases hu : unstL (ons o b) t with
      | none => rw [hu] at h; cases h
      | some zs =>
        rw [hu] at h
        injection h with h
        have := unstL_len _ t zs hu
        subst h; simp; omega

def StInv (xs : List Int) (k o : Nat) (acc : List Int) : Prop := acc ++ stuffL o (xs.drop k) = stuffL 0 xs ∧ acc.length ≤ 2 * k ∧ o ≤ 4
theorem StInv.start (xs : List Int) : StInv xs 0 0 [] := ⟨rfl, by simp, by omega⟩
theorem StInv.zero {xs acc : List Int} {k o : Nat} (h : StInv xs k o acc) (hx : xs[k]? = some 0) : StInv xs (k + 1) 0 (acc ++ [0]) := by
  obtain ⟨h1, h2, h3⟩ := h
  refine ⟨?_, by simp; omega, by omega⟩
  rw [← h1, drop_at hx, stuffL, if_neg (by simp [ons])]
  simp [ons]
theorem StInv.one {xs acc : List Int} {k o : Nat} {b : Int} (h : StInv xs k o acc) (hx : xs[k]? = some b) (hb : b ≠ 0) (ho : o ≠ 4) : StInv xs (k + 1) (o + 1) (acc ++ [b]) := by
  obtain ⟨h1, h2, h3⟩ := h
  refine ⟨?_, by simp; omega, by omega⟩
  rw [← h1, drop_at hx, stuffL, if_neg (by simp [ons, hb]; omega)]
  simp [ons, hb]
theorem StInv.five {xs acc : List Int} {k o : Nat} {b : Int} (h : StInv xs k o acc) (hx : xs[k]? = some b) (hb : b ≠ 0) (ho : o = 4) : StInv xs (k + 1) 0 ((acc ++ [b]) ++ [0]) := by
  obtain ⟨h1, h2, h3⟩ := h
  refine ⟨?_, by simp; omega, by omega⟩
  rw [← h1, drop_at hx, stuffL, if_pos (by simp [ons, hb]; omega)]
  simp
theorem StInv.done {xs acc : List Int} {k n o : Nat} (h : StInv xs k o acc) (hl : xs.length = n) (hk : ¬ k < n) : stuffL 0 xs = acc := by
  rw [← h.1, List.drop_of_length_le (by omega)]; simp [stuffL]

theorem stuff_any (a : Option Addr) (n c : Nat) (xs : List Int) (w : World) (h : Row w 1 a n (ints xs)) (hn : n ≤ 2000) :
    Calls Try.prog 75 #[.slice a n c] w fun e w' => ∃ a' m c', e = .returned (.slice a' m c') ∧ Own w' w.heap.size w'.heap.size 2 1 a' m c' (ints (stuffL 0 xs)) ∧ Below w.heap.size w w' := by
  have hxl := h.len
  go_enter Try.func75, Try.ntmps75
  go_wp2
  go_loopw [3, 4, 9] (fun l p i wr => ∃ (k o : Nat) (a' : Option Addr) (m cp : Nat) (acc : List Int), k ≤ n ∧ i = .int .i64 k ∧ p = .int .i64 o ∧ l = .slice a' m cp ∧ Own wr w.heap.size wr.heap.size 2 1 a' m cp (ints acc) ∧ Hid (StInv xs k o acc) ∧ Below w.heap.size w wr) (fun _ _ i _ => n - (intOf i).toNat)
  case atStart => exact ⟨0, 0, _, 0, 0, [], Nat.zero_le _, rfl, rfl, rfl, Own.nil_ _ _ _ _ _, StInv.start _, Below.refl _ _⟩
  case round =>
    obtain ⟨k, o, a', m, cp, acc, hk, rfl, rfl, rfl, hown, hinv, hbel⟩ := hrel
    have hm : m ≤ 2 * k := by have := hown.row.len; have := hinv.out.2.1; omega
    have ho4 : o ≤ 4 := hinv.out.2.2
    by_cases hlt : k < n
    · obtain ⟨b, off, x, rfl, hc, hx⟩ := (h.below hbel (Nat.le_refl _)).at_ hlt
      by_cases h0 : x = 0
      · subst h0
        go_wp2_with (at_builtin; refine wpList_app _ rfl (.tmp 13) (.tmp 15) _ rfl Try.underlying22 info_i64 rfl (by decide) rfl (hown.alloc _) rfl (Row.one _ _ _) (ints_one [0]) (by decide) (by simp only [maxLen]; omega) (by omega) (by have := hbel.size; simp; omega) ?_; intro A3 c3 w3 hown3 hb3 _)
        go_roundw
        case rel => exact ⟨k + 1, 0, _, _, _, acc ++ [0], by omega, by go_num, rfl, rfl, by rw [ints_app]; exact hown3, hinv.out.zero hx.out, (hbel.alloc hbel.size _).trans hb3⟩
        case measure => simp [intOf]; omega
      have hx0 : (x == 0) = false := by simpa using h0
      by_cases h4 : o = 4
      · have h5 : ((o : Int) + 1 == 5) = true := by simp; omega
        go_wp2_with (first | (at_builtin; refine wpList_app _ rfl (.tmp 13) (.tmp 15) _ rfl Try.underlying22 info_i64 rfl (by decide) rfl (hown.alloc _) rfl (Row.one _ _ _) (ints_one [x]) (by decide) (by simp only [maxLen]; omega) (by omega) (by have := hbel.size; simp; omega) ?_; intro A3 c3 w3 hown3 hb3 _) | (at_builtin; refine wpList_app _ rfl (.tmp 23) (.tmp 24) _ rfl Try.underlying22 info_i64 rfl (by decide) rfl (hown3.alloc _) rfl (Row.one _ _ _) (ints_one [0]) (by decide) (by simp only [maxLen]; omega) (by omega) (by have := hbel.size; have := hb3.size; simp at this ⊢; omega) ?_; intro A4 c4 w4 hown4 hb4 _))
        go_roundw
        case rel => exact ⟨k + 1, 0, _, _, _, (acc ++ [x]) ++ [0], by omega, by go_num, rfl, rfl, by rw [ints_app, ints_app]; exact hown4, hinv.out.five hx.out h0 h4, ((((hbel.alloc hbel.size _).trans hb3).alloc (by have := hbel.size; have := hb3.size; simp at this ⊢; omega) _).trans hb4)⟩
        case measure => simp [intOf]; omega
      · have h5 : ((o : Int) + 1 == 5) = false := by simp; omega
        go_wp2_with (at_builtin; refine wpList_app _ rfl (.tmp 13) (.tmp 15) _ rfl Try.underlying22 info_i64 rfl (by decide) rfl (hown.alloc _) rfl (Row.one _ _ _) (ints_one [x]) (by decide) (by simp only [maxLen]; omega) (by omega) (by have := hbel.size; simp; omega) ?_; intro A3 c3 w3 hown3 hb3 _)
        go_roundw
        case rel => exact ⟨k + 1, o + 1, _, _, _, acc ++ [x], by omega, by go_num, by go_num, rfl, by rw [ints_app]; exact hown3, hinv.out.one hx.out h0 h4, (hbel.alloc hbel.size _).trans hb3⟩
        case measure => simp [intOf]; omega
    · go_wp2
      go_ret
      rw [hinv.out.done hxl hlt]
      exact ⟨_, _, _, rfl, hown, hbel⟩

theorem l25Stuff_any (a : Option Addr) (n c : Nat) (xs : List Int) (w : World) (h : Row w 1 a n (ints xs)) (hn : n ≤ 2000) :
    Calls Try.prog 71 #[.slice a n c] w fun e w' => ∃ a' m c', e = .returned (.slice a' m c') ∧ Own w' w.heap.size w'.heap.size 2 1 a' m c' (ints (stuffL 0 xs)) ∧ Below w.heap.size w w' := by
  have hxl := h.len
  go_enter Try.func71, Try.ntmps71
  go_wp2
  go_loopw [3, 4, 5] (fun l p i wr => ∃ (k o : Nat) (a' : Option Addr) (m cp : Nat) (acc : List Int), k ≤ n ∧ i = .int .i64 k ∧ p = .int .i64 o ∧ l = .slice a' m cp ∧ Own wr w.heap.size wr.heap.size 2 1 a' m cp (ints acc) ∧ Hid (StInv xs k o acc) ∧ Below w.heap.size w wr) (fun _ _ i _ => n - (intOf i).toNat)
  case atStart => exact ⟨0, 0, _, 0, 0, [], Nat.zero_le _, rfl, rfl, rfl, (Own.lit0 _ _ _).mono (Nat.le_refl _) (by simp), StInv.start _, (Below.refl _ _).alloc (Nat.le_refl _) _⟩
  case round =>
    obtain ⟨k, o, a', m, cp, acc, hk, rfl, rfl, rfl, hown, hinv, hbel⟩ := hrel
    have hm : m ≤ 2 * k := by have := hown.row.len; have := hinv.out.2.1; omega
    have ho4 : o ≤ 4 := hinv.out.2.2
    by_cases hlt : k < n
    · have hrow := h.below hbel (Nat.le_refl _)
      obtain ⟨b, off, x, rfl, hc, hx⟩ := hrow.at_ hlt
      by_cases h0 : x = 0
      · subst h0
        go_wp2_with (at_builtin; refine wpList_app _ rfl (.tmp 13) (.tmp 18) _ rfl Try.underlying22 info_i64 rfl (by decide) rfl (hown.alloc _) rfl (Row.one _ _ _) (ints_one [0]) (by decide) (by simp only [maxLen]; omega) (by omega) (by have := hbel.size; simp; omega) ?_; intro A3 c3 w3 hown3 hb3 _; have hc3 := (h.below ((hbel.alloc hbel.size _).trans hb3) (Nat.le_refl _)).get_ hx.out)
        go_roundw
        case rel => exact ⟨k + 1, 0, _, _, _, acc ++ [0], by omega, by go_num, rfl, rfl, by rw [ints_app]; exact hown3, hinv.out.zero hx.out, (hbel.alloc hbel.size _).trans hb3⟩
        case measure => simp [intOf]; omega
      have hx0 : (x == 0) = false := by simpa using h0
      by_cases h4 : o = 4
      · have h5 : ((o : Int) + 1 == 5) = true := by simp; omega
        go_wp2_with (first | (at_builtin; refine wpList_app _ rfl (.tmp 13) (.tmp 18) _ rfl Try.underlying22 info_i64 rfl (by decide) rfl (hown.alloc _) rfl (Row.one _ _ _) (ints_one [x]) (by decide) (by simp only [maxLen]; omega) (by omega) (by have := hbel.size; simp; omega) ?_; intro A3 c3 w3 hown3 hb3 _; have hc3 := (h.below ((hbel.alloc hbel.size _).trans hb3) (Nat.le_refl _)).get_ hx.out) | (at_builtin; refine wpList_app _ rfl (.tmp 29) (.tmp 30) _ rfl Try.underlying22 info_i64 rfl (by decide) rfl (hown3.alloc _) rfl (Row.one _ _ _) (ints_one [0]) (by decide) (by simp only [maxLen]; omega) (by omega) (by have := hbel.size; have := hb3.size; simp at this ⊢; omega) ?_; intro A4 c4 w4 hown4 hb4 _))
        go_roundw
        case rel => exact ⟨k + 1, 0, _, _, _, (acc ++ [x]) ++ [0], by omega, by go_num, rfl, rfl, by rw [ints_app, ints_app]; exact hown4, hinv.out.five hx.out h0 h4, ((((hbel.alloc hbel.size _).trans hb3).alloc (by have := hbel.size; have := hb3.size; simp at this ⊢; omega) _).trans hb4)⟩
        case measure => simp [intOf]; omega
      · have h5 : ((o : Int) + 1 == 5) = false := by simp; omega
        go_wp2_with (at_builtin; refine wpList_app _ rfl (.tmp 13) (.tmp 18) _ rfl Try.underlying22 info_i64 rfl (by decide) rfl (hown.alloc _) rfl (Row.one _ _ _) (ints_one [x]) (by decide) (by simp only [maxLen]; omega) (by omega) (by have := hbel.size; simp; omega) ?_; intro A3 c3 w3 hown3 hb3 _; have hc3 := (h.below ((hbel.alloc hbel.size _).trans hb3) (Nat.le_refl _)).get_ hx.out)
        go_roundw
        case rel => exact ⟨k + 1, o + 1, _, _, _, acc ++ [x], by omega, by go_num, by go_num, rfl, by rw [ints_app]; exact hown3, hinv.out.one hx.out h0 h4, (hbel.alloc hbel.size _).trans hb3⟩
        case measure => simp [intOf]; omega
    · go_wp2
      go_ret
      rw [hinv.out.done hxl hlt]
      exact ⟨_, _, _, rfl, hown, hbel⟩

def stuffBits (xs : List Int) : List Int × Int := if !(listOk 1200 0 1 xs) then ([], 1) else if 1200 < (stuffL 0 xs).length then ([], 3) else (stuffL 0 xs, 0)
theorem stuffBits_no {xs : List Int} (h : listOk 1200 0 1 xs = false) : stuffBits xs = ([], 1) := by simp [stuffBits, h]
theorem stuffBits_out {xs : List Int} (h : listOk 1200 0 1 xs = true) (h2 : 1200 < (stuffL 0 xs).length) : stuffBits xs = ([], 3) := by simp [stuffBits, h, h2]
theorem stuffBits_yes {xs : List Int} (h : listOk 1200 0 1 xs = true) (h2 : ¬ 1200 < (stuffL 0 xs).length) : stuffBits xs = (stuffL 0 xs, 0) := by simp only [stuffBits, h, h2]; rfl
theorem stuffBits_len (xs : List Int) : (stuffBits xs).1.length ≤ 1200 := by
  unfold stuffBits
  split
  · simp
  · split
    · simp
    · simp only; omega

/-! ### back -/
def UsInv (xs : List Int) (k o : Nat) (acc : List Int) : Prop := (unstL o (xs.drop k)).map (acc ++ ·) = unstL 0 xs ∧ acc.length ≤ k ∧ o ≤ 5
theorem UsInv.start (xs : List Int) : UsInv xs 0 0 [] := ⟨by cases h : unstL 0 (xs.drop 0) <;> simp_all, by simp, by omega⟩
theorem UsInv.bad {xs acc : List Int} {k : Nat} (h : UsInv xs k 5 acc) (hx : xs[k]? = some 1) : unstL 0 xs = none := by
  rw [← h.1, drop_at hx, unstL]; simp
theorem UsInv.skip {xs acc : List Int} {k : Nat} {b : Int} (h : UsInv xs k 5 acc) (hx : xs[k]? = some b) (hb : b ≠ 1) : UsInv xs (k + 1) 0 acc := by
  refine ⟨?_, by have := h.2.1; omega, by omega⟩
  rw [← h.1, drop_at hx, unstL]; simp [hb]
theorem UsInv.step {xs acc : List Int} {k o : Nat} {b : Int} (h : UsInv xs k o acc) (hx : xs[k]? = some b) (ho : o ≠ 5) : UsInv xs (k + 1) (ons o b) (acc ++ [b]) := by
  refine ⟨?_, by have := h.2.1; simp; omega, by have := h.2.2; unfold ons; split <;> omega⟩
  rw [← h.1, drop_at hx, unstL, if_neg ho, Option.map_map]
  congr 1
  funext ys
  simp
theorem UsInv.done {xs acc : List Int} {k n o : Nat} (h : UsInv xs k o acc) (hl : xs.length = n) (hk : ¬ k < n) : unstL 0 xs = if o < 5 then some acc else none := by
  rw [← h.1, List.drop_of_length_le (by omega), unstL]
  split <;> simp
def unstOk (xs : List Int) : Bool := (unstL 0 xs).isSome

theorem unstuff_any (a : Option Addr) (n c : Nat) (xs : List Int) (w : World) (h : Row w 1 a n (ints xs)) (hn : n ≤ 1200) (hb : listOk 1200 0 1 xs = true) :
    Calls Try.prog 80 #[.slice a n c] w fun e w' => ∃ a' m c' ys, e = .returned (.tuple #[.slice a' m c', .bool (unstOk xs)]) ∧ Own w' w.heap.size w'.heap.size 2 1 a' m c' (ints ys) ∧ Hid (∀ zs, unstL 0 xs = some zs → ys = zs) ∧ Below w.heap.size w w' := by
  have hxl := h.len
  unfold unstOk
  generalize hres : unstL 0 xs = res
  replace hres := Lib.hid hres
  go_enter Try.func80, Try.ntmps80
  go_wp2
  go_loopw [4, 5, 10] (fun l p i wr => ∃ (k o : Nat) (a' : Option Addr) (m cp : Nat) (acc : List Int), k ≤ n ∧ i = .int .i64 k ∧ p = .int .i64 o ∧ l = .slice a' m cp ∧ Own wr w.heap.size wr.heap.size 2 1 a' m cp (ints acc) ∧ Hid (UsInv xs k o acc) ∧ Below w.heap.size w wr) (fun _ _ i _ => n - (intOf i).toNat)
  case atStart => exact ⟨0, 0, _, 0, 0, [], Nat.zero_le _, rfl, rfl, rfl, Own.nil_ _ _ _ _ _, UsInv.start _, Below.refl _ _⟩
  case round =>
    obtain ⟨k, o, a', m, cp, acc, hk, rfl, rfl, rfl, hown, hinv, hbel⟩ := hrel
    have hm : m ≤ k := by have := hown.row.len; have := hinv.out.2.1; omega
    have ho5 : o ≤ 5 := hinv.out.2.2
    by_cases hlt : k < n
    · obtain ⟨b, off, x, rfl, hc, hx⟩ := (h.below hbel (Nat.le_refl _)).at_ hlt
      obtain ⟨hx0, hx1⟩ := listOk_get hb hx.out
      by_cases h5 : o = 5
      · subst h5
        by_cases h1 : x = 1
        · subst h1
          go_wp2
          go_ret2
          have hno := hres.out.symm.trans (hinv.out.bad hx.out)
          exact ⟨_, _, _, [], by rw [hno]; rfl, Own.nil_ _ _ _ _ _, (by unfold Hid; intro zs hz; rw [hno] at hz; cases hz), hbel⟩
        · have h12 : (x == 1) = false := by simpa using h1
          go_wp2
          go_roundw
          case rel => exact ⟨k + 1, 0, _, _, _, acc, by omega, by go_num, rfl, rfl, hown, hinv.out.skip hx.out h1, hbel⟩
          case measure => simp [intOf]; omega
      have h51 : ((o : Int) == 5) = false := by simp; omega
      by_cases h1 : x = 1
      · subst h1
        go_wp2_with (at_builtin; refine wpList_app _ rfl (.tmp 29) (.tmp 31) _ rfl Try.underlying22 info_i64 rfl (by decide) rfl (hown.alloc _) rfl (Row.one _ _ _) (ints_one [1]) (by decide) (by simp only [maxLen]; omega) (by omega) (by have := hbel.size; simp; omega) ?_; intro A3 c3 w3 hown3 hb3 _)
        go_roundw
        case rel => exact ⟨k + 1, o + 1, _, _, _, acc ++ [1], by omega, by go_num, by go_num, rfl, by rw [ints_app]; exact hown3, hinv.out.step hx.out h5, (hbel.alloc hbel.size _).trans hb3⟩
        case measure => simp [intOf]; omega
      · have h12 : (x == 1) = false := by simpa using h1
        obtain rfl : x = 0 := by omega
        go_wp2_with (at_builtin; refine wpList_app _ rfl (.tmp 29) (.tmp 31) _ rfl Try.underlying22 info_i64 rfl (by decide) rfl (hown.alloc _) rfl (Row.one _ _ _) (ints_one [0]) (by decide) (by simp only [maxLen]; omega) (by omega) (by have := hbel.size; simp; omega) ?_; intro A3 c3 w3 hown3 hb3 _)
        go_roundw
        case rel => exact ⟨k + 1, 0, _, _, _, acc ++ [0], by omega, by go_num, rfl, rfl, by rw [ints_app]; exact hown3, (by have := hinv.out.step hx.out h5; rwa [show ons o 0 = 0 by simp [ons]] at this), (hbel.alloc hbel.size _).trans hb3⟩
        case measure => simp [intOf]; omega
    · have hd := hres.out.symm.trans (hinv.out.done hxl hlt)
      by_cases h5 : o < 5
      · have h52 : (o : Int) < 5 := by omega
        rw [if_pos h5] at hd
        replace hd := Lib.hid hd
        go_wp2
        go_ret2
        exact ⟨_, _, _, acc, by rw [hd.out]; rfl, hown, (by unfold Hid; intro zs hz; rw [hd.out] at hz; injection hz), hbel⟩
      · have h52 : ¬ (o : Int) < 5 := by omega
        rw [if_neg h5] at hd
        replace hd := Lib.hid hd
        go_wp2
        go_ret2
        refine ⟨a', m, cp, ?_⟩
        first
          | exact ⟨acc, by rw [hd.out]; rfl, hown, (by unfold Hid; intro zs hz; rw [hd.out] at hz; cases hz), hbel⟩
          | exact ⟨by rw [hd.out]; rfl, acc, hown, (by unfold Hid; intro zs hz; rw [hd.out] at hz; cases hz), hbel⟩

theorem l25Unstuff_any (a : Option Addr) (n c : Nat) (xs : List Int) (w : World) (h : Row w 1 a n (ints xs)) (hn : n ≤ 1200) (hb : listOk 1200 0 1 xs = true) :
    Calls Try.prog 76 #[.slice a n c] w fun e w' => ∃ a' m c' ys, e = .returned (.tuple #[.slice a' m c', .bool (unstOk xs)]) ∧ Own w' w.heap.size w'.heap.size 2 1 a' m c' (ints ys) ∧ Hid (∀ zs, unstL 0 xs = some zs → ys = zs) ∧ Below w.heap.size w w' := by
  have hxl := h.len
  unfold unstOk
  generalize hres : unstL 0 xs = res
  replace hres := Lib.hid hres
  go_enter Try.func76, Try.ntmps76
  go_wp2
  go_loopw [4, 5, 6] (fun l p i wr => ∃ (k o : Nat) (a' : Option Addr) (m cp : Nat) (acc : List Int), k ≤ n ∧ i = .int .i64 k ∧ p = .int .i64 o ∧ l = .slice a' m cp ∧ Own wr w.heap.size wr.heap.size 2 1 a' m cp (ints acc) ∧ Hid (UsInv xs k o acc) ∧ Below w.heap.size w wr) (fun _ _ i _ => n - (intOf i).toNat)
  case atStart => exact ⟨0, 0, _, 0, 0, [], Nat.zero_le _, rfl, rfl, rfl, (Own.lit0 _ _ _).mono (Nat.le_refl _) (by simp), UsInv.start _, (Below.refl _ _).alloc (Nat.le_refl _) _⟩
  case round =>
    obtain ⟨k, o, a', m, cp, acc, hk, rfl, rfl, rfl, hown, hinv, hbel⟩ := hrel
    have hm : m ≤ k := by have := hown.row.len; have := hinv.out.2.1; omega
    have ho5 : o ≤ 5 := hinv.out.2.2
    by_cases hlt : k < n
    · obtain ⟨b, off, x, rfl, hc, hx⟩ := (h.below hbel (Nat.le_refl _)).at_ hlt
      obtain ⟨hx0, hx1⟩ := listOk_get hb hx.out
      by_cases h5 : o = 5
      · subst h5
        by_cases h1 : x = 1
        · subst h1
          go_wp2
          go_ret2
          have hno := hres.out.symm.trans (hinv.out.bad hx.out)
          exact ⟨_, _, _, [], by rw [hno]; rfl, Own.nil_ _ _ _ _ _, (by unfold Hid; intro zs hz; rw [hno] at hz; cases hz), hbel⟩
        · have h12 : (x == 1) = false := by simpa using h1
          go_wp2
          go_roundw
          case rel => exact ⟨k + 1, 0, _, _, _, acc, by omega, by go_num, rfl, rfl, hown, hinv.out.skip hx.out h1, hbel⟩
          case measure => simp [intOf]; omega
      have h51 : ((o : Int) == 5) = false := by simp; omega
      by_cases h1 : x = 0
      · subst h1
        go_wp2_with (at_builtin; refine wpList_app _ rfl (.tmp 21) (.tmp 26) _ rfl Try.underlying22 info_i64 rfl (by decide) rfl (hown.alloc _) rfl (Row.one _ _ _) (ints_one [0]) (by decide) (by simp only [maxLen]; omega) (by omega) (by have := hbel.size; simp; omega) ?_; intro A3 c3 w3 hown3 hb3 _; have hc3 := (h.below ((hbel.alloc hbel.size _).trans hb3) (Nat.le_refl _)).get_ hx.out)
        go_roundw
        case rel => exact ⟨k + 1, 0, _, _, _, acc ++ [0], by omega, by go_num, rfl, rfl, by rw [ints_app]; exact hown3, (by have := hinv.out.step hx.out h5; rwa [show ons o 0 = 0 by simp [ons]] at this), (hbel.alloc hbel.size _).trans hb3⟩
        case measure => simp [intOf]; omega
      · have h12 : (x == 0) = false := by simpa using h1
        go_wp2_with (at_builtin; refine wpList_app _ rfl (.tmp 21) (.tmp 26) _ rfl Try.underlying22 info_i64 rfl (by decide) rfl (hown.alloc _) rfl (Row.one _ _ _) (ints_one [x]) (by decide) (by simp only [maxLen]; omega) (by omega) (by have := hbel.size; simp; omega) ?_; intro A3 c3 w3 hown3 hb3 _; have hc3 := (h.below ((hbel.alloc hbel.size _).trans hb3) (Nat.le_refl _)).get_ hx.out)
        go_roundw
        case rel => exact ⟨k + 1, o + 1, _, _, _, acc ++ [x], by omega, by go_num, by go_num, rfl, by rw [ints_app]; exact hown3, (by have := hinv.out.step hx.out h5; rwa [show ons o x = o + 1 by simp [ons, h1]] at this), (hbel.alloc hbel.size _).trans hb3⟩
        case measure => simp [intOf]; omega
    · have hd := hres.out.symm.trans (hinv.out.done hxl hlt)
      by_cases h5 : o < 5
      · have h52 : (o : Int) < 5 := by omega
        rw [if_pos h5] at hd
        replace hd := Lib.hid hd
        go_wp2
        go_ret2
        exact ⟨_, _, _, acc, by rw [hd.out]; rfl, hown, (by unfold Hid; intro zs hz; rw [hd.out] at hz; injection hz), hbel⟩
      · have h52 : ¬ (o : Int) < 5 := by omega
        rw [if_neg h5] at hd
        replace hd := Lib.hid hd
        go_wp2
        go_ret2
        refine ⟨a', m, cp, ?_⟩
        first
          | exact ⟨acc, by rw [hd.out]; rfl, hown, (by unfold Hid; intro zs hz; rw [hd.out] at hz; cases hz), hbel⟩
          | exact ⟨by rw [hd.out]; rfl, acc, hown, (by unfold Hid; intro zs hz; rw [hd.out] at hz; cases hz), hbel⟩

def unstuffBits (xs : List Int) : List Int × Int := if !(listOk 1200 0 1 xs) then ([], 1) else match unstL 0 xs with | some ys => (ys, 0) | none => ([], 6)
theorem unstuffBits_no {xs : List Int} (h : listOk 1200 0 1 xs = false) : unstuffBits xs = ([], 1) := by simp [unstuffBits, h]
theorem unstuffBits_out {xs : List Int} (h : listOk 1200 0 1 xs = true) (h2 : unstL 0 xs = none) : unstuffBits xs = ([], 6) := by simp [unstuffBits, h, h2]
theorem unstuffBits_yes {xs ys : List Int} (h : listOk 1200 0 1 xs = true) (h2 : unstL 0 xs = some ys) : unstuffBits xs = (ys, 0) := by simp [unstuffBits, h, h2]
theorem unstuffBits_len (xs : List Int) : (unstuffBits xs).1.length ≤ 1200 := by
  unfold unstuffBits
  split
  · simp
  · rename_i h
    simp at h
    have := listOk_le h rfl
    split
    · rename_i ys hy
      have := unstL_len 0 xs ys hy
      simp only; omega
    · simp