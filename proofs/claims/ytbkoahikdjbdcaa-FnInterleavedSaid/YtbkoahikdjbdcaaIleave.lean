/- Interleaving and sorting back, by both programs. -/
import Derived.Test.YtbkoahikdjbdcaaPlaces
import Derived.Test.YtbkoahikdjbdcaaLib
namespace Go.Proofs.Ytbkoahikdjbdcaa
open Go.RowKit
set_option maxRecDepth 100000
set_option linter.unusedVariables false

/-- The index from which bit t comes. -/
def plc (R C t : Nat) : Nat := (t % R) * C + t / R
theorem plc_lt {R C t : Nat} (h : t < C * R) : plc R C t < R * C := by
  have hR : 0 < R := by
    rcases Nat.eq_zero_or_pos R with h0 | h0
    · subst h0; omega
    · exact h0
  have h1 : t % R < R := Nat.mod_lt _ hR
  have h2 : t / R < C := Nat.div_lt_of_lt_mul (by rw [Nat.mul_comm]; exact h)
  unfold plc
  calc (t % R) * C + t / R < (t % R) * C + C := by omega
    _ = (t % R + 1) * C := by rw [Nat.succ_mul]
    _ ≤ R * C := Nat.mul_le_mul_right _ h1
theorem plc_inv {R C t : Nat} (h : t < C * R) : plc C R (plc R C t) = t := by
  have hR : 0 < R := by
    rcases Nat.eq_zero_or_pos R with h0 | h0
    · subst h0; omega
    · exact h0
  have h2 : t / R < C := Nat.div_lt_of_lt_mul (by rw [Nat.mul_comm]; exact h)
  have e1 : plc R C t % C = t / R := by
    unfold plc
    rw [Nat.add_comm, Nat.add_mul_mod_self_right, Nat.mod_eq_of_lt h2]
  have e2 : plc R C t / C = t % R := by
    unfold plc
    rw [Nat.add_comm, Nat.add_mul_div_right _ _ (by omega), Nat.div_eq_of_lt h2, Nat.zero_add]
  unfold plc at e1 e2 ⊢
  rw [e1, e2, Nat.mul_comm]
  exact Nat.div_add_mod t R
theorem placesTo_get {R C : Nat} : ∀ (k t : Nat), t < k * R → (placesTo R C k)[t]? = some ((plc R C t : Nat) : Int)
  | 0, t, h => by omega
  | k + 1, t, h => by
    have e : placesTo R C (k + 1) = placesTo R C k ++ (List.range R).map fun (r : Nat) => (r : Int) * C + k := by rw [← placesAt_full]; rfl
    have hl := placesTo_length R C k
    rw [Nat.succ_mul] at h
    rw [e]
    rcases Nat.lt_or_ge t (k * R) with h1 | h1
    · rw [List.getElem?_append_left (by omega)]
      exact placesTo_get k t h1
    · rw [List.getElem?_append_right (by omega), hl]
      have hi : t - k * R < R := by omega
      have hmod : t % R = t - k * R := by
        conv => lhs; rw [show t = (t - k * R) + k * R from by omega]
        rw [Nat.add_mul_mod_self_right, Nat.mod_eq_of_lt hi]
      have hdiv : t / R = k := by
        conv => lhs; rw [show t = (t - k * R) + k * R from by omega]
        rw [Nat.add_mul_div_right _ _ (by omega), Nat.div_eq_of_lt hi, Nat.zero_add]
      rw [List.getElem?_map, List.getElem?_range hi]
      simp [plc, hmod, hdiv]

/-- The bits at the places. -/
def ileave (xs ps : List Int) : List Int := ps.map fun p => xs.getD p.toNat 0
theorem ileave_len (xs ps : List Int) : (ileave xs ps).length = ps.length := by simp [ileave]
theorem ileave_get {xs : List Int} {R C t : Nat} (ht : t < C * R) (hl : xs.length = R * C) : (ileave xs (placesTo R C C))[t]? = xs[plc R C t]? := by
  have hq := plc_lt ht
  rw [ileave, List.getElem?_map, placesTo_get C t ht]
  simp [List.getD, List.getElem?_eq_getElem (show plc R C t < xs.length by omega)]

def LInv (xs ps : List Int) (k : Nat) (ys : List Int) : Prop := ys = ileave xs (ps.take k)
theorem LInv.step {xs ps ys : List Int} {k q : Nat} {x : Int} (h : LInv xs ps k ys) (hp : ps[k]? = some (q : Int)) (hx : xs[q]? = some x) : LInv xs ps (k + 1) (ys ++ [x]) := by
  unfold LInv at h ⊢
  rw [take_snoc hp, ileave, List.map_append, ← ileave, ← h]
  simp [List.getD, hx]

/-- The code of bits and a table. -/
def tabCode (xs : List Int) (r c : Int) : Int := if !(listOk 1200 0 1 xs) then 1 else if !(tableOk r c && decide (r * c = xs.length)) then 2 else 0
theorem tabCode_yes {xs : List Int} {r c : Int} (h : tabCode xs r c = 0) : listOk 1200 0 1 xs = true ∧ tableOk r c = true ∧ r * c = xs.length := by
  unfold tabCode at h
  cases h1 : listOk 1200 0 1 xs <;> cases h2 : tableOk r c <;> simp [h1, h2] at h <;> simp [h]
theorem tabCode_cases (xs : List Int) (r c : Int) : tabCode xs r c = 0 ∨ tabCode xs r c = 1 ∨ tabCode xs r c = 2 := by
  unfold tabCode
  split
  · omega
  · split <;> omega

theorem tableCode_any (a : Option Addr) (n cp : Nat) (xs : List Int) (r c : Int) (w : World) (h : Row w 1 a n (ints xs)) (hn : n ≤ 1048576) :
    Calls Try.prog 35 #[.slice a n cp, .int .i64 r, .int .i64 c] w fun e w' => e = .returned (.int .i64 (tabCode xs r c)) ∧ w = w' := by
  have hxl := h.len
  cases h1 : listOk 1200 0 1 xs
  · rw [show tabCode xs r c = 1 by simp [tabCode, h1]]
    go_enter Try.func35, Try.ntmps35
    go_wp2_with (go_at_call 52; refine (isBits_any _ _ _ _ _ _ h hn).mono ?_; rintro e w' ⟨rfl, rfl⟩)
    go_ret
    exact ⟨rfl, rfl⟩
  cases h2 : tableOk r c
  · rw [show tabCode xs r c = 2 by simp [tabCode, h1, h2]]
    go_enter Try.func35, Try.ntmps35
    go_wp2_with (first | (go_at_call 52; refine (isBits_any _ _ _ _ _ _ h hn).mono ?_; rintro e w' ⟨rfl, rfl⟩) | (go_at_call 39; refine (isTable_any _ _ _).mono ?_; rintro e w' ⟨rfl, rfl⟩))
    go_ret
    exact ⟨rfl, rfl⟩
  obtain ⟨g1, g2, g3⟩ := tableOk_true h2
  obtain ⟨m1, m2⟩ := mul_bd g1 g2
  by_cases he : r * c = (n : Int)
  · rw [show tabCode xs r c = 0 by simp [tabCode, h1, h2, hxl, he]]
    have he2 : (r * c != (n : Int)) = false := by simp [he]
    have he3 : (r * c == (n : Int)) = true := by simp [he]
    go_enter Try.func35, Try.ntmps35
    go_wp2_with (first | (go_at_call 52; refine (isBits_any _ _ _ _ _ _ h hn).mono ?_; rintro e w' ⟨rfl, rfl⟩) | (go_at_call 39; refine (isTable_any _ _ _).mono ?_; rintro e w' ⟨rfl, rfl⟩) | (go_at_call 54; refine (length_any _ _ _ _ (by omega)).mono ?_; rintro e w' ⟨rfl, rfl⟩))
    go_ret
    exact ⟨rfl, rfl⟩
  · rw [show tabCode xs r c = 2 by simp [tabCode, h1, h2, hxl, he]]
    have he2 : (r * c != (n : Int)) = true := by simp [he]
    have he3 : (r * c == (n : Int)) = false := by simp [he]
    go_enter Try.func35, Try.ntmps35
    go_wp2_with (first | (go_at_call 52; refine (isBits_any _ _ _ _ _ _ h hn).mono ?_; rintro e w' ⟨rfl, rfl⟩) | (go_at_call 39; refine (isTable_any _ _ _).mono ?_; rintro e w' ⟨rfl, rfl⟩) | (go_at_call 54; refine (length_any _ _ _ _ (by omega)).mono ?_; rintro e w' ⟨rfl, rfl⟩))
    go_ret
    exact ⟨rfl, rfl⟩

theorem l26Code_any (a : Option Addr) (n cp : Nat) (xs : List Int) (r c : Int) (w : World) (h : Row w 1 a n (ints xs)) (hn : n ≤ 1048576) :
    Calls Try.prog 37 #[.slice a n cp, .int .i64 r, .int .i64 c] w fun e w' => e = .returned (.int .i64 (tabCode xs r c)) ∧ w = w' := by
  have hxl := h.len
  cases h1 : listOk 1200 0 1 xs
  · rw [show tabCode xs r c = 1 by simp [tabCode, h1]]
    go_enter Try.func37, Try.ntmps37
    go_wp2_with (go_at_call 53; refine (l25Bits_any _ _ _ _ _ h hn).mono ?_; rintro e w' ⟨rfl, rfl⟩)
    go_ret
    exact ⟨rfl, rfl⟩
  cases h2 : tableOk r c
  · rw [show tabCode xs r c = 2 by simp [tabCode, h1, h2]]
    go_enter Try.func37, Try.ntmps37
    go_wp2_with (first | (go_at_call 53; refine (l25Bits_any _ _ _ _ _ h hn).mono ?_; rintro e w' ⟨rfl, rfl⟩) | (go_at_call 40; refine (l26Table_any _ _ _).mono ?_; rintro e w' ⟨rfl, rfl⟩))
    go_ret
    exact ⟨rfl, rfl⟩
  obtain ⟨g1, g2, g3⟩ := tableOk_true h2
  obtain ⟨m1, m2⟩ := mul_bd g1 g2
  by_cases he : r * c = (n : Int)
  · rw [show tabCode xs r c = 0 by simp [tabCode, h1, h2, hxl, he]]
    have he2 : (r * c != (n : Int)) = false := by simp [he]
    have he3 : (r * c == (n : Int)) = true := by simp [he]
    go_enter Try.func37, Try.ntmps37
    go_wp2_with (first | (go_at_call 53; refine (l25Bits_any _ _ _ _ _ h hn).mono ?_; rintro e w' ⟨rfl, rfl⟩) | (go_at_call 40; refine (l26Table_any _ _ _).mono ?_; rintro e w' ⟨rfl, rfl⟩))
    go_ret
    exact ⟨rfl, rfl⟩
  · rw [show tabCode xs r c = 2 by simp [tabCode, h1, h2, hxl, he]]
    have he2 : (r * c != (n : Int)) = true := by simp [he]
    have he3 : (r * c == (n : Int)) = false := by simp [he]
    go_enter Try.func37, Try.ntmps37
    go_wp2_with (first | (go_at_call 53; refine (l25Bits_any _ _ _ _ _ h hn).mono ?_; rintro e w' ⟨rfl, rfl⟩) | (go_at_call 40; refine (l26Table_any _ _ _).mono ?_; rintro e w' ⟨rfl, rfl⟩))
    go_ret
    exact ⟨rfl, rfl⟩

theorem l26Interleave_any (a : Option Addr) (n cp : Nat) (xs : List Int) (r c : Int) (w : World) (h : Row w 1 a n (ints xs)) (hn : n ≤ 1200) (h1 : 1 ≤ r ∧ r ≤ 40) (h2 : 1 ≤ c ∧ c ≤ 40) (he : r * c = (n : Int)) :
    Calls Try.prog 38 #[.slice a n cp, .int .i64 r, .int .i64 c] w fun e w' => ∃ a m cp, e = .returned (.slice a m cp) ∧ Own w' w.heap.size w'.heap.size 2 1 a m cp (ints (ileave xs (placesL r c))) ∧ Below w.heap.size w w' := by
  obtain ⟨R, rfl⟩ := Int.eq_ofNat_of_zero_le (show 0 ≤ r by omega)
  obtain ⟨C, rfl⟩ := Int.eq_ofNat_of_zero_le (show 0 ≤ c by omega)
  have heN : R * C = n := by exact_mod_cast he
  clear he
  have hps : placesL (R : Int) (C : Int) = placesTo R C C := by simp [placesL]
  have hpl : (placesTo R C C).length = n := by rw [placesTo_length, Nat.mul_comm]; exact heN
  have hget : ∀ t, t < n → ∃ q : Nat, (placesTo R C C)[t]? = some (q : Int) ∧ q < n := fun t ht => ⟨plc R C t, placesTo_get C t (by rw [Nat.mul_comm, heN]; exact ht), by have := plc_lt (R := R) (C := C) (t := t) (by rw [Nat.mul_comm, heN]; exact ht); omega⟩
  rw [hps]
  generalize placesTo R C C = ps at hps hpl hget ⊢
  replace hps := Lib.hid hps
  go_enter Try.func38, Try.ntmps38
  go_wp2_with fail
  go_at_call 41
  refine (l26From_any _ _ _ h1 h2).mono ?_
  rintro e w1 ⟨a1, n1, c1, rfl, hown1, hbel1⟩
  rw [hps.out] at hown1
  have hrow1 := hown1.row
  obtain rfl : n1 = n := by have := hrow1.len; omega
  go_wp2
  go_loopw [8, 9] (fun l i wr => ∃ (k : Nat) (a' : Option Addr) (m cp : Nat) (ys : List Int), k ≤ n1 ∧ i = .int .i64 k ∧ l = .slice a' m cp ∧ Own wr w1.heap.size wr.heap.size 2 1 a' m cp (ints ys) ∧ Hid (LInv xs ps k ys) ∧ Hid (ys.length = k) ∧ Below w1.heap.size w1 wr) (fun _ i _ => n1 - (intOf i).toNat)
  case atStart => exact ⟨0, _, 0, 0, [], Nat.zero_le _, rfl, rfl, (Own.lit0 _ _ _).mono (Nat.le_refl _) (by simp), (by unfold Hid; simp [LInv, ileave]), rfl, (Below.refl _ _).alloc (Nat.le_refl _) _⟩
  case round =>
    obtain ⟨k, a', m, cp, ys, hk, rfl, rfl, hown, hinv, hlen, hbel⟩ := hrel
    have hmk : m ≤ k := by have := hown.row.len; have := hlen.out; omega
    by_cases hlt : k < n1
    · obtain ⟨b1, off1, p, rfl, hc1, hx1⟩ := (hrow1.below hbel (Nat.le_refl _)).at_ hlt
      obtain ⟨q, hq, hqn⟩ := hget k hlt
      obtain rfl : (q : Int) = p := by have := hx1.out; rw [hq] at this; injection this
      obtain ⟨b2, off2, x, rfl, hc2, hx2⟩ := ((h.below hbel1 (Nat.le_refl _)).below hbel (Nat.le_refl _)).at_ hqn
      replace hq := Lib.hid hq
      go_wp2_with (at_builtin; refine wpList_app _ rfl (.tmp 20) (.tmp 28) _ rfl Try.underlying24 info_i64 rfl (by decide) rfl (hown.alloc _) rfl (Row.one _ _ _) (ints_one [_]) (by decide) (by simp only [maxLen]; omega) (by omega) (by have := hbel.size; simp; omega) ?_; intro A2 c2 w2 hown2 hb2 _)
      go_roundw
      case rel => exact ⟨k + 1, _, _, _, ys ++ [x], by omega, by go_num, rfl, by rw [ints_app]; exact hown2, hinv.out.step hq.out hx2.out, (by have := hlen.out; unfold Hid; simp [this]), (hbel.alloc hbel.size _).trans hb2⟩
      case measure => simp [intOf]; omega
    · go_wp2
      go_ret
      have hd : ileave xs ps = ys := by have := hinv.out; unfold LInv at this; rw [this, List.take_of_length_le (by omega)]
      refine ⟨_, _, _, rfl, ?_, hbel1.trans (hbel.mono hbel1.size)⟩
      rw [hd]
      exact hown.mono hbel1.size (Nat.le_refl _)

def interleaveBits (xs : List Int) (r c : Int) : List Int × Int := if tabCode xs r c = 0 then (ileave xs (placesL r c), 0) else ([], tabCode xs r c)
def sortBits (xs : List Int) (r c : Int) : List Int × Int := if tabCode xs r c = 0 then (ileave xs (placesL c r), 0) else ([], tabCode xs r c)
theorem ileave_bd {xs : List Int} {r c : Int} (h : tabCode xs r c = 0) : (ileave xs (placesL r c)).length ≤ 1200 ∧ (ileave xs (placesL c r)).length ≤ 1200 := by
  obtain ⟨_, h2, _⟩ := tabCode_yes h
  obtain ⟨g1, g2, g3⟩ := tableOk_true h2
  obtain ⟨R, rfl⟩ := Int.eq_ofNat_of_zero_le (show 0 ≤ r by omega)
  obtain ⟨C, rfl⟩ := Int.eq_ofNat_of_zero_le (show 0 ≤ c by omega)
  have : R * C ≤ 1200 := by exact_mod_cast g3
  simp only [ileave_len, placesL, placesTo_length, Int.toNat_natCast]
  rw [Nat.mul_comm C R]
  omega
theorem interleaveBits_len (xs : List Int) (r c : Int) : (interleaveBits xs r c).1.length ≤ 1200 := by
  unfold interleaveBits
  split
  · rename_i h; exact (ileave_bd h).1
  · simp
theorem sortBits_len (xs : List Int) (r c : Int) : (sortBits xs r c).1.length ≤ 1200 := by
  unfold sortBits
  split
  · rename_i h; exact (ileave_bd h).2
  · simp

theorem interleaveBits_spec (a : Option Addr) (n cp : Nat) (xs : List Int) (r c : Int) (w : World) (h : Row w 1 a n (ints xs)) (hn : n ≤ 1048576) :
    Calls Try.prog 9 #[.slice a n cp, .int .i64 r, .int .i64 c] w fun e w' => ∃ a m cp, e = .returned (.tuple #[.slice a m cp, .int .i64 (interleaveBits xs r c).2]) ∧ Own w' w.heap.size w'.heap.size 2 1 a m cp (ints (interleaveBits xs r c).1) ∧ Below w.heap.size w w' := by
  by_cases h0 : tabCode xs r c = 0
  · rw [show interleaveBits xs r c = (ileave xs (placesL r c), 0) by simp [interleaveBits, h0]]
    obtain ⟨h1, h2, h3⟩ := tabCode_yes h0
    obtain ⟨g1, g2, g3⟩ := tableOk_true h2
    have hl := listOk_le h1 h.len
    rw [h.len] at h3
    have hz : (tabCode xs r c != 0) = false := by simp [h0]
    have hz2 : (tabCode xs r c == 0) = true := by simp [h0]
    clear g3
    go_enter Try.func9, Try.ntmps9
    go_wp2_with (first | (go_at_call 37; refine (l26Code_any _ _ _ _ _ _ _ h hn).mono ?_; rintro e w' ⟨rfl, rfl⟩) | (go_at_call 38; refine (l26Interleave_any _ _ _ _ _ _ _ h (by omega) g1 g2 h3).mono ?_; rintro e w' ⟨a1, m1, c1, rfl, hown, hbel⟩))
    go_ret2
    exact ⟨_, _, _, rfl, hown, hbel⟩
  · rw [show interleaveBits xs r c = ([], tabCode xs r c) by simp [interleaveBits, h0]]
    have hz : (tabCode xs r c != 0) = true := by simp [h0]
    have hz2 : (tabCode xs r c == 0) = false := by simp [h0]
    go_enter Try.func9, Try.ntmps9
    go_wp2_with (go_at_call 37; refine (l26Code_any _ _ _ _ _ _ _ h hn).mono ?_; rintro e w' ⟨rfl, rfl⟩)
    go_ret2
    exact ⟨_, _, _, rfl, Own.nil_ _ _ _ _ _, Below.refl _ _⟩

theorem sortBits_spec (a : Option Addr) (n cp : Nat) (xs : List Int) (r c : Int) (w : World) (h : Row w 1 a n (ints xs)) (hn : n ≤ 1048576) :
    Calls Try.prog 12 #[.slice a n cp, .int .i64 r, .int .i64 c] w fun e w' => ∃ a m cp, e = .returned (.tuple #[.slice a m cp, .int .i64 (sortBits xs r c).2]) ∧ Own w' w.heap.size w'.heap.size 2 1 a m cp (ints (sortBits xs r c).1) ∧ Below w.heap.size w w' := by
  by_cases h0 : tabCode xs r c = 0
  · rw [show sortBits xs r c = (ileave xs (placesL c r), 0) by simp [sortBits, h0]]
    obtain ⟨h1, h2, h3⟩ := tabCode_yes h0
    obtain ⟨g1, g2, g3⟩ := tableOk_true h2
    have hl := listOk_le h1 h.len
    rw [h.len] at h3
    have hz : (tabCode xs r c != 0) = false := by simp [h0]
    have hz2 : (tabCode xs r c == 0) = true := by simp [h0]
    clear g3
    go_enter Try.func12, Try.ntmps12
    go_wp2_with (first | (go_at_call 37; refine (l26Code_any _ _ _ _ _ _ _ h hn).mono ?_; rintro e w' ⟨rfl, rfl⟩) | (go_at_call 38; refine (l26Interleave_any _ _ _ _ _ _ _ h (by omega) g2 g1 (by rw [Int.mul_comm]; exact h3)).mono ?_; rintro e w' ⟨a1, m1, c1, rfl, hown, hbel⟩))
    go_ret2
    exact ⟨_, _, _, rfl, hown, hbel⟩
  · rw [show sortBits xs r c = ([], tabCode xs r c) by simp [sortBits, h0]]
    have hz : (tabCode xs r c != 0) = true := by simp [h0]
    have hz2 : (tabCode xs r c == 0) = false := by simp [h0]
    go_enter Try.func12, Try.ntmps12
    go_wp2_with (go_at_call 37; refine (l26Code_any _ _ _ _ _ _ _ h hn).mono ?_; rintro e w' ⟨rfl, rfl⟩)
    go_ret2
    exact ⟨_, _, _, rfl, Own.nil_ _ _ _ _ _, Below.refl _ _⟩

theorem interleaveBits_impl (a : Option Addr) (n cp : Nat) (xs : List Int) (r c : Int) (w : World) (h : Row w 1 a n (ints xs)) (hn : n ≤ 1048576) :
    Calls Try.prog 8 #[.slice a n cp, .int .i64 r, .int .i64 c] w fun e w' => ∃ a m cp, e = .returned (.tuple #[.slice a m cp, .int .i64 (interleaveBits xs r c).2]) ∧ Own w' w.heap.size w'.heap.size 2 1 a m cp (ints (interleaveBits xs r c).1) ∧ Below w.heap.size w w' := by
  by_cases h0 : tabCode xs r c = 0
  · rw [show interleaveBits xs r c = (ileave xs (placesL r c), 0) by simp [interleaveBits, h0]]
    obtain ⟨hok, h2, h3⟩ := tabCode_yes h0
    obtain ⟨g1, g2, g3⟩ := tableOk_true h2
    have hl := listOk_le hok h.len
    rw [h.len] at h3
    have hz : (tabCode xs r c != 0) = false := by simp [h0]
    have hz2 : (tabCode xs r c == 0) = true := by simp [h0]
    clear g3
    have hps : ∃ ps : List Int, placesL r c = ps ∧ ps.length = n ∧ ∀ t, t < n → ∃ q : Nat, ps[t]? = some (q : Int) ∧ q < n := by
      obtain ⟨R, rfl⟩ := Int.eq_ofNat_of_zero_le (show 0 ≤ r by omega)
      obtain ⟨C, rfl⟩ := Int.eq_ofNat_of_zero_le (show 0 ≤ c by omega)
      have heN : R * C = n := by exact_mod_cast h3
      refine ⟨placesTo R C C, by simp [placesL], by rw [placesTo_length, Nat.mul_comm]; exact heN, fun t ht => ⟨plc R C t, placesTo_get C t (by rw [Nat.mul_comm, heN]; exact ht), by have := plc_lt (R := R) (C := C) (t := t) (by rw [Nat.mul_comm, heN]; exact ht); omega⟩⟩
    obtain ⟨ps, hps, hpl, hget⟩ := hps
    clear h3
    rw [hps]
    replace hps := Lib.hid hps
    go_enter Try.func8, Try.ntmps8
    go_wp2_with (first | (go_at_call 35; refine (tableCode_any _ _ _ _ _ _ _ h hn).mono ?_; rintro e w' ⟨rfl, rfl⟩) | fail)
    go_at_call 36
    refine (places_any _ _ _ g1 g2).mono ?_
    rintro e w1 ⟨a1, n1, c1, rfl, hown1, hbel1⟩
    rw [hps.out] at hown1
    have hrow1 := hown1.row
    obtain rfl : n1 = n := by have := hrow1.len; omega
    go_wp2
    go_loopw [9, 23] (fun l i wr => ∃ (k : Nat) (a' : Option Addr) (m cp : Nat) (ys : List Int), k ≤ n1 ∧ i = .int .i64 k ∧ l = .slice a' m cp ∧ Own wr w1.heap.size wr.heap.size 2 1 a' m cp (ints ys) ∧ Hid (LInv xs ps k ys) ∧ Hid (ys.length = k) ∧ Below w1.heap.size w1 wr) (fun _ i _ => n1 - (intOf i).toNat)
    case atStart => exact ⟨0, _, 0, 0, [], Nat.zero_le _, rfl, rfl, Own.nil_ _ _ _ _ _, (by unfold Hid; simp [LInv, ileave]), rfl, Below.refl _ _⟩
    case round =>
      obtain ⟨k, a', m, cp, ys, hk, rfl, rfl, hown, hinv, hlen, hbel⟩ := hrel
      have hmk : m ≤ k := by have := hown.row.len; have := hlen.out; omega
      by_cases hlt : k < n1
      · obtain ⟨b1, off1, p, rfl, hc1, hx1⟩ := (hrow1.below hbel (Nat.le_refl _)).at_ hlt
        obtain ⟨q, hq, hqn⟩ := hget k hlt
        obtain rfl : (q : Int) = p := by have := hx1.out; rw [hq] at this; injection this
        obtain ⟨b2, off2, x, rfl, hc2, hx2⟩ := ((h.below hbel1 (Nat.le_refl _)).below hbel (Nat.le_refl _)).at_ hqn
        replace hq := Lib.hid hq
        go_wp2_with (at_builtin; refine wpList_app _ rfl (.tmp 27) (.tmp 32) _ rfl Try.underlying24 info_i64 rfl (by decide) rfl (hown.alloc _) rfl (Row.one _ _ _) (ints_one [_]) (by decide) (by simp only [maxLen]; omega) (by omega) (by have := hbel.size; simp; omega) ?_; intro A2 c2 w2 hown2 hb2 _)
        go_roundw
        case rel => exact ⟨k + 1, _, _, _, ys ++ [x], by omega, by go_num, rfl, by rw [ints_app]; exact hown2, hinv.out.step hq.out hx2.out, (by have := hlen.out; unfold Hid; simp [this]), (hbel.alloc hbel.size _).trans hb2⟩
        case measure => simp [intOf]; omega
      · go_wp2
        go_ret2
        have hd : ileave xs ps = ys := by have := hinv.out; unfold LInv at this; rw [this, List.take_of_length_le (by omega)]
        refine ⟨_, _, _, rfl, ?_, hbel1.trans (hbel.mono hbel1.size)⟩
        rw [hd]
        exact hown.mono hbel1.size (Nat.le_refl _)
  · rw [show interleaveBits xs r c = ([], tabCode xs r c) by simp [interleaveBits, h0]]
    have hz : (tabCode xs r c != 0) = true := by simp [h0]
    have hz2 : (tabCode xs r c == 0) = false := by simp [h0]
    go_enter Try.func8, Try.ntmps8
    go_wp2_with (go_at_call 35; refine (tableCode_any _ _ _ _ _ _ _ h hn).mono ?_; rintro e w' ⟨rfl, rfl⟩)
    go_ret2
    exact ⟨_, _, _, rfl, Own.nil_ _ _ _ _ _, Below.refl _ _⟩

/-- Scattering: what is set so far stands where the target has it. -/
def ScInv (tg ps : List Int) (n k : Nat) (ys : List Int) : Prop := ys.length = n ∧ ∀ t q : Nat, t < k → ps[t]? = some (q : Int) → ys[q]? = tg[q]?
theorem ScInv.step {tg ps ys : List Int} {n k q : Nat} {x : Int} (h : ScInv tg ps n k ys) (hp : ps[k]? = some (q : Int)) (hT : tg[q]? = some x) (hq : q < n) : ScInv tg ps n (k + 1) (ys.set q x) := by
  refine ⟨by simp [h.1], fun t q' ht hp' => ?_⟩
  rw [List.getElem?_set]
  by_cases he : q = q'
  · subst he
    simp [h.1, hq, hT]
  · rw [if_neg he]
    rcases Nat.lt_or_ge t k with h1 | h1
    · exact h.2 t q' h1 hp'
    · have : t = k := by omega
      subst this
      rw [hp] at hp'
      injection hp' with hp'
      omega
theorem ScInv.done {tg ps ys : List Int} {n k : Nat} (h : ScInv tg ps n k ys) (hk : ¬ k < n) (hall : ∀ q, q < n → ∃ t, t < n ∧ ps[t]? = some (q : Int)) (hT : tg.length = n) : tg = ys := by
  refine List.ext_getElem? fun q => ?_
  rcases Nat.lt_or_ge q n with hq | hq
  · obtain ⟨t, ht, hp⟩ := hall q hq
    exact (h.2 t q (by omega) hp).symm
  · rw [List.getElem?_eq_none (by omega), List.getElem?_eq_none (by have := h.1; omega)]

/-- The facts of a table's places. -/
theorem places_facts {xs : List Int} {r c : Int} {n : Nat} (hl : xs.length = n) (g1 : 1 ≤ r ∧ r ≤ 40) (g2 : 1 ≤ c ∧ c ≤ 40) (h3 : r * c = (n : Int)) :
    ∃ ps : List Int, placesL r c = ps ∧ ps.length = n ∧ (ileave xs (placesL c r)).length = n ∧ (∀ t, t < n → ∃ q : Nat, ps[t]? = some (q : Int) ∧ q < n ∧ (ileave xs (placesL c r))[q]? = xs[t]?) ∧
      (∀ q, q < n → ∃ t, t < n ∧ ps[t]? = some (q : Int)) := by
  obtain ⟨R, rfl⟩ := Int.eq_ofNat_of_zero_le (show 0 ≤ r by omega)
  obtain ⟨C, rfl⟩ := Int.eq_ofNat_of_zero_le (show 0 ≤ c by omega)
  have heN : R * C = n := by exact_mod_cast h3
  have heN' : C * R = n := by rw [Nat.mul_comm]; exact heN
  refine ⟨placesTo R C C, by simp [placesL], by rw [placesTo_length]; exact heN', by simp [ileave_len, placesL, placesTo_length]; exact heN, fun t ht => ?_, fun q hq => ?_⟩
  · have hq := plc_lt (R := R) (C := C) (t := t) (by omega)
    refine ⟨plc R C t, placesTo_get C t (by omega), by omega, ?_⟩
    have := ileave_get (xs := xs) (R := C) (C := R) (t := plc R C t) hq (by omega)
    simp only [placesL, Int.toNat_natCast]
    rw [this, plc_inv (by omega)]
  · have ht := plc_lt (R := C) (C := R) (t := q) (by omega)
    refine ⟨plc C R q, by omega, ?_⟩
    rw [placesTo_get C _ ht, plc_inv (by omega)]

theorem iset {ys : List Int} {q : Nat} {x : Int} : (ints ys).set q (.int .i64 x) = ints (ys.set q x) := by simp [ints, List.map_set]
theorem rep_ints (n : Nat) (x : Int) : List.replicate n (Value.int .i64 x) = ints (List.replicate n x) := by simp [ints]

set_option maxHeartbeats 1600000 in
theorem sortBits_impl (a : Option Addr) (n cp : Nat) (xs : List Int) (r c : Int) (w : World) (h : Row w 1 a n (ints xs)) (hn : n ≤ 1048576) :
    Calls Try.prog 11 #[.slice a n cp, .int .i64 r, .int .i64 c] w fun e w' => ∃ a m cp, e = .returned (.tuple #[.slice a m cp, .int .i64 (sortBits xs r c).2]) ∧ Own w' w.heap.size w'.heap.size 2 1 a m cp (ints (sortBits xs r c).1) ∧ Below w.heap.size w w' := by
  by_cases h0 : tabCode xs r c = 0
  · rw [show sortBits xs r c = (ileave xs (placesL c r), 0) by simp [sortBits, h0]]
    obtain ⟨hok, h2, h3⟩ := tabCode_yes h0
    obtain ⟨g1, g2, g3⟩ := tableOk_true h2
    have hl := listOk_le hok h.len
    rw [h.len] at h3
    have hz : (tabCode xs r c != 0) = false := by simp [h0]
    have hz2 : (tabCode xs r c == 0) = true := by simp [h0]
    clear g3
    have hmk := run_make_row' (P := Try.prog) 24 2 (.int .i64 0) 8 Try.underlying24 info_i64 rfl .i64 .i64 n (by omega) (by omega)
    obtain ⟨ps, hps, hpl, hTl, hget, hall⟩ := places_facts h.len g1 g2 h3
    clear h3
    generalize ileave xs (placesL c r) = tg at hTl hget ⊢
    replace hps := Lib.hid hps
    replace hall := Lib.hid hall
    go_enter Try.func11, Try.ntmps11
    go_wp2_with (first | (go_at_call 35; refine (tableCode_any _ _ _ _ _ _ _ h hn).mono ?_; rintro e w' ⟨rfl, rfl⟩) | fail)
    go_at_call 36
    refine (places_any _ _ _ g1 g2).mono ?_
    rintro e w1 ⟨a1, n1, c1, rfl, hown1, hbel1⟩
    rw [hps.out] at hown1
    have hrow1 := hown1.row
    obtain rfl : n1 = n := by have := hrow1.len; omega
    have hsz0 : w.heap.size + 1 ≤ w1.heap.size := by have := hbel1.size; simp at this; omega
    have hb01 : Below w.heap.size w w1 := ((Below.refl _ _).alloc (Nat.le_refl _) _).trans (hbel1.mono (by simp))
    have hmade := (Own.made w (.int .i64 0) (n := n1) (E := 2) (by simp only [maxLen]; omega)).below hbel1 (.inl (by simp))
    rw [rep_ints] at hmade
    have hrow := h.below hb01 (Nat.le_refl _)
    have hfar : 0 < n1 → ∃ g, a1 = some ⟨g, 0, none⟩ ∧ w.heap.size + 1 ≤ g := fun hp => by
      obtain ⟨g, e, hg, -⟩ := hown1.head hp
      exact ⟨g, e, by simpa using hg⟩
    have hblk : ∀ b off, 0 < n1 → a = some ⟨b, off, none⟩ → b < w.heap.size := fun b off hp e => by
      obtain ⟨b', off', x', e', hc', -⟩ := h.at_ hp
      rw [e] at e'
      injection e' with e'
      injection e' with e' _ _
      subst e'
      exact World.block_lt_of_cell? w _ hc'
    clear hown1
    go_wp2
    go_loopw [26] (fun i wr => ∃ (k : Nat) (ys : List Int), k ≤ n1 ∧ i = .int .i64 k ∧ Own wr w.heap.size (w.heap.size + 1) 2 1 (some ⟨w.heap.size, 0, none⟩) n1 n1 (ints ys) ∧ Hid (ScInv tg ps n1 k ys) ∧ w1.grownBy wr (some w.heap.size)) (fun i _ => n1 - (intOf i).toNat)
    case atStart => exact ⟨0, _, Nat.zero_le _, rfl, hmade, (by unfold Hid; exact ⟨by simp, fun t q ht => by omega⟩), World.grownBy.refl _ _⟩
    case round =>
      obtain ⟨k, ys, hk, rfl, hown, hinv, hg⟩ := hrel
      by_cases hlt : k < n1
      · obtain ⟨g1', rfl, hg1'⟩ := hfar (by omega)
        have hr1 : Row wr 1 (some ⟨g1', 0, none⟩) n1 (ints ps) := hrow1.apart (by omega) hg (fun b off e hb => by
          injection hb with hb
          injection e with e
          injection e with e _ _
          omega)
        have hr2 : Row wr 1 a n1 (ints xs) := hrow.apart (by omega) hg (fun b off e hb => by
          injection hb with hb
          have := hblk b off (by omega) e
          omega)
        obtain ⟨b1, off1, p, e1, hc1, hx1⟩ := hr1.at_ hlt
        injection e1 with e1
        injection e1 with e1 e2 _
        subst e1; subst e2
        rw [Nat.zero_add] at hc1
        obtain ⟨q, hq, hqn, hTq⟩ := hget k hlt
        obtain rfl : (q : Int) = p := by have := hx1.out; rw [hq] at this; injection this
        obtain ⟨b2, off2, x, rfl, hc2, hx2⟩ := hr2.at_ hlt
        rw [hx2.out] at hTq
        replace hTq := Lib.hid hTq
        replace hq := Lib.hid hq
        have hfz := hown.frozenAt q
        have hst := hown.stored q (.int .i64 x)
        have hcell : ∃ v, wr.cell? ⟨w.heap.size, q, none⟩ = some v := by
          refine ⟨_, (hown.cellAt q (by omega)).trans (List.getElem?_eq_getElem ?_)⟩
          have := hown.len; omega
        obtain ⟨v, hcv⟩ := hcell
        rw [iset] at hst
        have H := Lib.hid hst; clear hst hown
        go_wp2
        go_roundw
        case rel => exact ⟨k + 1, ys.set q x, by omega, by go_num, H.out.1, hinv.out.step hq.out hTq.out hqn, hg.trans H.out.2⟩
        case measure => simp [intOf]; omega
      · go_wp2
        go_ret2
        rw [hinv.out.done hlt hall.out hTl]
        exact ⟨_, _, _, rfl, hown.mono (Nat.le_refl _) (by have := hg.size; omega), hb01.grown hg (by omega) (fun k hk => by injection hk with hk; omega)⟩
  · rw [show sortBits xs r c = ([], tabCode xs r c) by simp [sortBits, h0]]
    have hz : (tabCode xs r c != 0) = true := by simp [h0]
    have hz2 : (tabCode xs r c == 0) = false := by simp [h0]
    go_enter Try.func11, Try.ntmps11
    go_wp2_with (go_at_call 35; refine (tableCode_any _ _ _ _ _ _ _ h hn).mono ?_; rintro e w' ⟨rfl, rfl⟩)
    go_ret2
    exact ⟨_, _, _, rfl, Own.nil_ _ _ _ _ _, Below.refl _ _⟩
end Go.Proofs.Ytbkoahikdjbdcaa
