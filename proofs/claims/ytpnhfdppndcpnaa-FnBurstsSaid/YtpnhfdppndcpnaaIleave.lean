/- Interleaving and sorting back, by both programs. -/
import Derived.Test.YtpnhfdppndcpnaaPlaces
import Derived.Test.YtpnhfdppndcpnaaLib
namespace Go.Proofs.Ytpnhfdppndcpnaa
open Go.RowKit
set_option maxRecDepth 100000
set_option linter.unusedVariables false

/-- The index from which bit t comes. -/
def plc (R C t : Nat) : Nat := (t % R) * C + t / R
theorem plc_lt {R C t : Nat} (h : t < C * R) : plc R C t < R * C := by
  have hR : 0 < R := by
    rcases Nat.eq_zero_or_pos R with h0 | h0
    · subst h0; omega
    · exact h0
  have h1 : t % R < R := Nat.mod_lt _ hR
  have h2 : t / R < C := Nat.div_lt_of_lt_mul (by rw [Nat.mul_comm]; exact h)
  unfold plc
  calc (t % R) * C + t / R < (t % R) * C + C := by omega
    _ = (t % R + 1) * C := by rw [Nat.succ_mul]
    _ ≤ R * C := Nat.mul_le_mul_right _ h1
theorem plc_inv {R C t : Nat} (h : t < C * R) : plc C R (plc R C t) = t := by
  have hR : 0 < R := by
    rcases Nat.eq_zero_or_pos R with h0 | h0
    · subst h0; omega
    · exact h0
  have h2 : t / R < C := Nat.div_lt_of_lt_mul (by rw [Nat.mul_comm]; exact h)
  have e1 : plc R C t % C = t / R := by
    unfold plc
    rw [Nat.add_comm, Nat.add_mul_mod_self_right, Nat.mod_eq_of_lt h2]
  have e2 : plc R C t / C = t % R := by
    unfold plc
    rw [Nat.add_comm, Nat.add_mul_div_right _ _ (by omega), Nat.div_eq_of_lt h2, Nat.zero_add]
  unfold plc at e1 e2 ⊢
  rw [e1, e2, Nat.mul_comm]
  exact Nat.div_add_mod t R
theorem placesTo_get {R C : Nat} : ∀ (k t : Nat), t < k * R → (placesTo R C k)[t]? = some ((plc R C t : Nat) : Int)
  | 0, t, h => by omega
  | k + 1, t, h => by
    have e : placesTo R C (k + 1) = placesTo R C k ++ (List.range R).map fun (r : Nat) => (r : Int) * C + k := by rw [← placesAt_full]; rfl
    have hl := placesTo_length R C k
    rw [Nat.succ_mul] at h
    rw [e]
    rcases Nat.lt_or_ge t (k * R) with h1 | h1
    · rw [List.getElem?_append_left (by omega)]
      exact placesTo_get k t h1
    · rw [List.getElem?_append_right (by omega), hl]
      have hi : t - k * R < R := by omega
      have hmod : t % R = t - k * R := by
        conv => lhs; rw [show t = (t - k * R) + k * R from by omega]
        rw [Nat.add_mul_mod_self_right, Nat.mod_eq_of_lt hi]
      have hdiv : t / R = k := by
        conv => lhs; rw [show t = (t - k * R) + k * R from by omega]
        rw [Nat.add_mul_div_right _ _ (by omega), Nat.div_eq_of_lt hi, Nat.zero_add]
      rw [List.getElem?_map, List.getElem?_range hi]
      simp [plc, hmod, hdiv]

/-- The bits at the places. -/
def ileave (xs ps : List Int) : List Int := ps.map fun p => xs.getD p.toNat 0
theorem ileave_len (xs ps : List Int) : (ileave xs ps).length = ps.length := by simp [ileave]
theorem ileave_get {xs : List Int} {R C t : Nat} (ht : t < C * R) (hl : xs.length = R * C) : (ileave xs (placesTo R C C))[t]? = xs[plc R C t]? := by
  have hq := plc_lt ht
  rw [ileave, List.getElem?_map, placesTo_get C t ht]
  simp [List.getD, List.getElem?_eq_getElem (show plc R C t < xs.length by omega)]

def LInv (xs ps : List Int) (k : Nat) (ys : List Int) : Prop := ys = ileave xs (ps.take k)
theorem LInv.step {xs ps ys : List Int} {k q : Nat} {x : Int} (h : LInv xs ps k ys) (hp : ps[k]? = some (q : Int)) (hx : xs[q]? = some x) : LInv xs ps (k + 1) (ys ++ [x]) := by
  unfold LInv at h ⊢
  rw [take_snoc hp, ileave, List.map_append, ← ileave, ← h]
  simp [List.getD, hx]

/-- The code of bits and a table. -/
def tabCode (xs : List Int) (r c : Int) : Int := if !(listOk 1200 0 1 xs) then 1 else if !(tableOk r c && decide (r * c = xs.length)) then 2 else 0
theorem tabCode_yes {xs : List Int} {r c : Int} (h : tabCode xs r c = 0) : listOk 1200 0 1 xs = true ∧ tableOk r c = true ∧ r * c = xs.length := by
  unfold tabCode at h
  cases h1 : listOk 1200 0 1 xs <;> cases h2 : tableOk r c <;> simp [h1, h2] at h <;> simp [h]
theorem tabCode_cases (xs : List Int) (r c : Int) : tabCode xs r c = 0 ∨ tabCode xs r c = 1 ∨ tabCode xs r c = 2 := by
  unfold tabCode
  split
  · omega
  · split <;> omega

def interleaveBits (xs : List Int) (r c : Int) : List Int × Int := if tabCode xs r c = 0 then (ileave xs (placesL r c), 0) else ([], tabCode xs r c)
def sortBits (xs : List Int) (r c : Int) : List Int × Int := if tabCode xs r c = 0 then (ileave xs (placesL c r), 0) else ([], tabCode xs r c)
theorem ileave_bd {xs : List Int} {r c : Int} (h : tabCode xs r c = 0) : (ileave xs (placesL r c)).length ≤ 1200 ∧ (ileave xs (placesL c r)).length ≤ 1200 := by
  obtain ⟨_, h2, _⟩ := tabCode_yes h
  obtain ⟨g1, g2, g3⟩ := tableOk_true h2
  obtain ⟨R, rfl⟩ := Int.eq_ofNat_of_zero_le (show 0 ≤ r by omega)
  obtain ⟨C, rfl⟩ := Int.eq_ofNat_of_zero_le (show 0 ≤ c by omega)
  have : R * C ≤ 1200 := by exact_mod_cast g3
  simp only [ileave_len, placesL, placesTo_length, Int.toNat_natCast]
  rw [Nat.mul_comm C R]
  omega
theorem interleaveBits_len (xs : List Int) (r c : Int) : (interleaveBits xs r c).1.length ≤ 1200 := by
  unfold interleaveBits
  split
  · rename_i h; exact (ileave_bd h).1
  · simp
theorem sortBits_len (xs : List Int) (r c : Int) : (sortBits xs r c).1.length ≤ 1200 := by
  unfold sortBits
  split
  · rename_i h; exact (ileave_bd h).2
  · simp

/-- Scattering: what is set so far stands where the target has it. -/
def ScInv (tg ps : List Int) (n k : Nat) (ys : List Int) : Prop := ys.length = n ∧ ∀ t q : Nat, t < k → ps[t]? = some (q : Int) → ys[q]? = tg[q]?
theorem ScInv.step {tg ps ys : List Int} {n k q : Nat} {x : Int} (h : ScInv tg ps n k ys) (hp : ps[k]? = some (q : Int)) (hT : tg[q]? = some x) (hq : q < n) : ScInv tg ps n (k + 1) (ys.set q x) := by
  refine ⟨by simp [h.1], fun t q' ht hp' => ?_⟩
  rw [List.getElem?_set]
  by_cases he : q = q'
  · subst he
    simp [h.1, hq, hT]
  · rw [if_neg he]
    rcases Nat.lt_or_ge t k with h1 | h1
    · exact h.2 t q' h1 hp'
    · have : t = k := by omega
      subst this
      rw [hp] at hp'
      injection hp' with hp'
      omega
theorem ScInv.done {tg ps ys : List Int} {n k : Nat} (h : ScInv tg ps n k ys) (hk : ¬ k < n) (hall : ∀ q, q < n → ∃ t, t < n ∧ ps[t]? = some (q : Int)) (hT : tg.length = n) : tg = ys := by
  refine List.ext_getElem? fun q => ?_
  rcases Nat.lt_or_ge q n with hq | hq
  · obtain ⟨t, ht, hp⟩ := hall q hq
    exact (h.2 t q (by omega) hp).symm
  · rw [List.getElem?_eq_none (by omega), List.getElem?_eq_none (by have := h.1; omega)]

/-- The facts of a table's places. -/
theorem places_facts {xs : List Int} {r c : Int} {n : Nat} (hl : xs.length = n) (g1 : 1 ≤ r ∧ r ≤ 40) (g2 : 1 ≤ c ∧ c ≤ 40) (h3 : r * c = (n : Int)) :
    ∃ ps : List Int, placesL r c = ps ∧ ps.length = n ∧ (ileave xs (placesL c r)).length = n ∧ (∀ t, t < n → ∃ q : Nat, ps[t]? = some (q : Int) ∧ q < n ∧ (ileave xs (placesL c r))[q]? = xs[t]?) ∧
      (∀ q, q < n → ∃ t, t < n ∧ ps[t]? = some (q : Int)) := by
  obtain ⟨R, rfl⟩ := Int.eq_ofNat_of_zero_le (show 0 ≤ r by omega)
  obtain ⟨C, rfl⟩ := Int.eq_ofNat_of_zero_le (show 0 ≤ c by omega)
  have heN : R * C = n := by exact_mod_cast h3
  have heN' : C * R = n := by rw [Nat.mul_comm]; exact heN
  refine ⟨placesTo R C C, by simp [placesL], by rw [placesTo_length]; exact heN', by simp [ileave_len, placesL, placesTo_length]; exact heN, fun t ht => ?_, fun q hq => ?_⟩
  · have hq := plc_lt (R := R) (C := C) (t := t) (by omega)
    refine ⟨plc R C t, placesTo_get C t (by omega), by omega, ?_⟩
    have := ileave_get (xs := xs) (R := C) (C := R) (t := plc R C t) hq (by omega)
    simp only [placesL, Int.toNat_natCast]
    rw [this, plc_inv (by omega)]
  · have ht := plc_lt (R := C) (C := R) (t := q) (by omega)
    refine ⟨plc C R q, by omega, ?_⟩
    rw [placesTo_get C _ ht, plc_inv (by omega)]

theorem iset {ys : List Int} {q : Nat} {x : Int} : (ints ys).set q (.int .i64 x) = ints (ys.set q x) := by simp [ints, List.map_set]
theorem rep_ints (n : Nat) (x : Int) : List.replicate n (Value.int .i64 x) = ints (List.replicate n x) := by simp [ints]