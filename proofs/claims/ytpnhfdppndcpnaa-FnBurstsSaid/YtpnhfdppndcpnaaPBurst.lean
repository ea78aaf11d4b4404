/- Bits in a row come from places that lie apart: plain. -/
import Derived.Test.YtpnhfdppndcpnaaBurst
import Derived.Test.YtpnhfdppndcpnaaIleave
import Derived.Test.YtpnhfdppndcpnaaLeastD
namespace Go.Proofs.Ytpnhfdppndcpnaa
open Go.RowKit
set_option maxRecDepth 100000
set_option linter.unusedVariables false

theorem apart_plc {R C t1 t2 : Nat} (h1 : t1 < t2) (h2 : t2 < t1 + R) (h3 : t2 < C * R) : plc R C t1 + C ≤ plc R C t2 ∨ (plc R C t2 + C ≤ plc R C t1 + 1 ∧ 2 ≤ C) := by
  have hR : 0 < R := by omega
  have e1 := Nat.div_add_mod t1 R
  have e2 := Nat.div_add_mod t2 R
  have hq1 : t1 / R ≤ t2 / R := Nat.div_le_div_right (by omega)
  have hq2 : t2 / R ≤ t1 / R + 1 := by
    have := Nat.div_le_div_right (c := R) (show t2 ≤ t1 + R by omega)
    rwa [Nat.add_div_right t1 hR] at this
  have hqC : t2 / R < C := Nat.div_lt_of_lt_mul (by rwa [Nat.mul_comm] at h3)
  unfold plc
  obtain ⟨q1, hq1e⟩ : ∃ q, t1 / R = q := ⟨_, rfl⟩
  obtain ⟨r1, hr1e⟩ : ∃ q, t1 % R = q := ⟨_, rfl⟩
  obtain ⟨r2, hr2e⟩ : ∃ q, t2 % R = q := ⟨_, rfl⟩
  rw [hq1e, hr1e] at e1
  rw [hr2e] at e2
  rw [hq1e] at hq1 hq2 ⊢
  rw [hr1e, hr2e]
  rcases Nat.lt_or_ge (t2 / R) (q1 + 1) with hc | hc
  · left
    have hq : t2 / R = q1 := by omega
    rw [hq] at e2 ⊢
    have hr : r1 + 1 ≤ r2 := by omega
    have := Nat.mul_le_mul_right C hr
    rw [Nat.add_mul, Nat.one_mul] at this
    omega
  · right
    have hq : t2 / R = q1 + 1 := by omega
    rw [hq] at e2 hqC ⊢
    rw [Nat.mul_add, Nat.mul_one] at e2
    have hr : r2 + 1 ≤ r1 := by omega
    have := Nat.mul_le_mul_right C hr
    rw [Nat.add_mul, Nat.one_mul] at this
    omega

def Ap (g a b : Int) : Prop := a + g ≤ b ∨ b + g ≤ a
theorem burst_apart {R C F L : Nat} (hL : L ≤ R) (hF : F + L ≤ C * R) (hC : 1 ≤ C) : (((placesTo R C C).drop F).take L).Pairwise (Ap (if C = 1 then 1 else (C : Int) - 1)) := by
  rw [List.pairwise_iff_getElem]
  intro i j hi hj hij
  rw [List.length_take, List.length_drop, placesTo_length] at hi hj
  have gi : (placesTo R C C)[F + i]? = some ((plc R C (F + i) : Nat) : Int) := placesTo_get C (F + i) (by omega)
  have gj : (placesTo R C C)[F + j]? = some ((plc R C (F + j) : Nat) : Int) := placesTo_get C (F + j) (by omega)
  have ei : (((placesTo R C C).drop F).take L)[i]'(by rw [List.length_take, List.length_drop, placesTo_length]; omega) = ((plc R C (F + i) : Nat) : Int) := by
    rw [List.getElem_take, List.getElem_drop]
    exact (List.getElem?_eq_some_iff.1 gi).2
  have ej : (((placesTo R C C).drop F).take L)[j]'(by rw [List.length_take, List.length_drop, placesTo_length]; omega) = ((plc R C (F + j) : Nat) : Int) := by
    rw [List.getElem_take, List.getElem_drop]
    exact (List.getElem?_eq_some_iff.1 gj).2
  rw [ei, ej]
  unfold Ap
  rcases apart_plc (R := R) (C := C) (t1 := F + i) (t2 := F + j) (by omega) (by omega) (by omega) with h | ⟨h, h2⟩
  · left; split <;> omega
  · right; rw [if_neg (by omega)]; omega
theorem Ap.symm' {g a b : Int} (h : Ap g a b) : Ap g b a := Or.symm h
theorem sorted_gap {g : Int} (hg : 1 ≤ g) {xs ys : List Int} (hp : ys.Perm xs) (hs : ys.Pairwise (· ≤ ·)) (ha : xs.Pairwise (Ap g)) : ys.Pairwise (fun a b => a + g ≤ b) := by
  have hy : ys.Pairwise (Ap g) := (hp.pairwise_iff (fun h => Ap.symm' h)).2 ha
  rw [List.pairwise_iff_getElem] at hy hs ⊢
  intro i j hi hj hij
  have h1 := hy i j hi hj hij
  have h2 := hs i j hi hj hij
  rcases h1 with h1 | h1 <;> omega
theorem rises_of {g n : Int} (hg : 1 ≤ g) : ∀ (xs : List Int) (p : Option Int), (∀ x ∈ xs, 0 ≤ x ∧ x < n) → xs.Pairwise (fun a b => a + g ≤ b) → (∀ y, p = some y → ∀ x ∈ xs, y < x) → rises n p xs = true
  | [], _, _, _, _ => rfl
  | x :: t, p, hb, hp, hq => by
    have h1 := hb x (by simp)
    have h2 := List.pairwise_cons.1 hp
    rw [rises, rises_of hg t (some x) (fun z hz => hb z (List.mem_cons_of_mem _ hz)) h2.2 (fun y hy z hz => by injection hy with hy; subst hy; have := h2.1 z hz; omega)]
    have h3 : gapOk p x = true := by
      cases p with
      | none => rfl
      | some y => simpa [gapOk] using hq y rfl x (by simp)
    simp [h1, h3]
theorem ld_ge {g : Int} : ∀ (xs : List Int) (p : Int) (m : Option Int), (p :: xs).Pairwise (fun a b => a + g ≤ b) → (m = none → xs ≠ []) → (∀ v, m = some v → g ≤ v) → g ≤ ld p m xs
  | [], p, m, _, h1, h2 => by
    cases m with
    | none => exact absurd rfl (h1 rfl)
    | some v => exact h2 v rfl
  | x :: t, p, m, hp, h1, h2 => by
    have h3 := List.pairwise_cons.1 hp
    have h4 := h3.1 x (by simp)
    rw [ld]
    refine ld_ge t x _ h3.2 (fun h => by cases h) (fun v hv => ?_)
    injection hv with hv
    subst hv
    cases m with
    | none => show g ≤ x - p; omega
    | some v =>
      have := h2 v rfl
      show g ≤ if x - p < v then x - p else v
      split <;> omega
theorem burst_facts {r c f l : Int} (h : burstOk r c f l = true) (h2 : 2 ≤ l) (h3 : l ≤ r) :
    ∃ d, leastDistance (burstPlaces r c f l).1 = (d, 0) ∧ c - 1 ≤ d ∧ ((burstPlaces r c f l).1.length : Int) = l := by
  have h' := h
  simp only [burstOk, Bool.and_eq_true, decide_eq_true_eq] at h'
  obtain ⟨ht, hf, hl, hfl⟩ := h'
  obtain ⟨b1, b2, b3⟩ := tableOk_true ht
  have hn := burst_nat b1 b2
  rw [burst_yes h]
  obtain ⟨R, rfl⟩ := Int.eq_ofNat_of_zero_le (show 0 ≤ r by omega)
  obtain ⟨C, rfl⟩ := Int.eq_ofNat_of_zero_le (show 0 ≤ c by omega)
  obtain ⟨F, rfl⟩ := Int.eq_ofNat_of_zero_le hf
  obtain ⟨L, rfl⟩ := Int.eq_ofNat_of_zero_le hl
  simp only [Int.toNat_natCast, placesL] at hn ⊢
  have hFL : F + L ≤ C * R := by omega
  have hap := burst_apart (R := R) (C := C) (F := F) (L := L) (by omega) hFL (by omega)
  obtain ⟨zs, hz⟩ : ∃ zs, ((placesTo R C C).drop F).take L = zs := ⟨_, rfl⟩
  have hzl : zs.length = L := by rw [← hz, List.length_take, List.length_drop, placesTo_length]; omega
  have hzb : ∀ x ∈ zs, 0 ≤ x ∧ x < 1200 := by
    intro x hx
    obtain ⟨i, hi⟩ := List.mem_iff_getElem?.1 hx
    rw [← hz] at hi
    have hil : i < L := by have := (List.getElem?_eq_some_iff.1 hi).1; rw [List.length_take] at this; omega
    rw [List.getElem?_take_of_lt hil, List.getElem?_drop] at hi
    have gi := placesTo_get (R := R) (C := C) C (F + i) (by omega)
    rw [gi] at hi
    injection hi with hi
    have hp := plc_lt (R := R) (C := C) (t := F + i) (by omega)
    have hRC : ((R * C : Nat) : Int) ≤ 1200 := by simpa using b3
    omega
  rw [hz] at hap ⊢
  obtain ⟨g, hg⟩ : ∃ g : Int, (if C = 1 then 1 else (C : Int) - 1) = g := ⟨_, rfl⟩
  rw [hg] at hap
  have hg1 : 1 ≤ g ∧ (C : Int) - 1 ≤ g := by rw [← hg]; split <;> omega
  have hgap := sorted_gap hg1.1 (sortI_perm zs) (sortI_sorted zs) hap
  have hri : rises 1200 none (sortI zs) = true := rises_of hg1.1 _ _ (fun x hx => hzb x ((sortI_perm zs).mem_iff.1 hx)) hgap (fun y hy => by cases hy)
  refine ⟨_, leastDistance_yes hri, ?_, by rw [sortI_length]; omega⟩
  have hsl := sortI_length zs
  cases hs : sortI zs with
  | nil => rw [hs] at hsl; simp at hsl; omega
  | cons x t =>
    rw [hs] at hgap hsl
    have := ld_ge t x none hgap (fun _ => by intro h0; subst h0; simp at hsl; omega) (fun v hv => by cases hv)
    show (C : Int) - 1 ≤ ld x none t
    omega

/-! ### RowFill -/
def rowFill (n c : Int) : Int × Int := if inR 0 1200 n && inR 1 40 c then ((c - n % c) % c, 0) else (0, 2)
theorem fill_mod {a b : Int} (hb : 1 ≤ b) : (a + (b - a % b) % b) % b = 0 ∧ 0 ≤ (b - a % b) % b ∧ (b - a % b) % b < b := by
  have h1 : 0 ≤ a % b := Int.emod_nonneg _ (by omega)
  have h2 : a % b < b := Int.emod_lt_of_pos _ (by omega)
  refine ⟨?_, Int.emod_nonneg _ (by omega), Int.emod_lt_of_pos _ (by omega)⟩
  by_cases h0 : a % b = 0
  · rw [h0, Int.sub_zero, Int.emod_self, Int.add_zero, h0]
  · rw [Int.emod_eq_of_lt (a := b - a % b) (by omega) (by omega)]
    have e := Int.emod_add_mul_ediv a b
    have e2 : a + (b - a % b) = b * (a / b + 1) := by rw [Int.mul_add, Int.mul_one]; omega
    rw [e2, Int.mul_emod_right]
theorem rowFill_facts {a b : Int} (h : (rowFill a b).2 = 0) : (0 ≤ a ∧ a ≤ 1200) ∧ (1 ≤ b ∧ b ≤ 40) ∧ (a + (rowFill a b).1) % b = 0 ∧ 0 ≤ (rowFill a b).1 ∧ (rowFill a b).1 < b := by
  unfold rowFill at h ⊢
  split at h
  · rename_i hh
    rw [if_pos hh]
    simp only [inR, Bool.and_eq_true, decide_eq_true_eq] at hh
    exact ⟨hh.1, hh.2, fill_mod hh.2.1⟩
  · simp at h

theorem rowFill_spec (n c : Int) (w : World) : Calls Try.prog 17 #[.int .i64 n, .int .i64 c] w fun e w' => e = .returned (.tuple #[.int .i64 (rowFill n c).1, .int .i64 (rowFill n c).2]) ∧ Below w.heap.size w w' := by
  cases h1 : inR 0 1200 n
  · go_enter Try.func17, Try.ntmps17
    go_wp2_with (go_at_call 23; refine (l01In_any _ _ _ _).mono ?_; rintro e w' ⟨rfl, rfl⟩)
    go_ret2
    exact ⟨by simp [rowFill, h1], Below.refl _ _⟩
  cases h2 : inR 1 40 c
  · go_enter Try.func17, Try.ntmps17
    go_wp2_with (go_at_call 23; refine (l01In_any _ _ _ _).mono ?_; rintro e w' ⟨rfl, rfl⟩)
    go_ret2
    exact ⟨by simp [rowFill, h1, h2], Below.refl _ _⟩
  have g : (0 ≤ n ∧ n ≤ 1200) ∧ (1 ≤ c ∧ c ≤ 40) := by simp [inR] at h1 h2; omega
  obtain ⟨⟨_, _⟩, _, _⟩ := g
  have hz : (c == 0) = false := by simp; omega
  have hm : 0 ≤ n % c := Int.emod_nonneg _ (by omega)
  have hm2 : n % c < c := Int.emod_lt_of_pos _ (by omega)
  go_enter Try.func17, Try.ntmps17
  go_wp2_with (go_at_call 23; refine (l01In_any _ _ _ _).mono ?_; rintro e w' ⟨rfl, rfl⟩)
  go_ret2
  exact ⟨by simp [rowFill, h1, h2], Below.refl _ _⟩

theorem rowFill_impl (n c : Int) (w : World) : Calls Try.prog 16 #[.int .i64 n, .int .i64 c] w fun e w' => e = .returned (.tuple #[.int .i64 (rowFill n c).1, .int .i64 (rowFill n c).2]) ∧ Below w.heap.size w w' := by
  cases h1 : inR 0 1200 n
  · go_enter Try.func16, Try.ntmps16
    go_wp2_with (go_at_call 27; refine (within_any _ _ _ _).mono ?_; rintro e w' ⟨rfl, rfl⟩)
    go_ret2
    exact ⟨by simp [rowFill, h1], Below.refl _ _⟩
  cases h2 : inR 1 40 c
  · go_enter Try.func16, Try.ntmps16
    go_wp2_with (go_at_call 27; refine (within_any _ _ _ _).mono ?_; rintro e w' ⟨rfl, rfl⟩)
    go_ret2
    exact ⟨by simp [rowFill, h1, h2], Below.refl _ _⟩
  have g : (0 ≤ n ∧ n ≤ 1200) ∧ (1 ≤ c ∧ c ≤ 40) := by simp [inR] at h1 h2; omega
  obtain ⟨⟨_, _⟩, _, _⟩ := g
  have hz : (c == 0) = false := by simp; omega
  have hm : 0 ≤ n % c := Int.emod_nonneg _ (by omega)
  have hm2 : n % c < c := Int.emod_lt_of_pos _ (by omega)
  go_enter Try.func16, Try.ntmps16
  go_wp2_with (go_at_call 27; refine (within_any _ _ _ _).mono ?_; rintro e w' ⟨rfl, rfl⟩)
  go_ret2
  exact ⟨by simp [rowFill, h1, h2], Below.refl _ _⟩
end Go.Proofs.Ytpnhfdppndcpnaa
