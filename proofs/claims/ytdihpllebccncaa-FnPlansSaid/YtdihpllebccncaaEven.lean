/- The even plan, by both programs. -/
import Derived.Test.YtdihpllebccncaaDiv
import Derived.Test.YtdihpllebccncaaLib
namespace Go.Proofs.Ytdihpllebccncaa
open Go.RowKit
set_option maxRecDepth 100000
set_option linter.unusedVariables false

theorem isWidth_any (x : Int) (w : World) : Calls Try.prog 43 #[.int .i64 x] w fun e w' => e = .returned (.bool (inR 1 10000 x)) ∧ w = w' := by
  go_enter Try.func43, Try.ntmps43
  go_wp2_with (go_at_call 50; refine (within_any _ _ _ _).mono ?_; rintro e w' ⟨rfl, rfl⟩)
  go_ret
  exact ⟨rfl, rfl⟩

theorem l24Width_any (x : Int) (w : World) : Calls Try.prog 46 #[.int .i64 x] w fun e w' => e = .returned (.bool (inR 1 10000 x)) ∧ w = w' := by
  go_enter Try.func46, Try.ntmps46
  go_wp2_with (go_at_call 47; refine (l01In_any _ _ _ _).mono ?_; rintro e w' ⟨rfl, rfl⟩)
  go_ret
  exact ⟨rfl, rfl⟩

def planOk (W h o : Int) : Bool := inR 1 10000 W && inR 1 10000 h && inR 0 10000 o
theorem planOk_true {W h o : Int} (e : planOk W h o = true) : (1 ≤ W ∧ W ≤ 10000) ∧ (1 ≤ h ∧ h ≤ 10000) ∧ (0 ≤ o ∧ o ≤ 10000) := by
  simp only [planOk, inR, Bool.and_eq_true, decide_eq_true_eq] at e
  omega
def planN (W h o : Int) : Int := 1 + -(-(W - 2 * h) / (2 * h - o))
def planPt (W h o : Int) (k : Nat) : Int := min (h + (k : Int) * (2 * h - o)) (W - h)
def planPts (W h o : Int) (n : Nat) : List Int := (List.range n).map (planPt W h o)
def evenPlan (W h o : Int) : List Int × Int :=
  if !(planOk W h o) then ([], 2) else if 2 * h ≥ W then ([h], 0) else if o ≥ 2 * h then ([], 5) else if planN W h o > 60 then ([], 3) else (planPts W h o (planN W h o).toNat, 0)
theorem evenPlan_no {W h o : Int} (e : planOk W h o = false) : evenPlan W h o = ([], 2) := by simp [evenPlan, e]
theorem evenPlan_one {W h o : Int} (e : planOk W h o = true) (e2 : 2 * h ≥ W) : evenPlan W h o = ([h], 0) := by
  unfold evenPlan; rw [e]; simp only [Bool.not_true, Bool.false_eq_true, if_false]; rw [if_pos e2]
theorem evenPlan_state {W h o : Int} (e : planOk W h o = true) (e2 : ¬ 2 * h ≥ W) (e3 : o ≥ 2 * h) : evenPlan W h o = ([], 5) := by
  unfold evenPlan; rw [e]; simp only [Bool.not_true, Bool.false_eq_true, if_false]; rw [if_neg e2, if_pos e3]
theorem evenPlan_limit {W h o : Int} (e : planOk W h o = true) (e2 : ¬ 2 * h ≥ W) (e3 : ¬ o ≥ 2 * h) (e4 : planN W h o > 60) : evenPlan W h o = ([], 3) := by
  unfold evenPlan; rw [e]; simp only [Bool.not_true, Bool.false_eq_true, if_false]; rw [if_neg e2, if_neg e3, if_pos e4]
theorem evenPlan_yes {W h o : Int} (e : planOk W h o = true) (e2 : ¬ 2 * h ≥ W) (e3 : ¬ o ≥ 2 * h) (e4 : ¬ planN W h o > 60) : evenPlan W h o = (planPts W h o (planN W h o).toNat, 0) := by
  unfold evenPlan; rw [e]; simp only [Bool.not_true, Bool.false_eq_true, if_false]; rw [if_neg e2, if_neg e3, if_neg e4]
theorem evenPlan_len (W h o : Int) : (evenPlan W h o).1.length ≤ 60 := by
  unfold evenPlan
  split
  · simp
  · split
    · simp
    · split
      · simp
      · split
        · simp
        · simp [planPts]; omega
/-- The least number of steps that reach the end. -/
theorem planN_spec {W h o : Int} (e2 : ¬ 2 * h ≥ W) (e3 : ¬ o ≥ 2 * h) : 2 ≤ planN W h o ∧ (planN W h o - 1) * (2 * h - o) ≥ W - 2 * h ∧ (planN W h o - 2) * (2 * h - o) < W - 2 * h := by
  have hs : 0 < 2 * h - o := by omega
  unfold planN
  generalize hq : -(W - 2 * h) / (2 * h - o) = q
  have h1 := Int.mul_ediv_add_emod (-(W - 2 * h)) (2 * h - o)
  have h2 := Int.emod_nonneg (-(W - 2 * h)) (show 2 * h - o ≠ 0 by omega)
  have h3 := Int.emod_lt_of_pos (-(W - 2 * h)) hs
  rw [hq] at h1
  have e1 : (1 + -q - 1) * (2 * h - o) = -((2 * h - o) * q) := by rw [show 1 + -q - 1 = -q by omega, Int.neg_mul, Int.mul_comm]
  have e4 : (1 + -q - 2) * (2 * h - o) = -((2 * h - o) * q) - (2 * h - o) := by
    rw [show 1 + -q - 2 = -q - 1 by omega, Int.sub_mul, Int.neg_mul, Int.mul_comm, Int.one_mul]
  have hq0 : q < 0 := by
    rcases Int.lt_or_le q 0 with hlt | hge
    · exact hlt
    · have := Int.mul_nonneg (show 0 ≤ 2 * h - o by omega) hge
      omega
  refine ⟨by omega, by rw [e1]; omega, by rw [e4]; omega⟩

theorem planPts_succ (W h o : Int) (k : Nat) : planPts W h o (k + 1) = planPts W h o k ++ [planPt W h o k] := by simp [planPts, List.range_succ]
theorem planPts_len (W h o : Int) (k : Nat) : (planPts W h o k).length = k := by simp [planPts]
/-- What the program holds ahead of its last store. -/
def rawPts (h s : Int) (n : Nat) : List Int := (List.range n).map fun (k : Nat) => h + (k : Int) * s
theorem rawPts_succ (h s : Int) (k : Nat) : rawPts h s (k + 1) = rawPts h s k ++ [h + (k : Int) * s] := by simp [rawPts, List.range_succ]
theorem rawPts_len (h s : Int) (k : Nat) : (rawPts h s k).length = k := by simp [rawPts]
theorem raw_plan {W h o : Int} {M : Nat} (e2 : ¬ 2 * h ≥ W) (e3 : ¬ o ≥ 2 * h) (hM : planN W h o = 1 + (M : Int)) : (rawPts h (2 * h - o) (M + 1)).set M (W - h) = planPts W h o (M + 1) := by
  obtain ⟨h1, h2, h3⟩ := planN_spec e2 e3
  rw [hM] at h1 h2 h3
  have hs : 0 < 2 * h - o := by omega
  have e4 : (1 + (M : Int) - 1) * (2 * h - o) = (M : Int) * (2 * h - o) := by rw [show 1 + (M : Int) - 1 = M by omega]
  have e5 : (1 + (M : Int) - 2) * (2 * h - o) = ((M : Int) - 1) * (2 * h - o) := by rw [show 1 + (M : Int) - 2 = M - 1 by omega]
  rw [e4] at h2
  rw [e5] at h3
  rw [rawPts_succ, planPts_succ, List.set_append_right _ _ (by rw [rawPts_len]; exact Nat.le_refl _), rawPts_len, Nat.sub_self, List.set_cons_zero]
  have hl : planPt W h o M = W - h := by
    unfold planPt
    omega
  rw [hl]
  congr 1
  refine List.map_congr_left fun k hk => ?_
  have hkM : k < M := by simpa using hk
  have h5 : (k : Int) * (2 * h - o) ≤ ((M : Int) - 1) * (2 * h - o) := Int.mul_le_mul_of_nonneg_right (by omega) (by omega)
  unfold planPt
  omega

set_option maxHeartbeats 1600000 in
theorem evenPlan_spec (W h o : Int) (w : World) :
    Calls Try.prog 21 #[.int .i64 W, .int .i64 h, .int .i64 o] w fun e w' => ∃ a n cp, e = .returned (.tuple #[.slice a n cp, .int .i64 (evenPlan W h o).2]) ∧ Own w' w.heap.size w'.heap.size 2 1 a n cp (ints (evenPlan W h o).1) ∧ Below w.heap.size w w' := by
  cases c1 : inR 1 10000 W
  · rw [evenPlan_no (by simp [planOk, c1])]
    go_enter Try.func21, Try.ntmps21
    go_wp2_with (first | (go_at_call 46; refine (l24Width_any _ _).mono ?_; rintro e w' ⟨rfl, rfl⟩) | (go_at_call 47; refine (l01In_any _ _ _ _).mono ?_; rintro e w' ⟨rfl, rfl⟩))
    go_ret2
    exact ⟨_, _, _, rfl, Own.nil_ _ _ _ _ _, Below.refl _ _⟩
  cases c2 : inR 1 10000 h
  · rw [evenPlan_no (by simp [planOk, c2])]
    go_enter Try.func21, Try.ntmps21
    go_wp2_with (first | (go_at_call 46; refine (l24Width_any _ _).mono ?_; rintro e w' ⟨rfl, rfl⟩) | (go_at_call 47; refine (l01In_any _ _ _ _).mono ?_; rintro e w' ⟨rfl, rfl⟩))
    go_ret2
    exact ⟨_, _, _, rfl, Own.nil_ _ _ _ _ _, Below.refl _ _⟩
  cases c3 : inR 0 10000 o
  · rw [evenPlan_no (by simp [planOk, c3])]
    go_enter Try.func21, Try.ntmps21
    go_wp2_with (first | (go_at_call 46; refine (l24Width_any _ _).mono ?_; rintro e w' ⟨rfl, rfl⟩) | (go_at_call 47; refine (l01In_any _ _ _ _).mono ?_; rintro e w' ⟨rfl, rfl⟩))
    go_ret2
    exact ⟨_, _, _, rfl, Own.nil_ _ _ _ _ _, Below.refl _ _⟩
  have hok : planOk W h o = true := by simp [planOk, c1, c2, c3]
  obtain ⟨hW, hh, ho⟩ := planOk_true hok
  by_cases e2 : 2 * h ≥ W
  · rw [evenPlan_one hok e2]
    have e2' : W ≤ 2 * h := e2
    go_enter Try.func21, Try.ntmps21
    go_wp2_with (first | (go_at_call 46; refine (l24Width_any _ _).mono ?_; rintro e w' ⟨rfl, rfl⟩) | (go_at_call 47; refine (l01In_any _ _ _ _).mono ?_; rintro e w' ⟨rfl, rfl⟩))
    go_ret2
    exact ⟨_, _, _, rfl, (Own.lit1 _ _ _), by go_grown⟩
  have e2' : ¬ W ≤ 2 * h := e2
  by_cases e3 : o ≥ 2 * h
  · rw [evenPlan_state hok e2 e3]
    have e3' : 2 * h ≤ o := e3
    go_enter Try.func21, Try.ntmps21
    go_wp2_with (first | (go_at_call 46; refine (l24Width_any _ _).mono ?_; rintro e w' ⟨rfl, rfl⟩) | (go_at_call 47; refine (l01In_any _ _ _ _).mono ?_; rintro e w' ⟨rfl, rfl⟩))
    go_ret2
    exact ⟨_, _, _, rfl, Own.nil_ _ _ _ _ _, Below.refl _ _⟩
  have e3' : ¬ 2 * h ≤ o := e3
  obtain ⟨hN2, -, -⟩ := planN_spec e2 e3
  obtain ⟨M, hM⟩ := Int.eq_ofNat_of_zero_le (show 0 ≤ planN W h o - 1 by omega)
  have hMq : -(-(W - 2 * h) / (2 * h - o)) = (M : Int) := by unfold planN at hM; omega
  by_cases e4 : planN W h o > 60
  · rw [evenPlan_limit hok e2 e3 e4]
    have hMb : 1 + (M : Int) > 60 := by omega
    have hMb' : (60 : Int) < 1 + (M : Int) := hMb
    have hMu : (M : Int) ≤ 20000 := by
      have := ediv_bd (a := -(W - 2 * h)) (b := 2 * h - o) (B := 20000) (by omega) (by omega) (by omega) (by omega)
      omega
    replace hMq := Lib.hid hMq
    clear hM e4 hN2
    go_enter Try.func21, Try.ntmps21
    go_wp2_with (first | (go_at_call 46; refine (l24Width_any _ _).mono ?_; rintro e w' ⟨rfl, rfl⟩) | (go_at_call 47; refine (l01In_any _ _ _ _).mono ?_; rintro e w' ⟨rfl, rfl⟩) | fail)
    go_at_call 48
    refine (l01Ceil_any (W - 2 * h) (2 * h - o) _ (by omega) (by omega) (by omega) (by omega)).mono ?_
    rintro e w' ⟨rfl, rfl⟩
    rw [hMq.out]
    go_wp2
    go_ret2
    exact ⟨_, _, _, rfl, Own.nil_ _ _ _ _ _, Below.refl _ _⟩
  · rw [evenPlan_yes hok e2 e3 e4, show (planN W h o).toNat = M + 1 by omega]
    have hMb : ¬ 1 + (M : Int) > 60 := by omega
    have hMb' : ¬ (60 : Int) < 1 + (M : Int) := hMb
    replace hMq := Lib.hid hMq
    clear hM e4 hN2
    go_enter Try.func21, Try.ntmps21
    go_wp2_with (first | (go_at_call 46; refine (l24Width_any _ _).mono ?_; rintro e w' ⟨rfl, rfl⟩) | (go_at_call 47; refine (l01In_any _ _ _ _).mono ?_; rintro e w' ⟨rfl, rfl⟩) | fail)
    go_at_call 48
    refine (l01Ceil_any (W - 2 * h) (2 * h - o) _ (by omega) (by omega) (by omega) (by omega)).mono ?_
    rintro e w' ⟨rfl, rfl⟩
    rw [hMq.out]
    go_wp2
    go_loopw [10, 11] (fun l i wr => ∃ (k : Nat) (a' : Option Addr) (q cp : Nat), k ≤ M + 1 ∧ q = k ∧ i = .int .i64 k ∧ l = .slice a' q cp ∧ Own wr w.heap.size wr.heap.size 2 1 a' q cp (ints (planPts W h o k)) ∧ Below w.heap.size w wr) (fun _ i _ => M + 1 - (intOf i).toNat)
    case atStart => exact ⟨0, _, 0, 0, Nat.zero_le _, rfl, rfl, rfl, (Own.lit0 _ _ _).mono (Nat.le_refl _) (by simp), (Below.refl _ _).alloc (Nat.le_refl _) _⟩
    case round =>
      obtain ⟨k, a', q, cp, hk, hq, rfl, rfl, hown, hbel⟩ := hrel
      have hqk : q ≤ k := by omega
      have hkq : k ≤ q := by omega
      clear hq
      by_cases hlt : k < M + 1
      · have hi : (k : Int) < 1 + (M : Int) := by omega
        have hk0 : 0 ≤ (k : Int) * (2 * h - o) := Int.mul_nonneg (by omega) (by omega)
        have hk1 : (k : Int) * (2 * h - o) ≤ 60 * 20000 := Int.mul_le_mul (by omega) (by omega) (by omega) (by omega)
        go_wp2_with (at_builtin; refine wpList_app _ rfl (.tmp 54) (.tmp 64) _ rfl Try.underlying40 info_i64 rfl (by decide) rfl (hown.alloc _) rfl (Row.one _ _ _) (ints_one [min (h + (k : Int) * (2 * h - o)) (W - h)]) (by decide) (by simp only [maxLen]; omega) (by omega) (by have := hbel.size; simp; omega) ?_; intro A2 c2 w2 hown2 hb2 _)
        go_roundw
        case rel => exact ⟨k + 1, _, _, _, by omega, by omega, by go_num, rfl, by rw [planPts_succ, ints_app]; exact hown2, (hbel.alloc hbel.size _).trans hb2⟩
        case measure => simp [intOf]; omega
      · have hi : ¬ (k : Int) < 1 + (M : Int) := by omega
        obtain rfl : k = M + 1 := by omega
        go_wp2
        go_ret2
        exact ⟨_, _, _, rfl, hown, hbel⟩

set_option maxHeartbeats 1600000 in
theorem evenPlan_impl (W h o : Int) (w : World) :
    Calls Try.prog 20 #[.int .i64 W, .int .i64 h, .int .i64 o] w fun e w' => ∃ a n cp, e = .returned (.tuple #[.slice a n cp, .int .i64 (evenPlan W h o).2]) ∧ Own w' w.heap.size w'.heap.size 2 1 a n cp (ints (evenPlan W h o).1) ∧ Below w.heap.size w w' := by
  cases c1 : inR 1 10000 W
  · rw [evenPlan_no (by simp [planOk, c1])]
    go_enter Try.func20, Try.ntmps20
    go_wp2_with (first | (go_at_call 43; refine (isWidth_any _ _).mono ?_; rintro e w' ⟨rfl, rfl⟩) | (go_at_call 44; refine (isField_any _ _ _ [o] _ (by exact Row.lit _ _ _ _ _ (by simp) (by rfl)) (by omega)).mono ?_; rintro e w' ⟨rfl, rfl⟩))
    go_ret2
    exact ⟨_, _, _, rfl, Own.nil_ _ _ _ _ _, by go_grown⟩
  cases c2 : inR 1 10000 h
  · rw [evenPlan_no (by simp [planOk, c2])]
    go_enter Try.func20, Try.ntmps20
    go_wp2_with (first | (go_at_call 43; refine (isWidth_any _ _).mono ?_; rintro e w' ⟨rfl, rfl⟩) | (go_at_call 44; refine (isField_any _ _ _ [o] _ (by exact Row.lit _ _ _ _ _ (by simp) (by rfl)) (by omega)).mono ?_; rintro e w' ⟨rfl, rfl⟩))
    go_ret2
    exact ⟨_, _, _, rfl, Own.nil_ _ _ _ _ _, by go_grown⟩
  have eo : [o].all (inR 0 10000) = inR 0 10000 o := by simp
  cases c3 : inR 0 10000 o
  · rw [evenPlan_no (by simp [planOk, c3])]
    go_enter Try.func20, Try.ntmps20
    go_wp2_with (first | (go_at_call 43; refine (isWidth_any _ _).mono ?_; rintro e w' ⟨rfl, rfl⟩) | (go_at_call 44; refine (isField_any _ _ _ [o] _ (by exact Row.lit _ _ _ _ _ (by simp) (by rfl)) (by omega)).mono ?_; rintro e w' ⟨rfl, rfl⟩))
    go_ret2
    exact ⟨_, _, _, rfl, Own.nil_ _ _ _ _ _, by go_grown⟩
  have hok : planOk W h o = true := by simp [planOk, c1, c2, c3]
  obtain ⟨hW, hh, ho⟩ := planOk_true hok
  by_cases e2 : 2 * h ≥ W
  · rw [evenPlan_one hok e2]
    have e2' : W ≤ 2 * h := e2
    go_enter Try.func20, Try.ntmps20
    go_wp2_with (first | (go_at_call 43; refine (isWidth_any _ _).mono ?_; rintro e w' ⟨rfl, rfl⟩) | (go_at_call 44; refine (isField_any _ _ _ [o] _ (by exact Row.lit _ _ _ _ _ (by simp) (by rfl)) (by omega)).mono ?_; rintro e w' ⟨rfl, rfl⟩))
    go_ret2
    have es : (w.alloc (.cells #[.int .i64 o] 2)).heap.size = w.heap.size + 1 := by simp
    have hl := Own.lit1 (w.alloc (.cells #[.int .i64 o] 2)) h 2
    rw [es] at hl
    exact ⟨_, _, _, rfl, hl.mono (by omega) (Nat.le_refl _), by go_grown⟩
  have e2' : ¬ W ≤ 2 * h := e2
  by_cases e3 : o ≥ 2 * h
  · rw [evenPlan_state hok e2 e3]
    have e3' : 2 * h ≤ o := e3
    go_enter Try.func20, Try.ntmps20
    go_wp2_with (first | (go_at_call 43; refine (isWidth_any _ _).mono ?_; rintro e w' ⟨rfl, rfl⟩) | (go_at_call 44; refine (isField_any _ _ _ [o] _ (by exact Row.lit _ _ _ _ _ (by simp) (by rfl)) (by omega)).mono ?_; rintro e w' ⟨rfl, rfl⟩))
    go_ret2
    exact ⟨_, _, _, rfl, Own.nil_ _ _ _ _ _, by go_grown⟩
  have e3' : ¬ 2 * h ≤ o := e3
  obtain ⟨hN2, -, -⟩ := planN_spec e2 e3
  obtain ⟨M, hM⟩ := Int.eq_ofNat_of_zero_le (show 0 ≤ planN W h o - 1 by omega)
  have hMq : -(-(W - 2 * h) / (2 * h - o)) = (M : Int) := by unfold planN at hM; omega
  by_cases e4 : planN W h o > 60
  · rw [evenPlan_limit hok e2 e3 e4]
    have hMb : 1 + (M : Int) > 60 := by omega
    have hMb' : (60 : Int) < 1 + (M : Int) := hMb
    have hMu : (M : Int) ≤ 20000 := by
      have := ediv_bd (a := -(W - 2 * h)) (b := 2 * h - o) (B := 20000) (by omega) (by omega) (by omega) (by omega)
      omega
    replace hMq := Lib.hid hMq
    clear hM e4 hN2
    go_enter Try.func20, Try.ntmps20
    go_wp2_with (first | (go_at_call 43; refine (isWidth_any _ _).mono ?_; rintro e w' ⟨rfl, rfl⟩) | (go_at_call 44; refine (isField_any _ _ _ [o] _ (by exact Row.lit _ _ _ _ _ (by simp) (by rfl)) (by omega)).mono ?_; rintro e w' ⟨rfl, rfl⟩) | fail)
    go_at_call 45
    refine (ceilDiv_any (W - 2 * h) (2 * h - o) _ (by omega) (by omega) (by omega) (by omega)).mono ?_
    rintro e w' ⟨rfl, rfl⟩
    rw [hMq.out]
    go_wp2
    go_ret2
    exact ⟨_, _, _, rfl, Own.nil_ _ _ _ _ _, by go_grown⟩
  · rw [evenPlan_yes hok e2 e3 e4, show (planN W h o).toNat = M + 1 by omega]
    have hM' := Lib.hid (raw_plan e2 e3 (show planN W h o = 1 + (M : Int) by omega))
    have hMb : ¬ 1 + (M : Int) > 60 := by omega
    have hMb' : ¬ (60 : Int) < 1 + (M : Int) := hMb
    replace hMq := Lib.hid hMq
    clear hM e4 hN2
    go_enter Try.func20, Try.ntmps20
    go_wp2_with (first | (go_at_call 43; refine (isWidth_any _ _).mono ?_; rintro e w' ⟨rfl, rfl⟩) | (go_at_call 44; refine (isField_any _ _ _ [o] _ (by exact Row.lit _ _ _ _ _ (by simp) (by rfl)) (by omega)).mono ?_; rintro e w' ⟨rfl, rfl⟩) | fail)
    go_at_call 45
    refine (ceilDiv_any (W - 2 * h) (2 * h - o) _ (by omega) (by omega) (by omega) (by omega)).mono ?_
    rintro e w' ⟨rfl, rfl⟩
    rw [hMq.out]
    go_wp2
    have hs0 : 0 ≤ 2 * h - o := by omega
    go_loopw [10, 53] (fun l i wr => ∃ (k : Nat) (a' : Option Addr) (q cp : Nat), k ≤ M + 1 ∧ q = k ∧ i = .int .i64 k ∧ l = .slice a' q cp ∧ Own wr w.heap.size wr.heap.size 2 1 a' q cp (ints (rawPts h (2 * h - o) k)) ∧ Below w.heap.size w wr) (fun _ i _ => M + 1 - (intOf i).toNat)
    case atStart => exact ⟨0, _, 0, 0, Nat.zero_le _, rfl, rfl, rfl, Own.nil_ _ _ _ _ _, by go_grown⟩
    case round =>
      obtain ⟨k, a', q, cp, hk, hq, rfl, rfl, hown, hbel⟩ := hrel
      have hqk : q ≤ k := by omega
      have hkq : k ≤ q := by omega
      clear hq
      by_cases hlt : k < M + 1
      · have hi : (k : Int) < 1 + (M : Int) := by omega
        have hk0 : 0 ≤ (k : Int) * (2 * h - o) := Int.mul_nonneg (by omega) (by omega)
        have hk1 : (k : Int) * (2 * h - o) ≤ 60 * 20000 := Int.mul_le_mul (by omega) (by omega) (by omega) (by omega)
        go_wp2_with (at_builtin; refine wpList_app _ rfl (.tmp 56) (.tmp 62) _ rfl Try.underlying40 info_i64 rfl (by decide) rfl (hown.alloc _) rfl (Row.one _ _ _) (ints_one [h + (k : Int) * (2 * h - o)]) (by decide) (by simp only [maxLen]; omega) (by omega) (by have := hbel.size; simp; omega) ?_; intro A2 c2 w2 hown2 hb2 _)
        go_roundw
        case rel => exact ⟨k + 1, _, _, _, by omega, by omega, by go_num, rfl, by rw [rawPts_succ, ints_app]; exact hown2, (hbel.alloc hbel.size _).trans hb2⟩
        case measure => simp [intOf]; omega
      · have hi : ¬ (k : Int) < 1 + (M : Int) := by omega
        obtain rfl : k = M + 1 := by omega
        obtain rfl : q = M + 1 := by omega
        obtain ⟨g, rfl, hg0, -, hg2⟩ := hown.head (by omega)
        have hfz := hown.frozenAt M
        have hst := hown.stored M (.int .i64 (W - h))
        have hcell : ∃ v, wr.cell? ⟨g, M, none⟩ = some v := by
          refine ⟨_, (hown.cellAt M (by omega)).trans (List.getElem?_eq_getElem ?_)⟩
          have := hown.len; omega
        obtain ⟨v, hcv⟩ := hcell
        rw [show (ints (rawPts h (2 * h - o) (M + 1))).set M (.int .i64 (W - h)) = ints ((rawPts h (2 * h - o) (M + 1)).set M (W - h)) by simp [ints, List.map_set], hM'.out] at hst
        have H := Lib.hid hst; clear hst hown
        go_wp2
        go_ret2
        exact ⟨_, _, _, rfl, H.out.1.mono (Nat.le_refl _) (by simp [World.setCell]), hbel.setCell hg0 _⟩
end Go.Proofs.Ytdihpllebccncaa
