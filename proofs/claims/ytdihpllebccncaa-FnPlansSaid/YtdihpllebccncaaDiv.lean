/- Rounded division, by both programs. -/
import Derived.Test.YtdihpllebccncaaInt
namespace Go.Proofs.Ytdihpllebccncaa
open Go.RowKit
set_option maxRecDepth 100000
set_option linter.unusedVariables false

theorem tdiv_pos {a b : Int} (h : 0 ≤ a) : Int.tdiv a b = a / b ∧ Int.tmod a b = a % b := ⟨Int.tdiv_eq_ediv_of_nonneg h, Int.tmod_eq_emod_of_nonneg h⟩
theorem tdiv_neg {a b : Int} (h : a < 0) (hb : 0 < b) (hd : a % b = 0) : Int.tdiv a b = a / b ∧ Int.tmod a b = 0 := by
  have e : Int.tdiv a b = a / b := by rw [Int.tdiv_eq_ediv, if_pos (.inr (Int.dvd_of_emod_eq_zero hd))]; omega
  refine ⟨e, ?_⟩
  rw [Int.tmod_def, e]
  have := Int.mul_ediv_add_emod a b
  omega
theorem tdiv_neg2 {a b : Int} (h : a < 0) (hb : 0 < b) (hd : a % b ≠ 0) : Int.tdiv a b = a / b + 1 ∧ Int.tmod a b ≠ 0 := by
  have hs : b.sign = 1 := Int.sign_eq_one_of_pos hb
  have e : Int.tdiv a b = a / b + 1 := by rw [Int.tdiv_eq_ediv, if_neg (by rintro (h1 | h1); omega; exact hd (Int.emod_eq_zero_of_dvd h1)), hs]
  refine ⟨e, ?_⟩
  rw [Int.tmod_def, e, Int.mul_add, Int.mul_one]
  have := Int.mul_ediv_add_emod a b
  have := Int.emod_lt_of_pos a hb
  omega
theorem ediv_bd {a b B : Int} (h1 : -B ≤ a) (h2 : a ≤ B) (hb : 0 < b) (hB : 0 ≤ B) : -B ≤ a / b ∧ a / b ≤ B := by
  constructor
  · rw [Int.le_ediv_iff_mul_le hb]
    have := Int.mul_le_mul_of_nonneg_left (show (1 : Int) ≤ b by omega) hB
    rw [Int.neg_mul]
    omega
  · have := Int.ediv_le_ediv hb h2
    have h3 : B / b ≤ B := Int.ediv_le_self b hB
    omega

theorem floorDiv_any (a b : Int) (w : World) (h1 : -1000000000000000000 ≤ a) (h2 : a ≤ 1000000000000000000) (hb : 0 < b) (hb2 : b ≤ 1000000000000000000) :
    Calls Try.prog 51 #[.int .i64 a, .int .i64 b] w fun e w' => e = .returned (.int .i64 (a / b)) ∧ w = w' := by
  have hq := ediv_bd h1 h2 hb (by omega)
  have hb0 : (b == 0) = false := by simp; omega
  have hb1 : ¬ b < 0 := by omega
  have hbm : (b == -1) = false := by simp; omega
  rcases Int.lt_or_le a 0 with h | h
  · by_cases hd : a % b = 0
    · obtain ⟨e1, e2⟩ := tdiv_neg h hb hd
      go_enter Try.func51, Try.ntmps51
      go_wp2
      all_goals (go_ret; exact ⟨rfl, rfl⟩)
    · obtain ⟨e1, e2⟩ := tdiv_neg2 h hb hd
      have e3 : (Int.tmod a b != 0) = true := by simpa using e2
      have e4 : (Int.tmod a b == 0) = false := by simpa using e2
      go_enter Try.func51, Try.ntmps51
      go_wp2
      all_goals (go_ret; exact ⟨by first | rfl | (congr 2; omega), rfl⟩)
  · obtain ⟨e1, e2⟩ := tdiv_pos (b := b) h
    have h0 : ¬ a < 0 := by omega
    go_enter Try.func51, Try.ntmps51
    go_wp2
    all_goals (go_ret; exact ⟨rfl, rfl⟩)
theorem l01Floor_any (a b : Int) (w : World) (h1 : -1000000000000000000 ≤ a) (h2 : a ≤ 1000000000000000000) (hb : 0 < b) (hb2 : b ≤ 1000000000000000000) :
    Calls Try.prog 66 #[.int .i64 a, .int .i64 b] w fun e w' => e = .returned (.int .i64 (a / b)) ∧ w = w' := by
  have hq := ediv_bd h1 h2 hb (by omega)
  have hb0 : (b == 0) = false := by simp; omega
  have hb1 : ¬ b < 0 := by omega
  have hbm : (b == -1) = false := by simp; omega
  rcases Int.lt_or_le a 0 with h | h
  · by_cases hd : a % b = 0
    · obtain ⟨e1, e2⟩ := tdiv_neg h hb hd
      go_enter Try.func66, Try.ntmps66
      go_wp2
      all_goals (go_ret; exact ⟨rfl, rfl⟩)
    · obtain ⟨e1, e2⟩ := tdiv_neg2 h hb hd
      have e3 : (Int.tmod a b != 0) = true := by simpa using e2
      have e4 : (Int.tmod a b == 0) = false := by simpa using e2
      go_enter Try.func66, Try.ntmps66
      go_wp2
      all_goals (go_ret; exact ⟨by first | rfl | (congr 2; omega), rfl⟩)
  · obtain ⟨e1, e2⟩ := tdiv_pos (b := b) h
    have h0 : ¬ a < 0 := by omega
    go_enter Try.func66, Try.ntmps66
    go_wp2
    all_goals (go_ret; exact ⟨rfl, rfl⟩)

theorem ceilDiv_any (a b : Int) (w : World) (h1 : -1000000000000000000 ≤ a) (h2 : a ≤ 1000000000000000000) (hb : 0 < b) (hb2 : b ≤ 1000000000000000000) :
    Calls Try.prog 45 #[.int .i64 a, .int .i64 b] w fun e w' => e = .returned (.int .i64 (-(-a / b))) ∧ w = w' := by
  have hq := ediv_bd (a := -a) (B := 1000000000000000000) (by omega) (by omega) hb (by omega)
  go_enter Try.func45, Try.ntmps45
  go_wp2_with (go_at_call 51; refine (floorDiv_any _ _ _ (by omega) (by omega) hb hb2).mono ?_; rintro e w' ⟨rfl, rfl⟩)
  go_ret
  exact ⟨rfl, rfl⟩

theorem l01Ceil_any (a b : Int) (w : World) (h1 : -1000000000000000000 ≤ a) (h2 : a ≤ 1000000000000000000) (hb : 0 < b) (hb2 : b ≤ 1000000000000000000) :
    Calls Try.prog 48 #[.int .i64 a, .int .i64 b] w fun e w' => e = .returned (.int .i64 (-(-a / b))) ∧ w = w' := by
  have hq := ediv_bd (a := -a) (B := 1000000000000000000) (by omega) (by omega) hb (by omega)
  go_enter Try.func48, Try.ntmps48
  go_wp2_with (go_at_call 66; refine (l01Floor_any _ _ _ (by omega) (by omega) hb hb2).mono ?_; rintro e w' ⟨rfl, rfl⟩)
  go_ret
  exact ⟨rfl, rfl⟩

end Go.Proofs.Ytdihpllebccncaa
