/- Rows and columns of the interleaver: the list of places, by both programs. -/
import Derived.Test.YtpnhfdppndcpnaaInt
namespace Go.Proofs.Ytpnhfdppndcpnaa
open Go.RowKit
set_option maxRecDepth 100000
set_option linter.unusedVariables false

/-- Rows and columns are those of a table. -/
def tableOk (r c : Int) : Bool := inR 1 40 r && inR 1 40 c && decide (r * c ≤ 1200)

theorem tableOk_true {r c : Int} (h : tableOk r c = true) : (1 ≤ r ∧ r ≤ 40) ∧ (1 ≤ c ∧ c ≤ 40) ∧ r * c ≤ 1200 := by
  simp only [tableOk, inR, Bool.and_eq_true, decide_eq_true_eq] at h
  omega

theorem mul_bd {r c : Int} (h1 : 1 ≤ r ∧ r ≤ 40) (h2 : 1 ≤ c ∧ c ≤ 40) : 1 ≤ r * c ∧ r * c ≤ 1600 := by
  obtain ⟨a, b⟩ := h1; obtain ⟨d, e⟩ := h2
  have := Int.mul_le_mul b e (by omega) (by omega)
  have := Int.mul_le_mul a d (by omega) (by omega)
  omega

theorem isTable_any (r c : Int) (w : World) : Calls Try.prog 26 #[.int .i64 r, .int .i64 c] w fun e w' => e = .returned (.bool (tableOk r c)) ∧ w = w' := by
  cases h1 : inR 1 40 r
  · go_enter Try.func26, Try.ntmps26
    go_wp2_with (go_at_call 27; refine (within_any _ _ _ _).mono ?_; rintro e w' ⟨rfl, rfl⟩)
    go_ret
    exact ⟨by simp [tableOk, h1], rfl⟩
  cases h2 : inR 1 40 c
  · go_enter Try.func26, Try.ntmps26
    go_wp2_with (go_at_call 27; refine (within_any _ _ _ _).mono ?_; rintro e w' ⟨rfl, rfl⟩)
    go_ret
    exact ⟨by simp [tableOk, h1, h2], rfl⟩
  have g : (1 ≤ r ∧ r ≤ 40) ∧ (1 ≤ c ∧ c ≤ 40) := by simp [inR] at h1 h2; omega
  obtain ⟨m1, m2⟩ := mul_bd g.1 g.2
  clear g
  go_enter Try.func26, Try.ntmps26
  go_wp2_with (go_at_call 27; refine (within_any _ _ _ _).mono ?_; rintro e w' ⟨rfl, rfl⟩)
  go_ret
  exact ⟨by simp [tableOk, h1, h2], rfl⟩

theorem l26Table_any (r c : Int) (w : World) : Calls Try.prog 22 #[.int .i64 r, .int .i64 c] w fun e w' => e = .returned (.bool (tableOk r c)) ∧ w = w' := by
  cases h1 : inR 1 40 r
  · go_enter Try.func22, Try.ntmps22
    go_wp2_with (go_at_call 23; refine (l01In_any _ _ _ _).mono ?_; rintro e w' ⟨rfl, rfl⟩)
    go_ret
    exact ⟨by simp [tableOk, h1], rfl⟩
  cases h2 : inR 1 40 c
  · go_enter Try.func22, Try.ntmps22
    go_wp2_with (go_at_call 23; refine (l01In_any _ _ _ _).mono ?_; rintro e w' ⟨rfl, rfl⟩)
    go_ret
    exact ⟨by simp [tableOk, h1, h2], rfl⟩
  have g : (1 ≤ r ∧ r ≤ 40) ∧ (1 ≤ c ∧ c ≤ 40) := by simp [inR] at h1 h2; omega
  obtain ⟨m1, m2⟩ := mul_bd g.1 g.2
  clear g
  go_enter Try.func22, Try.ntmps22
  go_wp2_with (go_at_call 23; refine (l01In_any _ _ _ _).mono ?_; rintro e w' ⟨rfl, rfl⟩)
  go_ret
  exact ⟨by simp [tableOk, h1, h2], rfl⟩

/-- The places of the first k columns. -/
def placesTo (rows cols : Nat) (k : Nat) : List Int := (List.range k).flatMap fun (c : Nat) => (List.range rows).map fun (r : Nat) => (r : Int) * cols + c
def placesL (r c : Int) : List Int := placesTo r.toNat c.toNat c.toNat
/-- .. and of the first j rows of column k. -/
def placesAt (rows cols : Nat) (k j : Nat) : List Int := placesTo rows cols k ++ (List.range j).map fun (r : Nat) => (r : Int) * cols + k

theorem placesTo_length (rows cols k : Nat) : (placesTo rows cols k).length = k * rows := by
  induction k with
  | zero => simp [placesTo]
  | succ k ih => simp only [placesTo, List.range_succ, List.flatMap_append, List.length_append] at ih ⊢; simp [ih, Nat.succ_mul]
theorem placesAt_zero (rows cols k : Nat) : placesAt rows cols k 0 = placesTo rows cols k := by simp [placesAt]
theorem placesAt_full (rows cols k : Nat) : placesAt rows cols k rows = placesTo rows cols (k + 1) := by simp [placesAt, placesTo, List.range_succ]
theorem placesAt_succ (rows cols k j : Nat) : placesAt rows cols k (j + 1) = placesAt rows cols k j ++ [(j : Int) * cols + k] := by simp [placesAt, List.range_succ]
theorem placesAt_length (rows cols k j : Nat) : (placesAt rows cols k j).length = k * rows + j := by simp [placesAt, placesTo_length]

theorem placesAt_bd {rows cols k j : Nat} (h1 : rows ≤ 40) (h2 : cols ≤ 40) (hk : k ≤ cols) (hj : j ≤ rows) : k * rows + j ≤ 1640 := by
  have := Nat.mul_le_mul hk h1
  omega

theorem places_any (r c : Int) (w : World) (h1 : 1 ≤ r ∧ r ≤ 40) (h2 : 1 ≤ c ∧ c ≤ 40) :
    Calls Try.prog 30 #[.int .i64 r, .int .i64 c] w fun e w' => ∃ a n cp, e = .returned (.slice a n cp) ∧ Own w' w.heap.size w'.heap.size 2 1 a n cp (ints (placesL r c)) ∧ Below w.heap.size w w' := by
  obtain ⟨R, rfl⟩ := Int.eq_ofNat_of_zero_le (show 0 ≤ r by omega)
  obtain ⟨C, rfl⟩ := Int.eq_ofNat_of_zero_le (show 0 ≤ c by omega)
  obtain ⟨h11, h12⟩ := h1
  obtain ⟨h21, h22⟩ := h2
  go_enter Try.func30, Try.ntmps30
  go_wp2
  go_loopw [5, 9] (fun l i wr => ∃ (k : Nat) (a : Option Addr) (n cp : Nat), k ≤ C ∧ i = .int .i64 k ∧ l = .slice a n cp ∧ Own wr w.heap.size wr.heap.size 2 1 a n cp (ints (placesTo R C k)) ∧ Below w.heap.size w wr) (fun _ i _ => C - (intOf i).toNat)
  case atStart => exact ⟨0, none, 0, 0, Nat.zero_le _, rfl, rfl, Own.nil_ _ _ _ _ _, Below.refl _ _⟩
  case round =>
    obtain ⟨k, a, n, cp, hk, rfl, rfl, hown, hbel⟩ := hrel
    by_cases hlt : k < C
    · rename_i wr _
      obtain ⟨wo, rfl⟩ : ∃ wo : World, wo = wr := ⟨_, rfl⟩
      go_wp2
      go_loopw [5, 13] (fun l i wr => ∃ (j : Nat) (a : Option Addr) (n cp : Nat), j ≤ R ∧ i = .int .i64 j ∧ l = .slice a n cp ∧ Own wr w.heap.size wr.heap.size 2 1 a n cp (ints (placesAt R C k j)) ∧ Below w.heap.size w wr) (fun _ i _ => R - (intOf i).toNat)
      case atStart => exact ⟨0, a, n, cp, Nat.zero_le _, rfl, rfl, by rw [placesAt_zero]; exact hown, hbel⟩
      case round =>
        clear hown hbel
        obtain ⟨j, a, n, cp, hj, rfl, rfl, hown, hbel⟩ := hrel
        by_cases hjt : j < R
        · have hn : n ≤ 1640 := by
            have := hown.row.len; rw [placesAt_length] at this; have := placesAt_bd (rows := R) (cols := C) (k := k) (j := j) (by omega) (by omega) (by omega) (by omega); omega
          have hm0 : 0 ≤ (j : Int) * (C : Int) := Int.mul_nonneg (by omega) (by omega)
          have hm1 : (j : Int) * (C : Int) ≤ 40 * 40 := Int.mul_le_mul (by omega) (by omega) (by omega) (by omega)
          go_wp2_with (at_builtin; refine wpList_app _ rfl (.tmp 16) (.tmp 22) _ rfl Try.underlying22 info_i64 rfl (by decide) rfl (hown.alloc _) rfl (Row.one _ _ _) (ints_one [_]) (by decide) (by simp only [maxLen]; omega) (by omega) (by have := hbel.size; simp; omega) ?_; intro A2 c2 w2 hown2 hb2 _)
          go_roundw
          case rel => exact ⟨j + 1, _, _, _, by omega, by go_num, rfl, by rw [placesAt_succ, ints_app]; exact hown2, (hbel.alloc hbel.size _).trans hb2⟩
          case measure => simp [intOf]; omega
        · obtain rfl : j = R := by omega
          rw [placesAt_full] at hown
          go_wp2
          go_roundw
          case rel => exact ⟨k + 1, _, _, _, by omega, by go_num, rfl, hown, hbel⟩
          case measure => simp [intOf]; omega
    · obtain rfl : k = C := by omega
      go_wp2
      go_ret
      exact ⟨_, _, _, rfl, by simpa [placesL] using hown, hbel⟩

theorem l26From_any (r c : Int) (w : World) (h1 : 1 ≤ r ∧ r ≤ 40) (h2 : 1 ≤ c ∧ c ≤ 40) :
    Calls Try.prog 25 #[.int .i64 r, .int .i64 c] w fun e w' => ∃ a n cp, e = .returned (.slice a n cp) ∧ Own w' w.heap.size w'.heap.size 2 1 a n cp (ints (placesL r c)) ∧ Below w.heap.size w w' := by
  obtain ⟨R, rfl⟩ := Int.eq_ofNat_of_zero_le (show 0 ≤ r by omega)
  obtain ⟨C, rfl⟩ := Int.eq_ofNat_of_zero_le (show 0 ≤ c by omega)
  obtain ⟨h11, h12⟩ := h1
  obtain ⟨h21, h22⟩ := h2
  go_enter Try.func25, Try.ntmps25
  go_wp2
  go_loopw [5, 6] (fun l i wr => ∃ (k : Nat) (a : Option Addr) (n cp : Nat), k ≤ C ∧ i = .int .i64 k ∧ l = .slice a n cp ∧ Own wr w.heap.size wr.heap.size 2 1 a n cp (ints (placesTo R C k)) ∧ Below w.heap.size w wr) (fun _ i _ => C - (intOf i).toNat)
  case atStart => exact ⟨0, _, 0, 0, Nat.zero_le _, rfl, rfl, (Own.lit0 _ _ _).mono (Nat.le_refl _) (by simp), (Below.refl _ _).alloc (Nat.le_refl _) _⟩
  case round =>
    obtain ⟨k, a, n, cp, hk, rfl, rfl, hown, hbel⟩ := hrel
    by_cases hlt : k < C
    · rename_i wr _
      obtain ⟨wo, rfl⟩ : ∃ wo : World, wo = wr := ⟨_, rfl⟩
      go_wp2
      go_loopw [5, 7] (fun l i wr => ∃ (j : Nat) (a : Option Addr) (n cp : Nat), j ≤ R ∧ i = .int .i64 j ∧ l = .slice a n cp ∧ Own wr w.heap.size wr.heap.size 2 1 a n cp (ints (placesAt R C k j)) ∧ Below w.heap.size w wr) (fun _ i _ => R - (intOf i).toNat)
      case atStart => exact ⟨0, a, n, cp, Nat.zero_le _, rfl, rfl, by rw [placesAt_zero]; exact hown, hbel⟩
      case round =>
        clear hown hbel
        obtain ⟨j, a, n, cp, hj, rfl, rfl, hown, hbel⟩ := hrel
        by_cases hjt : j < R
        · have hn : n ≤ 1640 := by
            have := hown.row.len; rw [placesAt_length] at this; have := placesAt_bd (rows := R) (cols := C) (k := k) (j := j) (by omega) (by omega) (by omega) (by omega); omega
          have hm0 : 0 ≤ (j : Int) * (C : Int) := Int.mul_nonneg (by omega) (by omega)
          have hm1 : (j : Int) * (C : Int) ≤ 40 * 40 := Int.mul_le_mul (by omega) (by omega) (by omega) (by omega)
          go_wp2_with (at_builtin; refine wpList_app _ rfl (.tmp 19) (.tmp 25) _ rfl Try.underlying22 info_i64 rfl (by decide) rfl (hown.alloc _) rfl (Row.one _ _ _) (ints_one [_]) (by decide) (by simp only [maxLen]; omega) (by omega) (by have := hbel.size; simp; omega) ?_; intro A2 c2 w2 hown2 hb2 _)
          go_roundw
          case rel => exact ⟨j + 1, _, _, _, by omega, by go_num, rfl, by rw [placesAt_succ, ints_app]; exact hown2, (hbel.alloc hbel.size _).trans hb2⟩
          case measure => simp [intOf]; omega
        · obtain rfl : j = R := by omega
          rw [placesAt_full] at hown
          go_wp2
          go_roundw
          case rel => exact ⟨k + 1, _, _, _, by omega, by go_num, rfl, hown, hbel⟩
          case measure => simp [intOf]; omega
    · obtain rfl : k = C := by omega
      go_wp2
      go_ret
      exact ⟨_, _, _, rfl, by simpa [placesL] using hown, hbel⟩

end Go.Proofs.Ytpnhfdppndcpnaa
