/- Soundings that are valid; their bounds; whether two are near: by both programs. -/
import Derived.Test.YtaimckepaldocaaGreatDoorSnd
import Derived.Deep.QuietTactic
import Derived.BigQuiet
namespace Go.Proofs.YtaimckepaldocaaGreatDoor
open Go.RowKit
set_option maxRecDepth 100000
set_option linter.unusedVariables false

theorem bounds_any (x y d e : Int) (w : World) (h1 : -2000 ≤ d ∧ d ≤ 1000000) (h2 : 0 ≤ e ∧ e ≤ 5000) :
    Calls Tryz.prog 22 #[.agg #[.int .i64 x, .int .i64 y, .int .i64 d, .int .i64 e]] w fun e' w' => e' = .returned (.agg #[.int .i64 (d - e), .int .i64 (d + e)]) ∧ Below w.heap.size w w' := by
  go_enter Tryz.func22, Tryz.ntmps22
  go_wp2
  go_returns
  exact ⟨rfl, by go_grown⟩

theorem l21Bounds_any (x y d e : Int) (w : World) (h1 : -2000 ≤ d ∧ d ≤ 1000000) (h2 : 0 ≤ e ∧ e ≤ 5000) :
    Calls Tryz.prog 25 #[.agg #[.int .i64 x, .int .i64 y, .int .i64 d, .int .i64 e]] w fun e' w' => e' = .returned (.agg #[.int .i64 (d - e), .int .i64 (d + e)]) ∧ Below w.heap.size w w' := by
  go_enter Tryz.func25, Tryz.ntmps25
  go_wp2
  go_returns
  exact ⟨rfl, by go_grown⟩

theorem isSounding_any (x y d e : Int) (w : World) :
    Calls Tryz.prog 36 #[.agg #[.int .i64 x, .int .i64 y, .int .i64 d, .int .i64 e]] w fun e' w' => e' = .returned (.bool (sndOk (x, y, d, e))) ∧ Below w.heap.size w w' := by
  have e1 : [x, y].all (inR 0 10000) = (inR 0 10000 x && inR 0 10000 y) := by simp
  cases c1 : [x, y].all (inR 0 10000)
  · have c0 := Lib.hid (show (inR 0 10000 x && inR 0 10000 y) = false by rw [← e1, c1]); clear e1
    go_enter Tryz.func36, Tryz.ntmps36
    go_wp2_with (first | (go_at_call 21; refine (within_any _ _ _ _).mono ?_; rintro e w' ⟨rfl, rfl⟩) | (go_at_call 50; refine (isField_any _ _ _ [x, y] _ (by exact Row.lit _ (ints [x, y]) _ _ _ (by simp) (by rfl)) (by omega)).mono ?_; rintro e w' ⟨rfl, rfl⟩))
    go_ret
    exact ⟨by rw [show sndOk (x, y, d, e) = false by simp only [sndOk, c0.out, Bool.false_and]]; rfl, by go_grown⟩
  · have c0 := Lib.hid (show (inR 0 10000 x && inR 0 10000 y) = true by rw [← e1, c1]); clear e1
    cases c2 : inR (-2000) 1000000 d
    · go_enter Tryz.func36, Tryz.ntmps36
      go_wp2_with (first | (go_at_call 21; refine (within_any _ _ _ _).mono ?_; rintro e w' ⟨rfl, rfl⟩) | (go_at_call 50; refine (isField_any _ _ _ [x, y] _ (by exact Row.lit _ (ints [x, y]) _ _ _ (by simp) (by rfl)) (by omega)).mono ?_; rintro e w' ⟨rfl, rfl⟩))
      go_ret
      exact ⟨by rw [show sndOk (x, y, d, e) = false by simp only [sndOk, c0.out, c2, Bool.false_and, Bool.and_false]]; rfl, by go_grown⟩
    · go_enter Tryz.func36, Tryz.ntmps36
      go_wp2_with (first | (go_at_call 21; refine (within_any _ _ _ _).mono ?_; rintro e w' ⟨rfl, rfl⟩) | (go_at_call 50; refine (isField_any _ _ _ [x, y] _ (by exact Row.lit _ (ints [x, y]) _ _ _ (by simp) (by rfl)) (by omega)).mono ?_; rintro e w' ⟨rfl, rfl⟩))
      go_ret
      exact ⟨by rw [show sndOk (x, y, d, e) = inR 0 5000 e by simp only [sndOk, c0.out, c2, Bool.true_and]]; rfl, by go_grown⟩

theorem l21Is_any (x y d e : Int) (w : World) :
    Calls Tryz.prog 37 #[.agg #[.int .i64 x, .int .i64 y, .int .i64 d, .int .i64 e]] w fun e' w' => e' = .returned (.bool (sndOk (x, y, d, e))) ∧ Below w.heap.size w w' := by
  go_enter Tryz.func37, Tryz.ntmps37
  go_wp2_with (first | (go_at_call 24; refine (l01In_any _ _ _ _).mono ?_; rintro e w' ⟨rfl, rfl⟩))
  all_goals (go_ret; exact ⟨by simp [sndOk, *], by go_grown⟩)

theorem notSnd_any (x y d e : Int) (w : World) :
    Calls Tryz.prog 35 #[.agg #[.int .i64 x, .int .i64 y, .int .i64 d, .int .i64 e]] w fun e' w' => e' = .returned (.bool (!sndOk (x, y, d, e))) ∧ Below w.heap.size w w' := by
  have K : Below w.heap.size w (w.alloc (.cells #[.int .i64 x, .int .i64 y, .int .i64 d, .int .i64 e] 38)) := (Below.refl _ _).alloc (Nat.le_refl _) _
  go_enter Tryz.func35, Tryz.ntmps35
  go_wp2_with (go_at_call 36; refine (isSounding_any _ _ _ _ _).mono ?_; rintro e w' ⟨rfl, hb⟩)
  go_ret
  exact ⟨rfl, K.trans (hb.mono K.size)⟩

/-- What IndexFunc returns. -/
def Found (none_ : Bool) (i : Int) : Prop := (none_ = true ∧ i = -1) ∨ (none_ = false ∧ 0 ≤ i)
theorem indexSnd_any (a : Option Addr) (n c : Nat) (xs : List I4) (w : World) (h : Row w 4 a n (frs xs)) (hn : n ≤ 1048576) :
    Calls Tryz.prog 49 #[.slice a n c, .func (.func 35) #[] #[]] w fun e w' => (∃ i, e = .returned (.int .i64 i) ∧ Found (xs.all sndOk) i) ∧ Below w.heap.size w w' := by
  go_enter Tryz.func49, Tryz.ntmps49
  go_wp2
  go_loopw [8] (fun i wr => ∃ k : Nat, k ≤ n ∧ i = .int .i64 k ∧ Hid ((xs.take k).all sndOk = true) ∧ Below w.heap.size w wr) (fun i _ => n - (intOf i).toNat)
  case atStart => exact ⟨0, Nat.zero_le _, rfl, by unfold Hid; simp, Below.refl _ _⟩
  case round =>
    obtain ⟨k, hk, rfl, hall, hbel⟩ := hrel
    by_cases hlt : k < n
    · obtain ⟨b, off, x, y, z, u, rfl, ⟨hc0, hc1, hc2, hc3⟩, hx⟩ := (h.below4 hbel (Nat.le_refl _)).at4 hlt
      cases hin : sndOk (x, y, z, u)
      · have e0 : (!sndOk (x, y, z, u)) = true := by rw [hin]; rfl
        go_wp2_with (go_at_call 35; refine (notSnd_any _ _ _ _ _).mono ?_; rintro e w' ⟨rfl, hb⟩)
        go_ret
        exact ⟨⟨_, rfl, .inr ⟨all_false hx.out hin, by omega⟩⟩, hbel.trans (hb.mono hbel.size)⟩
      · have e0 : (!sndOk (x, y, z, u)) = false := by rw [hin]; rfl
        go_wp2_with (go_at_call 35; refine (notSnd_any _ _ _ _ _).mono ?_; rintro e w' ⟨rfl, hb⟩)
        go_roundw
        case rel => exact ⟨k + 1, by omega, by go_num, all_snoc hx.out hall.out hin, hbel.trans (hb.mono hbel.size)⟩
        case measure => simp [intOf]; omega
    · have hd := all_done h.len4 hk hlt hall.out
      go_wp2
      go_ret
      exact ⟨⟨_, rfl, .inl ⟨hd, rfl⟩⟩, hbel⟩

theorem containsSnd_any (a : Option Addr) (n c : Nat) (xs : List I4) (w : World) (h : Row w 4 a n (frs xs)) (hn : n ≤ 1048576) :
    Calls Tryz.prog 34 #[.slice a n c, .func (.func 35) #[] #[]] w fun e w' => e = .returned (.bool (!(xs.all sndOk))) ∧ Below w.heap.size w w' := by
  go_enter Tryz.func34, Tryz.ntmps34
  go_wp2_with fail
  go_at_call 49
  refine (indexSnd_any _ _ _ _ _ h hn).mono ?_
  rintro e w' ⟨⟨i, rfl, ⟨h1, rfl⟩ | ⟨h1, h2⟩⟩, hb⟩
  · go_wp2
    go_ret
    exact ⟨by rw [h1]; rfl, hb⟩
  · go_wp2
    go_ret
    exact ⟨by rw [h1]; rfl, hb⟩

theorem areSoundings_impl (a : Option Addr) (n c : Nat) (xs : List I4) (w : World) (h : Row w 4 a n (frs xs)) (hn : n ≤ 1048576) :
    Calls Tryz.prog 15 #[.slice a n c] w fun e w' => e = .returned (.bool (sndsOk xs)) ∧ Below w.heap.size w w' := by
  by_cases hm : (n : Int) ≤ 200
  · rw [sndsOk_all h.len4 hm]
    go_enter Tryz.func15, Tryz.ntmps15
    go_wp2_with (go_at_call 34; refine (containsSnd_any _ _ _ _ _ h hn).mono ?_; rintro e w' ⟨rfl, hb⟩)
    go_ret
    exact ⟨by simp, hb⟩
  · rw [sndsOk_big h.len4 hm]
    go_enter Tryz.func15, Tryz.ntmps15
    go_wp2
    go_ret
    exact ⟨rfl, Below.refl _ _⟩

theorem areSoundings_spec (a : Option Addr) (n c : Nat) (xs : List I4) (w : World) (h : Row w 4 a n (frs xs)) (hn : n ≤ 1048576) :
    Calls Tryz.prog 16 #[.slice a n c] w fun e w' => e = .returned (.bool (sndsOk xs)) ∧ Below w.heap.size w w' := by
  go_enter Tryz.func16, Tryz.ntmps16
  go_wp2
  go_loopw [3] (fun i wr => ∃ k : Nat, k ≤ n ∧ i = .int .i64 k ∧ Hid ((xs.take k).all sndOk = true) ∧ Below w.heap.size w wr) (fun i _ => n - (intOf i).toNat)
  case atStart => exact ⟨0, Nat.zero_le _, rfl, by unfold Hid; simp, Below.refl _ _⟩
  case round =>
    obtain ⟨k, hk, rfl, hall, hbel⟩ := hrel
    by_cases hlt : k < n
    · obtain ⟨b, off, x, y, z, u, rfl, ⟨hc0, hc1, hc2, hc3⟩, hx⟩ := (h.below4 hbel (Nat.le_refl _)).at4 hlt
      cases hin : sndOk (x, y, z, u)
      · go_wp2_with (go_at_call 37; refine (l21Is_any _ _ _ _ _).mono ?_; rintro e w' ⟨rfl, hb⟩)
        go_ret
        exact ⟨by rw [sndsOk, all_false hx.out hin]; rfl, hbel.trans (hb.mono hbel.size)⟩
      · go_wp2_with (go_at_call 37; refine (l21Is_any _ _ _ _ _).mono ?_; rintro e w' ⟨rfl, hb⟩)
        go_roundw
        case rel => exact ⟨k + 1, by omega, by go_num, all_snoc hx.out hall.out hin, hbel.trans (hb.mono hbel.size)⟩
        case measure => simp [intOf]; omega
    · have hd := Lib.hid (all_done h.len4 hk hlt hall.out)
      go_wp2
      go_ret
      exact ⟨by rw [sndsOk, hd.out, h.len4]; rfl, hbel⟩
end Go.Proofs.YtaimckepaldocaaGreatDoor
