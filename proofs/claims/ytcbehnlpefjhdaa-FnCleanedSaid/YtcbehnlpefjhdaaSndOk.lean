/- Soundings that are valid; their bounds; whether two are near: by both programs. -/
import Derived.Test.YtcbehnlpefjhdaaSnd
import Derived.Deep.QuietTactic
import Derived.BigQuiet
namespace Go.Proofs.Ytcbehnlpefjhdaa
open Go.RowKit
set_option maxRecDepth 100000
set_option linter.unusedVariables false

theorem square_any (x y : Int) (w : World) (h1 : -20000 ≤ x ∧ x ≤ 20000) (h2 : -20000 ≤ y ∧ y ≤ 20000) :
    Calls Try.prog 74 #[.int .i64 x, .int .i64 y] w fun e w' => e = .returned (.int .i64 (x * x + y * y)) ∧ w = w' := by
  obtain ⟨p0, p1⟩ := sq_bd (B := 20000) h1.1 h1.2 (by omega)
  obtain ⟨q0, q1⟩ := sq_bd (B := 20000) h2.1 h2.2 (by omega)
  go_enter Try.func74, Try.ntmps74
  go_wp2
  go_ret
  exact ⟨rfl, rfl⟩

theorem isNear_any (x y d e px py r : Int) (w : World) (h1 : 0 ≤ x ∧ x ≤ 10000) (h2 : 0 ≤ y ∧ y ≤ 10000) (h3 : 0 ≤ px ∧ px ≤ 10000) (h4 : 0 ≤ py ∧ py ≤ 10000) (h5 : 0 ≤ r ∧ r ≤ 10000) :
    Calls Try.prog 62 #[.agg #[.int .i64 x, .int .i64 y, .int .i64 d, .int .i64 e], .int .i64 px, .int .i64 py, .int .i64 r] w fun e w' => e = .returned (.bool (nearQ x y px py r)) ∧ Below w.heap.size w w' := by
  obtain ⟨p0, p1⟩ := sq_bd (a := r) (B := 10000) (by omega) h5.2 (by omega)
  obtain ⟨s0, s1⟩ := sq_bd (a := x - px) (B := 10000) (by omega) (by omega) (by omega)
  obtain ⟨t0, t1⟩ := sq_bd (a := y - py) (B := 10000) (by omega) (by omega) (by omega)
  go_enter Try.func62, Try.ntmps62
  go_wp2_with (go_at_call 74; refine (square_any _ _ _ (by omega) (by omega)).mono ?_; rintro e w' ⟨rfl, rfl⟩)
  go_ret
  exact ⟨by unfold nearQ; rfl, by go_grown⟩

theorem l21Within_any (x y u v r : Int) (w : World) (h1 : 0 ≤ x ∧ x ≤ 10000) (h2 : 0 ≤ y ∧ y ≤ 10000) (h3 : 0 ≤ u ∧ u ≤ 10000) (h4 : 0 ≤ v ∧ v ≤ 10000) (h5 : 0 ≤ r ∧ r ≤ 10000) :
    Calls Try.prog 63 #[.int .i64 x, .int .i64 y, .int .i64 u, .int .i64 v, .int .i64 r] w fun e w' => e = .returned (.bool (nearQ x y u v r)) ∧ w = w' := by
  obtain ⟨p0, p1⟩ := sq_bd (a := r) (B := 10000) (by omega) h5.2 (by omega)
  obtain ⟨s0, s1⟩ := sq_bd (a := x - u) (B := 10000) (by omega) (by omega) (by omega)
  obtain ⟨t0, t1⟩ := sq_bd (a := y - v) (B := 10000) (by omega) (by omega) (by omega)
  go_enter Try.func63, Try.ntmps63
  go_wp2
  go_ret
  exact ⟨by unfold nearQ; rfl, rfl⟩

theorem bounds_any (x y d e : Int) (w : World) (h1 : -2000 ≤ d ∧ d ≤ 1000000) (h2 : 0 ≤ e ∧ e ≤ 5000) :
    Calls Try.prog 39 #[.agg #[.int .i64 x, .int .i64 y, .int .i64 d, .int .i64 e]] w fun e' w' => e' = .returned (.agg #[.int .i64 (d - e), .int .i64 (d + e)]) ∧ Below w.heap.size w w' := by
  go_enter Try.func39, Try.ntmps39
  go_wp2
  go_returns
  exact ⟨rfl, by go_grown⟩

theorem l21Bounds_any (x y d e : Int) (w : World) (h1 : -2000 ≤ d ∧ d ≤ 1000000) (h2 : 0 ≤ e ∧ e ≤ 5000) :
    Calls Try.prog 40 #[.agg #[.int .i64 x, .int .i64 y, .int .i64 d, .int .i64 e]] w fun e' w' => e' = .returned (.agg #[.int .i64 (d - e), .int .i64 (d + e)]) ∧ Below w.heap.size w w' := by
  go_enter Try.func40, Try.ntmps40
  go_wp2
  go_returns
  exact ⟨rfl, by go_grown⟩

theorem isSounding_any (x y d e : Int) (w : World) :
    Calls Try.prog 68 #[.agg #[.int .i64 x, .int .i64 y, .int .i64 d, .int .i64 e]] w fun e' w' => e' = .returned (.bool (sndOk (x, y, d, e))) ∧ Below w.heap.size w w' := by
  have e1 : [x, y].all (inR 0 10000) = (inR 0 10000 x && inR 0 10000 y) := by simp
  cases c1 : [x, y].all (inR 0 10000)
  · have c0 := Lib.hid (show (inR 0 10000 x && inR 0 10000 y) = false by rw [← e1, c1]); clear e1
    go_enter Try.func68, Try.ntmps68
    go_wp2_with (first | (go_at_call 44; refine (within_any _ _ _ _).mono ?_; rintro e w' ⟨rfl, rfl⟩) | (go_at_call 43; refine (isField_any _ _ _ [x, y] _ (by exact Row.lit _ (ints [x, y]) _ _ _ (by simp) (by rfl)) (by omega)).mono ?_; rintro e w' ⟨rfl, rfl⟩))
    go_ret
    exact ⟨by rw [show sndOk (x, y, d, e) = false by simp only [sndOk, c0.out, Bool.false_and]]; rfl, by go_grown⟩
  · have c0 := Lib.hid (show (inR 0 10000 x && inR 0 10000 y) = true by rw [← e1, c1]); clear e1
    cases c2 : inR (-2000) 1000000 d
    · go_enter Try.func68, Try.ntmps68
      go_wp2_with (first | (go_at_call 44; refine (within_any _ _ _ _).mono ?_; rintro e w' ⟨rfl, rfl⟩) | (go_at_call 43; refine (isField_any _ _ _ [x, y] _ (by exact Row.lit _ (ints [x, y]) _ _ _ (by simp) (by rfl)) (by omega)).mono ?_; rintro e w' ⟨rfl, rfl⟩))
      go_ret
      exact ⟨by rw [show sndOk (x, y, d, e) = false by simp only [sndOk, c0.out, c2, Bool.false_and, Bool.and_false]]; rfl, by go_grown⟩
    · go_enter Try.func68, Try.ntmps68
      go_wp2_with (first | (go_at_call 44; refine (within_any _ _ _ _).mono ?_; rintro e w' ⟨rfl, rfl⟩) | (go_at_call 43; refine (isField_any _ _ _ [x, y] _ (by exact Row.lit _ (ints [x, y]) _ _ _ (by simp) (by rfl)) (by omega)).mono ?_; rintro e w' ⟨rfl, rfl⟩))
      go_ret
      exact ⟨by rw [show sndOk (x, y, d, e) = inR 0 5000 e by simp only [sndOk, c0.out, c2, Bool.true_and]]; rfl, by go_grown⟩

theorem l21Is_any (x y d e : Int) (w : World) :
    Calls Try.prog 70 #[.agg #[.int .i64 x, .int .i64 y, .int .i64 d, .int .i64 e]] w fun e' w' => e' = .returned (.bool (sndOk (x, y, d, e))) ∧ Below w.heap.size w w' := by
  go_enter Try.func70, Try.ntmps70
  go_wp2_with (first | (go_at_call 41; refine (l01In_any _ _ _ _).mono ?_; rintro e w' ⟨rfl, rfl⟩))
  all_goals (go_ret; exact ⟨by simp [sndOk, *], by go_grown⟩)

theorem notSnd_any (x y d e : Int) (w : World) :
    Calls Try.prog 67 #[.agg #[.int .i64 x, .int .i64 y, .int .i64 d, .int .i64 e]] w fun e' w' => e' = .returned (.bool (!sndOk (x, y, d, e))) ∧ Below w.heap.size w w' := by
  have K : Below w.heap.size w (w.alloc (.cells #[.int .i64 x, .int .i64 y, .int .i64 d, .int .i64 e] 46)) := (Below.refl _ _).alloc (Nat.le_refl _) _
  go_enter Try.func67, Try.ntmps67
  go_wp2_with (go_at_call 68; refine (isSounding_any _ _ _ _ _).mono ?_; rintro e w' ⟨rfl, hb⟩)
  go_ret
  exact ⟨rfl, K.trans (hb.mono K.size)⟩

/-- What IndexFunc returns. -/
def Found (none_ : Bool) (i : Int) : Prop := (none_ = true ∧ i = -1) ∨ (none_ = false ∧ 0 ≤ i)
theorem indexSnd_any (a : Option Addr) (n c : Nat) (xs : List I4) (w : World) (h : Row w 4 a n (frs xs)) (hn : n ≤ 1048576) :
    Calls Try.prog 75 #[.slice a n c, .func (.func 67) #[] #[]] w fun e w' => (∃ i, e = .returned (.int .i64 i) ∧ Found (xs.all sndOk) i) ∧ Below w.heap.size w w' := by
  go_enter Try.func75, Try.ntmps75
  go_wp2
  go_loopw [8] (fun i wr => ∃ k : Nat, k ≤ n ∧ i = .int .i64 k ∧ Hid ((xs.take k).all sndOk = true) ∧ Below w.heap.size w wr) (fun i _ => n - (intOf i).toNat)
  case atStart => exact ⟨0, Nat.zero_le _, rfl, by unfold Hid; simp, Below.refl _ _⟩
  case round =>
    obtain ⟨k, hk, rfl, hall, hbel⟩ := hrel
    by_cases hlt : k < n
    · obtain ⟨b, off, x, y, z, u, rfl, ⟨hc0, hc1, hc2, hc3⟩, hx⟩ := (h.below4 hbel (Nat.le_refl _)).at4 hlt
      cases hin : sndOk (x, y, z, u)
      · have e0 : (!sndOk (x, y, z, u)) = true := by rw [hin]; rfl
        go_wp2_with (go_at_call 67; refine (notSnd_any _ _ _ _ _).mono ?_; rintro e w' ⟨rfl, hb⟩)
        go_ret
        exact ⟨⟨_, rfl, .inr ⟨all_false hx.out hin, by omega⟩⟩, hbel.trans (hb.mono hbel.size)⟩
      · have e0 : (!sndOk (x, y, z, u)) = false := by rw [hin]; rfl
        go_wp2_with (go_at_call 67; refine (notSnd_any _ _ _ _ _).mono ?_; rintro e w' ⟨rfl, hb⟩)
        go_roundw
        case rel => exact ⟨k + 1, by omega, by go_num, all_snoc hx.out hall.out hin, hbel.trans (hb.mono hbel.size)⟩
        case measure => simp [intOf]; omega
    · have hd := all_done h.len4 hk hlt hall.out
      go_wp2
      go_ret
      exact ⟨⟨_, rfl, .inl ⟨hd, rfl⟩⟩, hbel⟩

theorem containsSnd_any (a : Option Addr) (n c : Nat) (xs : List I4) (w : World) (h : Row w 4 a n (frs xs)) (hn : n ≤ 1048576) :
    Calls Try.prog 66 #[.slice a n c, .func (.func 67) #[] #[]] w fun e w' => e = .returned (.bool (!(xs.all sndOk))) ∧ Below w.heap.size w w' := by
  go_enter Try.func66, Try.ntmps66
  go_wp2_with fail
  go_at_call 75
  refine (indexSnd_any _ _ _ _ _ h hn).mono ?_
  rintro e w' ⟨⟨i, rfl, ⟨h1, rfl⟩ | ⟨h1, h2⟩⟩, hb⟩
  · go_wp2
    go_ret
    exact ⟨by rw [h1]; rfl, hb⟩
  · go_wp2
    go_ret
    exact ⟨by rw [h1]; rfl, hb⟩

theorem areSoundings_impl (a : Option Addr) (n c : Nat) (xs : List I4) (w : World) (h : Row w 4 a n (frs xs)) (hn : n ≤ 1048576) :
    Calls Try.prog 52 #[.slice a n c] w fun e w' => e = .returned (.bool (sndsOk xs)) ∧ Below w.heap.size w w' := by
  by_cases hm : (n : Int) ≤ 200
  · rw [sndsOk_all h.len4 hm]
    go_enter Try.func52, Try.ntmps52
    go_wp2_with (go_at_call 66; refine (containsSnd_any _ _ _ _ _ h hn).mono ?_; rintro e w' ⟨rfl, hb⟩)
    go_ret
    exact ⟨by simp, hb⟩
  · rw [sndsOk_big h.len4 hm]
    go_enter Try.func52, Try.ntmps52
    go_wp2
    go_ret
    exact ⟨rfl, Below.refl _ _⟩

theorem areSoundings_spec (a : Option Addr) (n c : Nat) (xs : List I4) (w : World) (h : Row w 4 a n (frs xs)) (hn : n ≤ 1048576) :
    Calls Try.prog 58 #[.slice a n c] w fun e w' => e = .returned (.bool (sndsOk xs)) ∧ Below w.heap.size w w' := by
  go_enter Try.func58, Try.ntmps58
  go_wp2
  go_loopw [3] (fun i wr => ∃ k : Nat, k ≤ n ∧ i = .int .i64 k ∧ Hid ((xs.take k).all sndOk = true) ∧ Below w.heap.size w wr) (fun i _ => n - (intOf i).toNat)
  case atStart => exact ⟨0, Nat.zero_le _, rfl, by unfold Hid; simp, Below.refl _ _⟩
  case round =>
    obtain ⟨k, hk, rfl, hall, hbel⟩ := hrel
    by_cases hlt : k < n
    · obtain ⟨b, off, x, y, z, u, rfl, ⟨hc0, hc1, hc2, hc3⟩, hx⟩ := (h.below4 hbel (Nat.le_refl _)).at4 hlt
      cases hin : sndOk (x, y, z, u)
      · go_wp2_with (go_at_call 70; refine (l21Is_any _ _ _ _ _).mono ?_; rintro e w' ⟨rfl, hb⟩)
        go_ret
        exact ⟨by rw [sndsOk, all_false hx.out hin]; rfl, hbel.trans (hb.mono hbel.size)⟩
      · go_wp2_with (go_at_call 70; refine (l21Is_any _ _ _ _ _).mono ?_; rintro e w' ⟨rfl, hb⟩)
        go_roundw
        case rel => exact ⟨k + 1, by omega, by go_num, all_snoc hx.out hall.out hin, hbel.trans (hb.mono hbel.size)⟩
        case measure => simp [intOf]; omega
    · have hd := Lib.hid (all_done h.len4 hk hlt hall.out)
      go_wp2
      go_ret
      exact ⟨by rw [sndsOk, hd.out, h.len4]; rfl, hbel⟩
end Go.Proofs.Ytcbehnlpefjhdaa
