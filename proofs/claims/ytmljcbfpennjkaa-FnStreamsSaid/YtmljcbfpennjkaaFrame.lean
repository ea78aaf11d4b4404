/- Frames by value: the statements' helpers, and both programs' tests. -/
import Derived.Test.YtmljcbfpennjkaaInt
import Derived.Deep.RegionHeld3
namespace Go.Proofs.Ytmljcbfpennjkaa
open Go.RowKit
set_option maxRecDepth 100000
set_option linter.unusedVariables false

theorem szInt64S_any (a : Option Addr) (n c : Nat) (l : Int) (w : World) (h0 : 0 ≤ l) (h1 : l ≤ 1048576) (hn : (n : Int) ≤ 9223372036854775807) :
    Calls Try.prog 43 #[.slice a n c, .int .i64 l] w fun e w' => e = .returned (.int .i64 (szOf l n)) ∧ w = w' := by
  by_cases h : l - n < 0
  · go_enter Try.func43, Try.ntmps43
    go_wp2
    go_ret
    exact ⟨by rw [szOf_neg (by omega)]; rfl, rfl⟩
  · go_enter Try.func43, Try.ntmps43
    go_wp2
    go_ret
    exact ⟨by rw [szOf_pos (by omega)]; rfl, rfl⟩

theorem szFrame_any (k m : Int) (a : Option Addr) (n c : Nat) (l : Int) (w : World) (h0 : 0 ≤ l) (h1 : l ≤ 1048576) (hn : (n : Int) ≤ 9223372036854775807) :
    Calls Try.prog 8 #[.agg #[.int .i64 k, .int .i64 m, .slice a n c], .int .i64 l] w fun e w' => e = .returned (.int .i64 (szOf l n)) ∧ Below w.heap.size w w' := by
  by_cases h : l - n < 0
  · have e := szOf_neg h
    go_enter Try.func8, Try.ntmps8
    go_wp2_with (go_at_call 43; refine (szInt64S_any _ _ _ _ _ h0 h1 hn).mono ?_; rintro e w' ⟨rfl, rfl⟩)
    go_ret
    exact ⟨by rw [e]; rfl, by go_grown⟩
  · have e := szOf_pos h
    go_enter Try.func8, Try.ntmps8
    go_wp2_with (go_at_call 43; refine (szInt64S_any _ _ _ _ _ h0 h1 hn).mono ?_; rintro e w' ⟨rfl, rfl⟩)
    go_ret
    exact ⟨by rw [e]; rfl, by go_grown⟩

theorem toFrame_any (k m : Int) (a : Option Addr) (n c : Nat) (xs : List Int) (w : World) (h : Row w 1 a n (ints xs)) (hn : n ≤ 1048576) :
    Calls Try.prog 10 #[.agg #[.int .i64 k, .int .i64 m, .slice a n c]] w fun e w' => ∃ a' c', e = .returned (.agg #[.int .i64 k, .int .i64 m, .slice a' n c']) ∧ Own w' w.heap.size w'.heap.size 2 1 a' n c' (ints xs) ∧ Below w.heap.size w w' := by
  have h3 := ((h.alloc (.cells #[.int .i64 k, .int .i64 m, .slice a n c] 24)).alloc (.cells #[.int .i64 0, .int .i64 0, .slice none 0 0] 28)).alloc (.cells #[.int .i64 k, .int .i64 m, .slice none 0 0] 28)
  have K2 := (Blk.new' (w.alloc (.cells #[.int .i64 k, .int .i64 m, .slice a n c] 24)) 28 #[.int .i64 0, .int .i64 0, .slice none 0 0] (g := w.heap.size + 1) (by simp)).alloc (.cells #[.int .i64 k, .int .i64 m, .slice none 0 0] 28)
  have K3 := Blk.new' ((w.alloc (.cells #[.int .i64 k, .int .i64 m, .slice a n c] 24)).alloc (.cells #[.int .i64 0, .int .i64 0, .slice none 0 0] 28)) 28 #[.int .i64 k, .int .i64 m, .slice none 0 0] (g := w.heap.size + 1 + 1) (by simp)
  have B : Below w.heap.size w (((w.alloc (.cells #[.int .i64 k, .int .i64 m, .slice a n c] 24)).alloc (.cells #[.int .i64 0, .int .i64 0, .slice none 0 0] 28)).alloc (.cells #[.int .i64 k, .int .i64 m, .slice none 0 0] 28)) := by go_grown
  have H3 := Lib.hid h3; have H4 := Lib.hid K2; have H5 := Lib.hid K3; have H6 := Lib.hid B
  clear h3 K2 K3 B h
  go_enter Try.func10, Try.ntmps10
  go_wp2_with fail
  go_at_call 18
  refine (toInt64S_any _ _ _ _ _ H3.out hn).mono ?_
  rintro e w4 ⟨a', c', rfl, hown, hb⟩
  replace H4 := H4.out.belowSelf hb
  replace H5 := H5.out.belowSelf hb
  replace H6 := Lib.hid (H6.out.trans (hb.mono H6.out.size))
  have hsz : w.heap.size + 1 + 1 < w4.heap.size := H5.lt
  have u0 : w4.cell? ⟨w.heap.size + 1, 0, none⟩ = some (.int .i64 0) := H4.cell 0
  have u1 : w4.cell? ⟨w.heap.size + 1, 1, none⟩ = some (.int .i64 0) := H4.cell 1
  have u2 : w4.cell? ⟨w.heap.size + 1, 2, none⟩ = some (.slice none 0 0) := H4.cell 2
  have v0 : w4.cell? ⟨w.heap.size + 1 + 1, 0, none⟩ = some (.int .i64 k) := H5.cell 0
  have v1 : w4.cell? ⟨w.heap.size + 1 + 1, 1, none⟩ = some (.int .i64 m) := H5.cell 1
  have v2 : w4.cell? ⟨w.heap.size + 1 + 1, 2, none⟩ = some (.slice none 0 0) := H5.cell 2
  have fu := H4.frozen 0
  have fu1 := H4.frozen 1
  have fu2 := H4.frozen 2
  have fv := H5.frozen 2
  have h2 := (((hown.setFar (p := ⟨w.heap.size + 1 + 1, 2, none⟩) (.inl (by simp)) (.slice a' n c')).setFar (p := ⟨w.heap.size + 1, 0, none⟩) (.inl (by simp)) (.int .i64 k)).setFar (p := ⟨w.heap.size + 1, 1, none⟩) (.inl (by simp)) (.int .i64 m)).setFar (p := ⟨w.heap.size + 1, 2, none⟩) (.inl (by simp)) (.slice a' n c')
  have HO := Lib.hid h2
  have HB := Lib.hid ((((H6.out.setCell (p := ⟨w.heap.size + 1 + 1, 2, none⟩) (by simp; omega) (.slice a' n c')).setCell (p := ⟨w.heap.size + 1, 0, none⟩) (by simp) (.int .i64 k)).setCell (p := ⟨w.heap.size + 1, 1, none⟩) (by simp) (.int .i64 m)).setCell (p := ⟨w.heap.size + 1, 2, none⟩) (by simp) (.slice a' n c'))
  have KF := (((H4.far (p := ⟨w.heap.size + 1 + 1, 2, none⟩) (by simp) (.slice a' n c')).set_ 0 (.int .i64 k)).set_ 1 (.int .i64 m)).set_ 2 (.slice a' n c')
  have HF := Lib.hid KF
  clear hown h2 hb H4 H5 H6 KF
  go_wp2
  have q0 := HF.out.cell 0
  have q1 := HF.out.cell 1
  have q2 := HF.out.cell 2
  refine bodyPost_ret (v := .agg #[.int .i64 k, .int .i64 m, .slice a' n c']) (by simp only [results, Try.results10, Array.size]; simp [go_sem, q0, q1, q2]) rfl ⟨a', c', rfl, HO.out.mono (by simp; omega) (by simp [World.setCell]), HB.out⟩

def frameOk (k m : Int) (xs : List Int) : Bool := inR 0 15 k && inR 0 255 m && listOk 24 0 255 xs

theorem isFrame_impl (k m : Int) (a : Option Addr) (n c : Nat) (xs : List Int) (w : World) (h : Row w 1 a n (ints xs)) (hn : n ≤ 1048576) :
    Calls Try.prog 34 #[.agg #[.int .i64 k, .int .i64 m, .slice a n c]] w fun e w' => e = .returned (.bool (frameOk k m xs)) ∧ Below w.heap.size w w' := by
  have h' := h.alloc (.cells #[.int .i64 k, .int .i64 m, .slice a n c] 28)
  go_enter Try.func34, Try.ntmps34
  go_wp2_with (first | (go_at_call 62; refine (within_any _ _ _ _).mono ?_; rintro e w' ⟨rfl, rfl⟩) | (go_at_call 58; refine (areBytes_any _ _ _ _ _ _ h' hn).mono ?_; rintro e w' ⟨rfl, rfl⟩))
  all_goals (go_ret; exact ⟨by simp [frameOk, *], by go_grown⟩)

theorem isFrame_spec (k m : Int) (a : Option Addr) (n c : Nat) (xs : List Int) (w : World) (h : Row w 1 a n (ints xs)) (hn : n ≤ 1048576) :
    Calls Try.prog 35 #[.agg #[.int .i64 k, .int .i64 m, .slice a n c]] w fun e w' => e = .returned (.bool (frameOk k m xs)) ∧ Below w.heap.size w w' := by
  have h' := h.alloc (.cells #[.int .i64 k, .int .i64 m, .slice a n c] 28)
  go_enter Try.func35, Try.ntmps35
  go_wp2_with (first | (go_at_call 63; refine (l01In_any _ _ _ _).mono ?_; rintro e w' ⟨rfl, rfl⟩) | (go_at_call 60; refine (l01Within_any _ _ _ _ _ _ _ _ h' hn).mono ?_; rintro e w' ⟨rfl, rfl⟩))
  all_goals (go_ret; exact ⟨by simp [frameOk, *], by go_grown⟩)

theorem eqFrame_any (k m k' m' : Int) (a b : Option Addr) (n c n' c' : Nat) (xs ys : List Int) (w : World) (hxs : Row w 1 a n (ints xs)) (hys : Row w 1 b n' (ints ys)) (hn : n ≤ 1048576) :
    Calls Try.prog 13 #[.agg #[.int .i64 k, .int .i64 m, .slice a n c], .agg #[.int .i64 k', .int .i64 m', .slice b n' c']] w fun e w' => e = .returned (.bool (decide ((k, m, xs) = (k', m', ys)))) ∧ Below w.heap.size w w' := by
  by_cases h0 : k = k'
  · subst h0
    by_cases h1 : m = m'
    · subst h1
      have hx := (hxs.alloc (.cells #[.int .i64 k, .int .i64 m, .slice a n c] 28)).alloc (.cells #[.int .i64 k, .int .i64 m, .slice b n' c'] 28)
      have hy := (hys.alloc (.cells #[.int .i64 k, .int .i64 m, .slice a n c] 28)).alloc (.cells #[.int .i64 k, .int .i64 m, .slice b n' c'] 28)
      by_cases h2 : xs = ys
      · have hd : decide (xs = ys) = true := by simpa using h2
        have H2 := Lib.hid h2; clear h2
        go_enter Try.func13, Try.ntmps13
        go_wp2_with (go_at_call 12; refine (eqInt64S_any _ _ _ _ _ _ _ _ _ hx hy hn).mono ?_; rintro e w' ⟨rfl, hb⟩)
        go_ret
        exact ⟨by simp [H2.out], (((Below.refl w.heap.size w).alloc (Nat.le_refl _) _).alloc (by simp) _).trans (hb.mono (by simp; omega))⟩
      · have hd : decide (xs = ys) = false := by simpa using h2
        go_enter Try.func13, Try.ntmps13
        go_wp2_with (go_at_call 12; refine (eqInt64S_any _ _ _ _ _ _ _ _ _ hx hy hn).mono ?_; rintro e w' ⟨rfl, hb⟩)
        go_ret
        exact ⟨by simp [h2], (((Below.refl w.heap.size w).alloc (Nat.le_refl _) _).alloc (by simp) _).trans (hb.mono (by simp; omega))⟩
    · have e1 : (m == m') = false := by simpa using h1
      have e2 : (m != m') = true := by simpa using h1
      go_enter Try.func13, Try.ntmps13
      go_wp2
      go_ret
      exact ⟨by simp [h1], by go_grown⟩
  · have e1 : (k == k') = false := by simpa using h0
    have e2 : (k != k') = true := by simpa using h0
    go_enter Try.func13, Try.ntmps13
    go_wp2
    go_ret
    exact ⟨by simp [h0], by go_grown⟩

end Go.Proofs.Ytmljcbfpennjkaa
