/- Lists of spans: both programs' tests. -/
import Derived.Test.YtdihpllebccncaaSpan
namespace Go.Proofs.Ytdihpllebccncaa
open Go.RowKit
set_option maxRecDepth 100000
set_option linter.unusedVariables false

def spanOk (s : Int × Int) : Bool := inR 0 10000 s.1 && inR 0 10000 s.2
def spansOk (ss : List (Int × Int)) : Bool := ss.all spanOk && decide ((ss.length : Int) ≤ 60)

theorem isSpan_any (x y : Int) (w : World) : Calls Try.prog 58 #[.agg #[.int .i64 x, .int .i64 y]] w fun e w' => e = .returned (.bool (spanOk (x, y))) ∧ Below w.heap.size w w' := by
  have e1 : [x, y].all (inR 0 10000) = spanOk (x, y) := by simp [spanOk]
  go_enter Try.func58, Try.ntmps58
  go_wp2_with (go_at_call 44; refine (isField_any _ _ _ [x, y] _ (by exact Row.lit _ _ _ _ _ (by simp) (by rfl)) (by omega)).mono ?_; rintro e w' ⟨rfl, rfl⟩)
  go_ret
  exact ⟨by rw [← e1]; rfl, by go_grown⟩

theorem areSpansFn_any (x y : Int) (w : World) : Calls Try.prog 57 #[.agg #[.int .i64 x, .int .i64 y]] w fun e w' => e = .returned (.bool (!spanOk (x, y))) ∧ Below w.heap.size w w' := by
  go_enter Try.func57, Try.ntmps57
  go_wp2_with (go_at_call 58; refine (isSpan_any _ _ _).mono ?_; rintro e w' ⟨rfl, hb⟩)
  go_ret
  exact ⟨rfl, ((Below.refl _ _).alloc (Nat.le_refl _) _).trans (hb.mono (by simp))⟩

theorem spansIndex_any (a : Option Addr) (n c : Nat) (ss : List (Int × Int)) (w : World) (h : Row w 2 a n (prs ss)) (hn : n ≤ 1048576) :
    Calls Try.prog 67 #[.slice a n c, .func (.func 57) #[] #[]] w fun e w' => (∃ r : Int, e = .returned (.int .i64 r) ∧ decide (0 ≤ r) = !(ss.all spanOk) ∧ -1 ≤ r ∧ r ≤ 1048576) ∧ Below w.heap.size w w' := by
  go_enter Try.func67, Try.ntmps67
  go_wp2
  go_loopw [8] (fun i wr => ∃ k : Nat, k ≤ n ∧ i = .int .i64 k ∧ Hid ((ss.take k).all spanOk = true) ∧ Below w.heap.size w wr) (fun i _ => n - (intOf i).toNat)
  case atStart => exact ⟨0, Nat.zero_le _, rfl, by unfold Hid; simp, Below.refl _ _⟩
  case round =>
    obtain ⟨k, hk, rfl, hall, hbel⟩ := hrel
    by_cases hlt : k < n
    · obtain ⟨b, off, x, y, rfl, hc, hd, hx⟩ := (h.below2 hbel (Nat.le_refl _)).at2 hlt
      cases hs : spanOk (x, y)
      · go_wp2_with (go_at_call 57; refine (areSpansFn_any _ _ _).mono ?_; rintro e w' ⟨rfl, hb⟩)
        go_ret
        refine ⟨⟨k, rfl, ?_, by omega, by omega⟩, hbel.trans (hb.mono hbel.size)⟩
        rw [all_false hx.out hs]; simp
      · go_wp2_with (go_at_call 57; refine (areSpansFn_any _ _ _).mono ?_; rintro e w' ⟨rfl, hb⟩)
        go_roundw
        case rel => exact ⟨k + 1, by omega, by go_num, all_snoc hx.out hall.out hs, hbel.trans (hb.mono hbel.size)⟩
        case measure => simp [intOf] <;> omega
    · go_wp2
      go_ret
      refine ⟨⟨-1, rfl, ?_, by omega, by omega⟩, hbel⟩
      rw [all_done h.len2 hk hlt hall.out]; simp

theorem spansContain_any (a : Option Addr) (n c : Nat) (ss : List (Int × Int)) (w : World) (h : Row w 2 a n (prs ss)) (hn : n ≤ 1048576) :
    Calls Try.prog 56 #[.slice a n c, .func (.func 57) #[] #[]] w fun e w' => e = .returned (.bool (!(ss.all spanOk))) ∧ Below w.heap.size w w' := by
  go_enter Try.func56, Try.ntmps56
  go_wp2_with (go_at_call 67; refine (spansIndex_any _ _ _ _ _ h hn).mono ?_; rintro e w' ⟨⟨r, rfl, hr, -, -⟩, hb⟩)
  all_goals (go_ret; exact ⟨by rw [← hr]; simp [*], hb⟩)

theorem areSpans_impl (a : Option Addr) (n c : Nat) (ss : List (Int × Int)) (w : World) (h : Row w 2 a n (prs ss)) (hn : n ≤ 1048576) :
    Calls Try.prog 31 #[.slice a n c] w fun e w' => e = .returned (.bool (spansOk ss)) ∧ Below w.heap.size w w' := by
  by_cases hm : (n : Int) ≤ 60
  · rw [show spansOk ss = ss.all spanOk by simp [spansOk, h.len2, hm]]
    go_enter Try.func31, Try.ntmps31
    go_wp2_with (go_at_call 56; refine (spansContain_any _ _ _ _ _ h hn).mono ?_; rintro e w' ⟨rfl, hb⟩)
    go_ret
    exact ⟨by simp, hb⟩
  · rw [show spansOk ss = false by simp [spansOk, h.len2, hm]]
    go_enter Try.func31, Try.ntmps31
    go_wp2
    go_ret
    exact ⟨rfl, Below.refl _ _⟩

theorem areSpans_spec (a : Option Addr) (n c : Nat) (ss : List (Int × Int)) (w : World) (h : Row w 2 a n (prs ss)) (hn : n ≤ 1048576) :
    Calls Try.prog 32 #[.slice a n c] w fun e w' => e = .returned (.bool (spansOk ss)) ∧ Below w.heap.size w w' := by
  go_enter Try.func32, Try.ntmps32
  go_wp2
  go_loop [3] (fun i => ∃ k : Nat, k ≤ n ∧ i = .int .i64 k ∧ Hid ((ss.take k).all spanOk = true)) (fun i => n - (intOf i).toNat)
  case atStart => exact ⟨0, Nat.zero_le _, rfl, by unfold Hid; simp⟩
  case round =>
    obtain ⟨k, hk, rfl, hall⟩ := hrel
    by_cases hlt : k < n
    · obtain ⟨b, off, x, y, rfl, hc, hd, hx⟩ := h.at2 hlt
      cases h1 : inR 0 10000 x
      · go_wp2_with (go_at_call 47; refine (l01In_any _ _ _ _).mono ?_; rintro e w' ⟨rfl, rfl⟩)
        go_ret
        exact ⟨by rw [spansOk, all_false hx.out (by simp [spanOk, h1])]; rfl, Below.refl _ _⟩
      cases h2 : inR 0 10000 y
      · go_wp2_with (go_at_call 47; refine (l01In_any _ _ _ _).mono ?_; rintro e w' ⟨rfl, rfl⟩)
        go_ret
        exact ⟨by rw [spansOk, all_false hx.out (by simp [spanOk, h2])]; rfl, Below.refl _ _⟩
      · go_wp2_with (go_at_call 47; refine (l01In_any _ _ _ _).mono ?_; rintro e w' ⟨rfl, rfl⟩)
        go_round
        case rel => exact ⟨k + 1, by omega, by go_num, all_snoc hx.out hall.out (by simp [spanOk, h1, h2])⟩
        case measure => simp [intOf] <;> omega
    · go_wp2
      go_ret
      exact ⟨by rw [spansOk, all_done h.len2 hk hlt hall.out, h.len2]; rfl, Below.refl _ _⟩

end Go.Proofs.Ytdihpllebccncaa
