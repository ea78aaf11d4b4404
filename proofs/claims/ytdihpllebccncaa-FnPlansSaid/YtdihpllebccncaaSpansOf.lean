/- The spans of depths, by both programs. -/
import Derived.Test.YtdihpllebccncaaSpans
import Derived.Test.YtdihpllebccncaaEven
namespace Go.Proofs.Ytdihpllebccncaa
open Go.RowKit
set_option maxRecDepth 100000
set_option linter.unusedVariables false

def spanL (s u v : Int) : Nat → List Int → List (Int × Int)
  | _, [] => []
  | k, d :: t => ((k : Int) * s, d * u / (2 * v)) :: spanL s u v (k + 1) t
theorem spanL_len (s u v : Int) : ∀ (k : Nat) (xs : List Int), (spanL s u v k xs).length = xs.length
  | _, [] => rfl
  | k, d :: t => by simp [spanL, spanL_len s u v (k + 1) t]
def argsOk (xs : List Int) (s u v : Int) : Bool := listOk 60 0 1000000 xs && inR 1 10000 s && inR 0 100 u && inR 1 100 v
theorem argsOk_true {xs : List Int} {s u v : Int} (h : argsOk xs s u v = true) : listOk 60 0 1000000 xs = true ∧ (1 ≤ s ∧ s ≤ 10000) ∧ (0 ≤ u ∧ u ≤ 100) ∧ (1 ≤ v ∧ v ≤ 100) := by
  simp only [argsOk, inR, Bool.and_eq_true, decide_eq_true_eq] at h
  exact ⟨h.1.1.1, h.1.1.2, h.1.2, h.2⟩
def spansOf (xs : List Int) (s u v : Int) : List (Int × Int) × Int :=
  if !(argsOk xs s u v) then ([], 2) else if !(spansOk (spanL s u v 0 xs)) then ([], 3) else (spanL s u v 0 xs, 0)
theorem spansOf_no {xs : List Int} {s u v : Int} (h : argsOk xs s u v = false) : spansOf xs s u v = ([], 2) := by simp [spansOf, h]
theorem spansOf_out {xs : List Int} {s u v : Int} (h : argsOk xs s u v = true) (h2 : spansOk (spanL s u v 0 xs) = false) : spansOf xs s u v = ([], 3) := by simp [spansOf, h, h2]
theorem spansOf_yes {xs : List Int} {s u v : Int} (h : argsOk xs s u v = true) (h2 : spansOk (spanL s u v 0 xs) = true) : spansOf xs s u v = (spanL s u v 0 xs, 0) := by simp [spansOf, h, h2]
theorem spansOf_len (xs : List Int) (s u v : Int) : (spansOf xs s u v).1.length ≤ 60 := by
  unfold spansOf
  split
  · simp
  · split
    · simp
    · rename_i h _
      simp at h
      have := listOk_le (argsOk_true h).1 rfl
      simp only [spanL_len]; omega

def SlInv (s u v : Int) (xs : List Int) (k : Nat) (acc : List (Int × Int)) : Prop := acc ++ spanL s u v k (xs.drop k) = spanL s u v 0 xs ∧ acc.length = k
theorem SlInv.start (s u v : Int) (xs : List Int) : SlInv s u v xs 0 [] := ⟨rfl, rfl⟩
theorem SlInv.step {s u v d : Int} {xs : List Int} {k : Nat} {acc : List (Int × Int)} (h : SlInv s u v xs k acc) (hx : xs[k]? = some d) : SlInv s u v xs (k + 1) (acc ++ [((k : Int) * s, d * u / (2 * v))]) := by
  refine ⟨?_, by have := h.2; simp; omega⟩
  rw [← h.1, drop_at hx, spanL, List.append_assoc]; rfl
theorem SlInv.done {s u v : Int} {xs : List Int} {k n : Nat} {acc : List (Int × Int)} (h : SlInv s u v xs k acc) (hl : xs.length = n) (hk : ¬ k < n) : spanL s u v 0 xs = acc := by
  rw [← h.1, List.drop_of_length_le (by omega)]; simp [spanL]
theorem prod_bd {d u v : Int} (h1 : 0 ≤ d) (h2 : d ≤ 1000000) (h3 : 0 ≤ u) (h4 : u ≤ 100) (hv : 1 ≤ v) : (0 ≤ d * u ∧ d * u ≤ 1000000 * 100) ∧ (0 ≤ d * u / (2 * v) ∧ d * u / (2 * v) ≤ 1000000 * 100) := by
  have e1 := Int.mul_nonneg h1 h3
  have e2 : d * u ≤ 1000000 * 100 := Int.mul_le_mul h2 h4 h3 (by omega)
  exact ⟨⟨e1, e2⟩, Int.ediv_nonneg e1 (by omega), Int.le_trans (Int.ediv_le_self _ e1) e2⟩

set_option maxHeartbeats 1600000 in
theorem spansOf_spec (a : Option Addr) (n c : Nat) (xs : List Int) (s u v : Int) (w : World) (h : Row w 1 a n (ints xs)) (hn : n ≤ 1048576) :
    Calls Try.prog 24 #[.slice a n c, .int .i64 s, .int .i64 u, .int .i64 v] w fun e w' => ∃ a n cp, e = .returned (.tuple #[.slice a n cp, .int .i64 (spansOf xs s u v).2]) ∧ Own w' w.heap.size w'.heap.size 49 2 a n cp (prs (spansOf xs s u v).1) ∧ Below w.heap.size w w' := by
  have hxl := h.len
  cases c1 : listOk 60 0 1000000 xs
  · rw [spansOf_no (by simp [argsOk, c1])]
    go_enter Try.func24, Try.ntmps24
    go_wp2_with (first | (go_at_call 52; refine (l01Within_any _ _ _ _ _ _ _ _ h hn).mono ?_; rintro e w' ⟨rfl, rfl⟩) | (go_at_call 47; refine (l01In_any _ _ _ _).mono ?_; rintro e w' ⟨rfl, rfl⟩))
    go_ret2
    exact ⟨_, _, _, rfl, Own.nil_ _ _ _ _ _, Below.refl _ _⟩
  cases c2 : inR 1 10000 s
  · rw [spansOf_no (by simp [argsOk, c2])]
    go_enter Try.func24, Try.ntmps24
    go_wp2_with (first | (go_at_call 52; refine (l01Within_any _ _ _ _ _ _ _ _ h hn).mono ?_; rintro e w' ⟨rfl, rfl⟩) | (go_at_call 47; refine (l01In_any _ _ _ _).mono ?_; rintro e w' ⟨rfl, rfl⟩))
    go_ret2
    exact ⟨_, _, _, rfl, Own.nil_ _ _ _ _ _, Below.refl _ _⟩
  cases c3 : inR 0 100 u
  · rw [spansOf_no (by simp [argsOk, c3])]
    go_enter Try.func24, Try.ntmps24
    go_wp2_with (first | (go_at_call 52; refine (l01Within_any _ _ _ _ _ _ _ _ h hn).mono ?_; rintro e w' ⟨rfl, rfl⟩) | (go_at_call 47; refine (l01In_any _ _ _ _).mono ?_; rintro e w' ⟨rfl, rfl⟩))
    go_ret2
    exact ⟨_, _, _, rfl, Own.nil_ _ _ _ _ _, Below.refl _ _⟩
  cases c4 : inR 1 100 v
  · rw [spansOf_no (by simp [argsOk, c4])]
    go_enter Try.func24, Try.ntmps24
    go_wp2_with (first | (go_at_call 52; refine (l01Within_any _ _ _ _ _ _ _ _ h hn).mono ?_; rintro e w' ⟨rfl, rfl⟩) | (go_at_call 47; refine (l01In_any _ _ _ _).mono ?_; rintro e w' ⟨rfl, rfl⟩))
    go_ret2
    exact ⟨_, _, _, rfl, Own.nil_ _ _ _ _ _, Below.refl _ _⟩
  have hok : argsOk xs s u v = true := by simp [argsOk, c1, c2, c3, c4]
  obtain ⟨hl, hs, hu, hv⟩ := argsOk_true hok
  have hle := listOk_le hl hxl
  generalize hres : spansOf xs s u v = res
  replace hres := Lib.hid hres
  go_enter Try.func24, Try.ntmps24
  go_wp2_with (first | (go_at_call 52; refine (l01Within_any _ _ _ _ _ _ _ _ h hn).mono ?_; rintro e w' ⟨rfl, rfl⟩) | (go_at_call 47; refine (l01In_any _ _ _ _).mono ?_; rintro e w' ⟨rfl, rfl⟩))
  go_loopw [10, 11] (fun l i wr => ∃ (k : Nat) (a' : Option Addr) (q cp : Nat) (acc : List (Int × Int)), k ≤ n ∧ i = .int .i64 k ∧ l = .slice a' q cp ∧ Own wr w.heap.size wr.heap.size 49 2 a' q cp (prs acc) ∧ Hid (SlInv s u v xs k acc) ∧ Below w.heap.size w wr) (fun _ i _ => n - (intOf i).toNat)
  case atStart => exact ⟨0, _, 0, 0, [], Nat.zero_le _, rfl, rfl, (Own.lit0 _ _ _).mono (Nat.le_refl _) (by simp), SlInv.start _ _ _ _, (Below.refl _ _).alloc (Nat.le_refl _) _⟩
  case round =>
    obtain ⟨k, a', q, cp, acc, hk, rfl, rfl, hown, hinv, hbel⟩ := hrel
    have hq : q ≤ k := by have := hown.row.len2; have := hinv.out.2; omega
    by_cases hlt : k < n
    · obtain ⟨b, off, d, rfl, hc, hx⟩ := (h.below hbel (Nat.le_refl _)).at_ hlt
      obtain ⟨hd0, hd1⟩ := listOk_get hl hx.out
      obtain ⟨⟨p0, p1⟩, p2, p3⟩ := prod_bd hd0 hd1 hu.1 hu.2 hv.1
      have k0 : 0 ≤ (k : Int) * s := Int.mul_nonneg (by omega) (by omega)
      have k1 : (k : Int) * s ≤ 60 * 10000 := Int.mul_le_mul (by omega) (by omega) (by omega) (by omega)
      have e1 : Int.tdiv (d * u) (2 * v) = d * u / (2 * v) := Int.tdiv_eq_ediv_of_nonneg p0
      have z1 : (2 * v == 0) = false := by simp; omega
      have z2 : (2 * v == -1) = false := by simp; omega
      have z3 : ¬ v = 0 := by omega
      have z4 : ¬ 2 * v = 0 := by omega
      have z5 : ¬ 2 * v = -1 := by omega
      go_wp2_with (at_builtin; refine wpList_app _ rfl (.tmp 37) (.tmp 51) _ rfl Try.underlying26 info_Span rfl (by decide) rfl (hown.alloc _) rfl (by exact Row.litK _ (prs [((k : Int) * s, d * u / (2 * v))]) _ _ 1 2 (by simp) (by rfl)) (prs_one [((k : Int) * s, d * u / (2 * v))]) (by decide) (by simp only [maxLen]; omega) (by omega) (by have := hbel.size; simp; omega) ?_; intro A2 c2 w2 hown2 hb2 _)
      go_roundw
      case rel => exact ⟨k + 1, _, _, _, acc ++ [((k : Int) * s, d * u / (2 * v))], by omega, by go_num, rfl, by rw [prs_app]; exact hown2, hinv.out.step hx.out, (hbel.alloc hbel.size _).trans hb2⟩
      case measure => simp [intOf]; omega
    · have hdn := hinv.out.done hxl hlt
      have hq60 : q ≤ 1048576 := by omega
      cases hs2 : spansOk acc
      · have hr := spansOf_out hok (by rw [hdn]; exact hs2)
        rw [hres.out] at hr
        replace hr := Lib.hid hr
        go_wp2_with (go_at_call 32; refine (areSpans_spec _ _ _ _ _ hown.row hq60).mono ?_; rintro e w' ⟨rfl, hb⟩)
        go_ret2
        rw [hr.out]
        exact ⟨_, _, _, rfl, Own.nil_ _ _ _ _ _, hbel.trans (hb.mono hbel.size)⟩
      · have hr := spansOf_yes hok (by rw [hdn]; exact hs2)
        rw [hres.out, hdn] at hr
        replace hr := Lib.hid hr
        go_wp2_with (go_at_call 32; refine (areSpans_spec _ _ _ _ _ hown.row hq60).mono ?_; rintro e w' ⟨rfl, hb⟩)
        go_ret2
        rw [hr.out]
        exact ⟨_, _, _, rfl, (hown.below hb (.inr (Nat.le_refl _))).leave, hbel.trans (hb.mono hbel.size)⟩

set_option maxHeartbeats 1600000 in
theorem spansOf_impl (a : Option Addr) (n c : Nat) (xs : List Int) (s u v : Int) (w : World) (h : Row w 1 a n (ints xs)) (hn : n ≤ 1048576) :
    Calls Try.prog 23 #[.slice a n c, .int .i64 s, .int .i64 u, .int .i64 v] w fun e w' => ∃ a n cp, e = .returned (.tuple #[.slice a n cp, .int .i64 (spansOf xs s u v).2]) ∧ Own w' w.heap.size w'.heap.size 49 2 a n cp (prs (spansOf xs s u v).1) ∧ Below w.heap.size w w' := by
  have hxl := h.len
  by_cases c0 : (60 : Int) < n
  · rw [spansOf_no (by simp [argsOk, listOk_len (lo := 0) (hi := 1000000) hxl (show ¬ (n : Int) ≤ 60 by omega)])]
    go_enter Try.func23, Try.ntmps23
    go_wp2_with (first | (go_at_call 49; refine (areWithin_any _ _ _ _ _ _ _ h hn).mono ?_; rintro e w' ⟨rfl, rfl⟩) | (go_at_call 43; refine (isWidth_any _ _).mono ?_; rintro e w' ⟨rfl, rfl⟩) | (go_at_call 50; refine (within_any _ _ _ _).mono ?_; rintro e w' ⟨rfl, rfl⟩))
    go_ret2
    exact ⟨_, _, _, rfl, Own.nil_ _ _ _ _ _, Below.refl _ _⟩
  have e0 := listOk_all (lo := 0) (hi := 1000000) hxl (show (n : Int) ≤ 60 by omega)
  cases c1 : xs.all (inR 0 1000000)
  · rw [spansOf_no (by simp only [argsOk, e0, c1]; rfl)]
    clear e0
    go_enter Try.func23, Try.ntmps23
    go_wp2_with (first | (go_at_call 49; refine (areWithin_any _ _ _ _ _ _ _ h hn).mono ?_; rintro e w' ⟨rfl, rfl⟩) | (go_at_call 43; refine (isWidth_any _ _).mono ?_; rintro e w' ⟨rfl, rfl⟩) | (go_at_call 50; refine (within_any _ _ _ _).mono ?_; rintro e w' ⟨rfl, rfl⟩))
    go_ret2
    exact ⟨_, _, _, rfl, Own.nil_ _ _ _ _ _, Below.refl _ _⟩
  have c1' : listOk 60 0 1000000 xs = true := by rw [e0, c1]
  clear e0
  cases c2 : inR 1 10000 s
  · rw [spansOf_no (by simp [argsOk, c2])]
    go_enter Try.func23, Try.ntmps23
    go_wp2_with (first | (go_at_call 49; refine (areWithin_any _ _ _ _ _ _ _ h hn).mono ?_; rintro e w' ⟨rfl, rfl⟩) | (go_at_call 43; refine (isWidth_any _ _).mono ?_; rintro e w' ⟨rfl, rfl⟩) | (go_at_call 50; refine (within_any _ _ _ _).mono ?_; rintro e w' ⟨rfl, rfl⟩))
    go_ret2
    exact ⟨_, _, _, rfl, Own.nil_ _ _ _ _ _, Below.refl _ _⟩
  cases c3 : inR 0 100 u
  · rw [spansOf_no (by simp [argsOk, c3])]
    go_enter Try.func23, Try.ntmps23
    go_wp2_with (first | (go_at_call 49; refine (areWithin_any _ _ _ _ _ _ _ h hn).mono ?_; rintro e w' ⟨rfl, rfl⟩) | (go_at_call 43; refine (isWidth_any _ _).mono ?_; rintro e w' ⟨rfl, rfl⟩) | (go_at_call 50; refine (within_any _ _ _ _).mono ?_; rintro e w' ⟨rfl, rfl⟩))
    go_ret2
    exact ⟨_, _, _, rfl, Own.nil_ _ _ _ _ _, Below.refl _ _⟩
  cases c4 : inR 1 100 v
  · rw [spansOf_no (by simp [argsOk, c4])]
    go_enter Try.func23, Try.ntmps23
    go_wp2_with (first | (go_at_call 49; refine (areWithin_any _ _ _ _ _ _ _ h hn).mono ?_; rintro e w' ⟨rfl, rfl⟩) | (go_at_call 43; refine (isWidth_any _ _).mono ?_; rintro e w' ⟨rfl, rfl⟩) | (go_at_call 50; refine (within_any _ _ _ _).mono ?_; rintro e w' ⟨rfl, rfl⟩))
    go_ret2
    exact ⟨_, _, _, rfl, Own.nil_ _ _ _ _ _, Below.refl _ _⟩
  have hok : argsOk xs s u v = true := by simp [argsOk, c1', c2, c3, c4]
  obtain ⟨hl, hs, hu, hv⟩ := argsOk_true hok
  have hle := listOk_le hl hxl
  generalize hres : spansOf xs s u v = res
  replace hres := Lib.hid hres
  go_enter Try.func23, Try.ntmps23
  go_wp2_with (first | (go_at_call 49; refine (areWithin_any _ _ _ _ _ _ _ h hn).mono ?_; rintro e w' ⟨rfl, rfl⟩) | (go_at_call 43; refine (isWidth_any _ _).mono ?_; rintro e w' ⟨rfl, rfl⟩) | (go_at_call 50; refine (within_any _ _ _ _).mono ?_; rintro e w' ⟨rfl, rfl⟩))
  go_loopw [10, 38] (fun l i wr => ∃ (k : Nat) (a' : Option Addr) (q cp : Nat) (acc : List (Int × Int)), k ≤ n ∧ i = .int .i64 k ∧ l = .slice a' q cp ∧ Own wr w.heap.size wr.heap.size 49 2 a' q cp (prs acc) ∧ Hid (SlInv s u v xs k acc) ∧ Below w.heap.size w wr) (fun _ i _ => n - (intOf i).toNat)
  case atStart => exact ⟨0, _, 0, 0, [], Nat.zero_le _, rfl, rfl, Own.nil_ _ _ _ _ _, SlInv.start _ _ _ _, Below.refl _ _⟩
  case round =>
    obtain ⟨k, a', q, cp, acc, hk, rfl, rfl, hown, hinv, hbel⟩ := hrel
    have hq : q ≤ k := by have := hown.row.len2; have := hinv.out.2; omega
    by_cases hlt : k < n
    · obtain ⟨b, off, d, rfl, hc, hx⟩ := (h.below hbel (Nat.le_refl _)).at_ hlt
      obtain ⟨hd0, hd1⟩ := listOk_get hl hx.out
      obtain ⟨⟨p0, p1⟩, p2, p3⟩ := prod_bd hd0 hd1 hu.1 hu.2 hv.1
      have k0 : 0 ≤ (k : Int) * s := Int.mul_nonneg (by omega) (by omega)
      have k1 : (k : Int) * s ≤ 60 * 10000 := Int.mul_le_mul (by omega) (by omega) (by omega) (by omega)
      have e1 : Int.tdiv (d * u) (2 * v) = d * u / (2 * v) := Int.tdiv_eq_ediv_of_nonneg p0
      have z1 : (2 * v == 0) = false := by simp; omega
      have z2 : (2 * v == -1) = false := by simp; omega
      have z3 : ¬ v = 0 := by omega
      have z4 : ¬ 2 * v = 0 := by omega
      have z5 : ¬ 2 * v = -1 := by omega
      go_wp2_with (first | (go_at_call 51; refine (floorDiv_any _ _ _ (by omega) (by omega) (by omega) (by omega)).mono ?_; rintro e w' ⟨rfl, rfl⟩) | (at_builtin; refine wpList_app _ rfl (.tmp 43) (.tmp 54) _ rfl Try.underlying26 info_Span rfl (by decide) rfl (hown.alloc _) rfl (by exact Row.litK _ (prs [((k : Int) * s, d * u / (2 * v))]) _ _ 1 2 (by simp) (by rfl)) (prs_one [((k : Int) * s, d * u / (2 * v))]) (by decide) (by simp only [maxLen]; omega) (by omega) (by have := hbel.size; simp; omega) ?_; intro A2 c2 w2 hown2 hb2 _))
      go_roundw
      case rel => exact ⟨k + 1, _, _, _, acc ++ [((k : Int) * s, d * u / (2 * v))], by omega, by go_num, rfl, by rw [prs_app]; exact hown2, hinv.out.step hx.out, (hbel.alloc hbel.size _).trans hb2⟩
      case measure => simp [intOf]; omega
    · have hdn := hinv.out.done hxl hlt
      have hq60 : q ≤ 1048576 := by omega
      cases hs2 : spansOk acc
      · have hr := spansOf_out hok (by rw [hdn]; exact hs2)
        rw [hres.out] at hr
        replace hr := Lib.hid hr
        go_wp2_with (go_at_call 31; refine (areSpans_impl _ _ _ _ _ hown.row hq60).mono ?_; rintro e w' ⟨rfl, hb⟩)
        go_ret2
        rw [hr.out]
        exact ⟨_, _, _, rfl, Own.nil_ _ _ _ _ _, hbel.trans (hb.mono hbel.size)⟩
      · have hr := spansOf_yes hok (by rw [hdn]; exact hs2)
        rw [hres.out, hdn] at hr
        replace hr := Lib.hid hr
        go_wp2_with (go_at_call 31; refine (areSpans_impl _ _ _ _ _ hown.row hq60).mono ?_; rintro e w' ⟨rfl, hb⟩)
        go_ret2
        rw [hr.out]
        exact ⟨_, _, _, rfl, (hown.below hb (.inr (Nat.le_refl _))).leave, hbel.trans (hb.mono hbel.size)⟩
end Go.Proofs.Ytdihpllebccncaa
