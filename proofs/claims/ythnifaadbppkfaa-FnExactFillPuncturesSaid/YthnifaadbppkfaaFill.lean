/- FillPunctures, by both programs. -/
import Derived.Test.YthnifaadbppkfaaLib
import Derived.Test.YthnifaadbppkfaaConv
namespace Go.Proofs.Ythnifaadbppkfaa
open Go.RowKit
set_option maxRecDepth 100000
set_option linter.unusedVariables false

def fill : Nat → Nat → List Int → List Int
  | 0, _, _ => []
  | m + 1, i, xs => if i % 4 = 3 then 2 :: fill m (i + 1) xs else xs.take 1 ++ fill m (i + 1) (xs.drop 1)
/-- How many of the first i places are not left out. -/
def kept (i : Nat) : Nat := i - i / 4
def fillPunc (xs : List Int) (n : Int) : List Int × Int :=
  if !(listOk 604 0 1 xs) then ([], 1) else if !(inR 0 604 n && decide ((xs.length : Int) = n - n / 4)) then ([], 2) else (fill n.toNat 0 xs, 0)
theorem fillPunc_no {xs : List Int} {n : Int} (h : listOk 604 0 1 xs = false) : fillPunc xs n = ([], 1) := by simp [fillPunc, h]
theorem fillPunc_out {xs : List Int} {n : Int} (h : listOk 604 0 1 xs = true) (h2 : (inR 0 604 n && decide ((xs.length : Int) = n - n / 4)) = false) : fillPunc xs n = ([], 2) := by
  simp only [fillPunc, h, h2]; rfl
theorem fillPunc_yes {xs : List Int} {n : Int} (h : listOk 604 0 1 xs = true) (h2 : inR 0 604 n = true) (h3 : (xs.length : Int) = n - n / 4) : fillPunc xs n = (fill n.toNat 0 xs, 0) := by
  simp [fillPunc, h, h2, h3]
theorem fill_len : ∀ (m i : Nat) (xs : List Int), (fill m i xs).length ≤ m
  | 0, _, _ => by simp [fill]
  | m + 1, i, xs => by
    rw [fill]
    split
    · have := fill_len m (i + 1) xs; simp; omega
    · have := fill_len m (i + 1) (xs.drop 1); simp only [List.length_append, List.length_take]; omega
theorem fillPunctures_len (xs : List Int) (n : Int) : (fillPunc xs n).1.length ≤ 604 := by
  unfold fillPunc
  split
  · simp
  · split
    · simp
    · rename_i h
      have := fill_len n.toNat 0 xs
      simp [inR] at h
      simp only
      omega

def FInv (xs : List Int) (n k at_ : Nat) (ys : List Int) : Prop := ys ++ fill (n - k) k (xs.drop at_) = fill n 0 xs ∧ ys.length = k ∧ at_ = kept k
theorem FInv.start (xs : List Int) (n : Nat) : FInv xs n 0 0 [] := ⟨rfl, rfl, rfl⟩
theorem FInv.out {xs ys : List Int} {n k at_ : Nat} (h : FInv xs n k at_ ys) (hk : k < n) (hp : k % 4 = 3) : FInv xs n (k + 1) at_ (ys ++ [2]) := by
  obtain ⟨h1, h2, h3⟩ := h
  refine ⟨?_, by simp [h2], by unfold kept at h3 ⊢; omega⟩
  rw [← h1, show n - k = (n - (k + 1)) + 1 from by omega, fill, if_pos hp, List.append_assoc]; rfl
theorem FInv.keep {xs ys : List Int} {n k at_ : Nat} {x : Int} (h : FInv xs n k at_ ys) (hk : k < n) (hp : ¬ k % 4 = 3) (hx : xs[at_]? = some x) : FInv xs n (k + 1) (at_ + 1) (ys ++ [x]) := by
  obtain ⟨h1, h2, h3⟩ := h
  refine ⟨?_, by simp [h2], by unfold kept at h3 ⊢; omega⟩
  rw [← h1, show n - k = (n - (k + 1)) + 1 from by omega, drop_at hx, fill, if_neg hp, List.append_assoc]; rfl
theorem FInv.done {xs ys : List Int} {n k at_ : Nat} (h : FInv xs n k at_ ys) (hk : ¬ k < n) : fill n 0 xs = ys := by
  rw [← h.1, show n - k = 0 from by omega]; simp [fill]
theorem FInv.at_lt {xs ys : List Int} {n k at_ len : Nat} (h : FInv xs n k at_ ys) (hk : k < n) (hp : ¬ k % 4 = 3) (hl : (len : Int) = (n : Int) - (n : Int) / 4) : at_ < len := by
  obtain ⟨h1, h2, h3⟩ := h
  unfold kept at h3
  omega

theorem fillPunctures_spec (a : Option Addr) (n c : Nat) (xs : List Int) (N : Int) (w : World) (h : Row w 1 a n (ints xs)) (hn : n ≤ 1048576) :
    Calls Try.prog 10 #[.slice a n c, .int .i64 N] w fun e w' => ∃ a n cp, e = .returned (.tuple #[.slice a n cp, .int .i64 (fillPunc xs N).2]) ∧ Own w' w.heap.size w'.heap.size 2 1 a n cp (ints (fillPunc xs N).1) ∧ Below w.heap.size w w' := by
  cases hok : listOk 604 0 1 xs
  · rw [fillPunc_no hok]
    go_enter Try.func10, Try.ntmps10
    go_wp2_with (go_at_call 39; refine (l27Code_any _ _ _ _ _ h hn).mono ?_; rintro e w' ⟨rfl, rfl⟩)
    go_ret2
    exact ⟨_, _, _, rfl, Own.nil_ _ _ _ _ _, Below.refl _ _⟩
  cases hr : inR 0 604 N
  · rw [fillPunc_out hok (by rw [hr]; rfl)]
    go_enter Try.func10, Try.ntmps10
    go_wp2_with (first | (go_at_call 39; refine (l27Code_any _ _ _ _ _ h hn).mono ?_; rintro e w' ⟨rfl, rfl⟩) | (go_at_call 40; refine (l01In_any _ _ _ _).mono ?_; rintro e w' ⟨rfl, rfl⟩))
    go_ret2
    exact ⟨_, _, _, rfl, Own.nil_ _ _ _ _ _, Below.refl _ _⟩
  have hr' : 0 ≤ N ∧ N ≤ 604 := by simpa [inR] using hr
  obtain ⟨M, rfl⟩ := Int.eq_ofNat_of_zero_le hr'.1
  have htd : Int.tdiv (M : Int) 4 = (M : Int) / 4 := Int.tdiv_eq_ediv_of_nonneg (by omega)
  by_cases hl : (n : Int) = (M : Int) - (M : Int) / 4
  · have hl1 : ((n : Int) != (M : Int) - (M : Int) / 4) = false := by simp [hl]
    have hl2 : ((n : Int) == (M : Int) - (M : Int) / 4) = true := by simp [hl]
    rw [fillPunc_yes hok hr (by rw [h.len]; exact hl)]
    go_enter Try.func10, Try.ntmps10
    go_wp2_with (first | (go_at_call 39; refine (l27Code_any _ _ _ _ _ h hn).mono ?_; rintro e w' ⟨rfl, rfl⟩) | (go_at_call 40; refine (l01In_any _ _ _ _).mono ?_; rintro e w' ⟨rfl, rfl⟩))
    go_loopw [6, 7, 8] (fun l p i wr => ∃ (k at_ : Nat) (a' : Option Addr) (m cp : Nat) (ys : List Int), k ≤ M ∧ at_ ≤ k ∧ i = .int .i64 k ∧ p = .int .i64 at_ ∧ l = .slice a' m cp ∧ Own wr w.heap.size wr.heap.size 2 1 a' m cp (ints ys) ∧ Hid (FInv xs M k at_ ys) ∧ Below w.heap.size w wr) (fun _ _ i _ => M - (intOf i).toNat)
    case atStart => exact ⟨0, 0, _, 0, 0, [], Nat.zero_le _, Nat.zero_le _, rfl, rfl, rfl, (Own.lit0 _ _ _).mono (Nat.le_refl _) (by simp), FInv.start _ _, (Below.refl _ _).alloc (Nat.le_refl _) _⟩
    case round =>
      obtain ⟨k, at_, a', m, cp, ys, hk, hat, rfl, rfl, rfl, hown, hinv, hbel⟩ := hrel
      by_cases hlt : k < M
      · have hm : m = k := by have := hown.row.len; have := hinv.out.2.1; omega
        by_cases hp : k % 4 = 3
        · have hp2 : ((k : Int) % 4 == 3) = true := by simp; omega
          go_wp2_with (at_builtin; refine wpList_app _ rfl (.tmp 33) (.tmp 34) _ rfl Try.underlying22 info_i64 rfl (by decide) rfl (hown.alloc _) rfl (Row.one _ _ _) (ints_one [_]) (by decide) (by simp only [maxLen]; omega) (by omega) (by have := hbel.size; simp; omega) ?_; intro A2 c2 w2 hown2 hb2 _)
          go_roundw
          case rel => exact ⟨k + 1, at_, _, _, _, ys ++ [2], by omega, by omega, by go_num, rfl, rfl, by subst hm; rw [ints_app]; exact hown2, hinv.out.out hlt hp, (hbel.alloc hbel.size _).trans hb2⟩
          case measure => simp [intOf]; omega
        · have hp2 : ((k : Int) % 4 == 3) = false := by simp; omega
          have hal := hinv.out.at_lt hlt hp hl
          obtain ⟨b, off, x, rfl, hc, hx⟩ := (h.below hbel (Nat.le_refl _)).at_ hal
          go_wp2_with (at_builtin; refine wpList_app _ rfl (.tmp 36) (.tmp 41) _ rfl Try.underlying22 info_i64 rfl (by decide) rfl (hown.alloc _) rfl (Row.one _ _ _) (ints_one [_]) (by decide) (by simp only [maxLen]; omega) (by omega) (by have := hbel.size; simp; omega) ?_; intro A2 c2 w2 hown2 hb2 _)
          go_roundw
          case rel => exact ⟨k + 1, at_ + 1, _, _, _, ys ++ [x], by omega, by omega, by go_num, by go_num, rfl, by subst hm; rw [ints_app]; exact hown2, hinv.out.keep hlt hp hx.out, (hbel.alloc hbel.size _).trans hb2⟩
          case measure => simp [intOf]; omega
      · go_wp2
        go_ret2
        refine ⟨_, _, _, rfl, ?_, hbel⟩
        rw [show ((M : Int)).toNat = M from by omega, hinv.out.done hlt]; exact hown
  · have hl1 : ((n : Int) != (M : Int) - (M : Int) / 4) = true := by simpa using hl
    have hl2 : ((n : Int) == (M : Int) - (M : Int) / 4) = false := by simpa using hl
    rw [fillPunc_out hok (by rw [hr, h.len]; simpa using hl)]
    go_enter Try.func10, Try.ntmps10
    go_wp2_with (first | (go_at_call 39; refine (l27Code_any _ _ _ _ _ h hn).mono ?_; rintro e w' ⟨rfl, rfl⟩) | (go_at_call 40; refine (l01In_any _ _ _ _).mono ?_; rintro e w' ⟨rfl, rfl⟩))
    go_ret2
    exact ⟨_, _, _, rfl, Own.nil_ _ _ _ _ _, Below.refl _ _⟩

theorem fset {ys : List Int} {k n : Nat} {z : Value} {x : Int} (hl : ys.length = k) (hk : k < n) :
    (ints ys ++ List.replicate (n - k) z).set k (.int .i64 x) = ints (ys ++ [x]) ++ List.replicate (n - (k + 1)) z := by
  have hlen : (ints ys).length = k := by rw [ints_length, hl]
  rw [ints_app, List.append_assoc, List.set_append_right _ _ (by omega), hlen, Nat.sub_self]
  rw [show n - k = (n - (k + 1)) + 1 from by omega, List.replicate_succ]
  rfl
theorem fset2 {ys : List Int} {k n : Nat} {z : Value} {x y : Int} (hl : ys.length = k) (hk : k < n) :
    (ints (ys ++ [y]) ++ List.replicate (n - (k + 1)) z).set k (.int .i64 x) = ints (ys ++ [x]) ++ List.replicate (n - (k + 1)) z := by
  have hlen : (ints ys).length = k := by rw [ints_length, hl]
  rw [ints_app, ints_app, List.append_assoc, List.append_assoc, List.set_append_right _ _ (by omega), hlen, Nat.sub_self]
  rfl

theorem fillPunctures_impl (a : Option Addr) (n c : Nat) (xs : List Int) (N : Int) (w : World) (h : Row w 1 a n (ints xs)) (hn : n ≤ 1048576) :
    Calls Try.prog 12 #[.slice a n c, .int .i64 N] w fun e w' => ∃ a n cp, e = .returned (.tuple #[.slice a n cp, .int .i64 (fillPunc xs N).2]) ∧ Own w' w.heap.size w'.heap.size 2 1 a n cp (ints (fillPunc xs N).1) ∧ Below w.heap.size w w' := by
  cases hok : listOk 604 0 1 xs
  · rw [fillPunc_no hok]
    go_enter Try.func12, Try.ntmps12
    go_wp2_with (go_at_call 41; refine (isCode_any _ _ _ _ _ h hn).mono ?_; rintro e w' ⟨rfl, rfl⟩)
    go_ret2
    exact ⟨_, _, _, rfl, Own.nil_ _ _ _ _ _, Below.refl _ _⟩
  cases hr : inR 0 604 N
  · rw [fillPunc_out hok (by rw [hr]; rfl)]
    go_enter Try.func12, Try.ntmps12
    go_wp2_with (first | (go_at_call 41; refine (isCode_any _ _ _ _ _ h hn).mono ?_; rintro e w' ⟨rfl, rfl⟩) | (go_at_call 42; refine (within_any _ _ _ _).mono ?_; rintro e w' ⟨rfl, rfl⟩))
    go_ret2
    exact ⟨_, _, _, rfl, Own.nil_ _ _ _ _ _, Below.refl _ _⟩
  have hr' : 0 ≤ N ∧ N ≤ 604 := by simpa [inR] using hr
  obtain ⟨M, rfl⟩ := Int.eq_ofNat_of_zero_le hr'.1
  have htd : Int.tdiv (M : Int) 4 = (M : Int) / 4 := Int.tdiv_eq_ediv_of_nonneg (by omega)
  have hmk := run_make_row' (P := Try.prog) 22 2 (.int .i64 0) 8 Try.underlying22 info_i64 rfl .i64 .i64 M (by omega) (by omega)
  by_cases hl : (n : Int) = (M : Int) - (M : Int) / 4
  · have hl1 : ((n : Int) != (M : Int) - (M : Int) / 4) = false := by simp [hl]
    have hl2 : ((n : Int) == (M : Int) - (M : Int) / 4) = true := by simp [hl]
    rw [fillPunc_yes hok hr (by rw [h.len]; exact hl)]
    go_enter Try.func12, Try.ntmps12
    go_wp2_with (first | (go_at_call 41; refine (isCode_any _ _ _ _ _ h hn).mono ?_; rintro e w' ⟨rfl, rfl⟩) | (go_at_call 42; refine (within_any _ _ _ _).mono ?_; rintro e w' ⟨rfl, rfl⟩) | (go_at_call 43; refine (length_any _ _ _ _ (by omega)).mono ?_; rintro e w' ⟨rfl, rfl⟩))
    go_loopw [7, 30] (fun p i wr => ∃ (k at_ : Nat) (ys : List Int), k ≤ M ∧ at_ ≤ k ∧ i = .int .i64 k ∧ p = .int .i64 at_ ∧ Own wr w.heap.size (w.heap.size + 1) 2 1 (some ⟨w.heap.size, 0, none⟩) M M (ints ys ++ List.replicate (M - k) (.int .i64 0)) ∧ Hid (FInv xs M k at_ ys) ∧ Below w.heap.size w wr ∧ w.heap.size < wr.heap.size) (fun _ i _ => M - (intOf i).toNat)
    case atStart => exact ⟨0, 0, [], Nat.zero_le _, Nat.zero_le _, rfl, rfl, by simpa [ints] using Own.made w _ (by simp only [maxLen]; omega), FInv.start _ _, (Below.refl _ _).alloc (Nat.le_refl _) _, by simp⟩
    case round =>
      obtain ⟨k, at_, ys, hk, hat, rfl, rfl, hown, hinv, hbel, hsz⟩ := hrel
      by_cases hlt : k < M
      · have hfz := hown.frozenAt k
        have hst := hown.stored k (.int .i64 2)
        have hcell : ∃ v, wr.cell? ⟨w.heap.size, k, none⟩ = some v := by
          refine ⟨_, (hown.cellAt k (by omega)).trans (List.getElem?_eq_getElem ?_)⟩
          have := hown.len; omega
        obtain ⟨v, hcv⟩ := hcell
        rw [fset hinv.out.2.1 hlt] at hst
        by_cases hp : k % 4 = 3
        · have hp2 : ((k : Int) % 4 == 3) = true := by simp; omega
          have H := Lib.hid hst; clear hst hown
          go_wp2_with (go_at_call 44; refine (isPuncture_any _ _ (by omega)).mono ?_; rintro e w' ⟨rfl, rfl⟩)
          go_roundw
          case rel => exact ⟨k + 1, at_, ys ++ [2], by omega, by omega, by go_num, rfl, H.out.1, hinv.out.out hlt hp, hbel.setCell (Nat.le_refl _) _, by simp [World.setCell]; omega⟩
          case measure => simp [intOf]; omega
        · have hp2 : ((k : Int) % 4 == 3) = false := by simp; omega
          have hal := hinv.out.at_lt hlt hp hl
          have hbel2 : Below w.heap.size w (wr.setCell ⟨w.heap.size, k, none⟩ (.int .i64 2)) := hbel.setCell (Nat.le_refl _) _
          obtain ⟨b, off, x, rfl, hc, hx⟩ := (h.below hbel2 (Nat.le_refl _)).at_ hal
          have hst2 := hst.1.stored k (.int .i64 x)
          have hfz2 := hst.1.frozenAt k
          have hcv2 : (wr.setCell ⟨w.heap.size, k, none⟩ (.int .i64 2)).cell? ⟨w.heap.size, k, none⟩ = some (.int .i64 2) := World.cell?_setCell_same _ _ _ hcv
          rw [fset2 hinv.out.2.1 hlt] at hst2
          have H := Lib.hid hst2; clear hst2 hst hown
          go_wp2_with (go_at_call 44; refine (isPuncture_any _ _ (by omega)).mono ?_; rintro e w' ⟨rfl, rfl⟩)
          go_roundw
          case rel => exact ⟨k + 1, at_ + 1, ys ++ [x], by omega, by omega, by go_num, by go_num, H.out.1, hinv.out.keep hlt hp hx.out, hbel2.setCell (Nat.le_refl _) _, by simp [World.setCell]; omega⟩
          case measure => simp [intOf]; omega
      · go_wp2
        go_ret2
        refine ⟨_, _, _, rfl, ?_, hbel⟩
        rw [show ((M : Int)).toNat = M from by omega, hinv.out.done hlt]
        rw [show M - k = 0 from by omega] at hown
        simpa using hown.mono (Nat.le_refl _) (by omega)
  · have hl1 : ((n : Int) != (M : Int) - (M : Int) / 4) = true := by simpa using hl
    have hl2 : ((n : Int) == (M : Int) - (M : Int) / 4) = false := by simpa using hl
    rw [fillPunc_out hok (by rw [hr, h.len]; simpa using hl)]
    go_enter Try.func12, Try.ntmps12
    go_wp2_with (first | (go_at_call 41; refine (isCode_any _ _ _ _ _ h hn).mono ?_; rintro e w' ⟨rfl, rfl⟩) | (go_at_call 42; refine (within_any _ _ _ _).mono ?_; rintro e w' ⟨rfl, rfl⟩) | (go_at_call 43; refine (length_any _ _ _ _ (by omega)).mono ?_; rintro e w' ⟨rfl, rfl⟩))
    go_ret2
    exact ⟨_, _, _, rfl, Own.nil_ _ _ _ _ _, Below.refl _ _⟩
end Go.Proofs.Ythnifaadbppkfaa
