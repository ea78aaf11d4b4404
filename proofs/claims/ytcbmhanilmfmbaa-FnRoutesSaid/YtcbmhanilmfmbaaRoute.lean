/- Routes: their points and their length, by both programs. -/
import Derived.Test.YtcbmhanilmfmbaaPoint
namespace Go.Proofs.Ytcbmhanilmfmbaa
open Go.RowKit
set_option maxRecDepth 100000
set_option linter.unusedVariables false

def routeTwo (L : Int) (i : Nat) (x : Int) : List (Int × Int) := if i % 2 = 1 then [(x, L), (x, 0)] else [(x, 0), (x, L)]
def routePts (L : Int) : Nat → List Int → List (Int × Int)
  | _, [] => []
  | i, x :: t => routeTwo L i x ++ routePts L (i + 1) t
theorem routePts_len (L : Int) : ∀ (xs : List Int) (i : Nat), (routePts L i xs).length = 2 * xs.length
  | [], _ => rfl
  | x :: t, i => by
    rw [routePts, List.length_append, routePts_len L t]
    unfold routeTwo
    split <;> simp <;> omega
def routePoints (xs : List Int) (L : Int) : List (Int × Int) × Int := if listOk 60 0 10000 xs && inR 0 10000 L then (routePts L 0 xs, 0) else ([], 2)
theorem routePoints_no {xs : List Int} {L : Int} (h : (listOk 60 0 10000 xs && inR 0 10000 L) = false) : routePoints xs L = ([], 2) := by simp only [routePoints, h]; rfl
theorem routePoints_yes {xs : List Int} {L : Int} (h : (listOk 60 0 10000 xs && inR 0 10000 L) = true) : routePoints xs L = (routePts L 0 xs, 0) := by simp only [routePoints, h]; rfl
theorem routePoints_len (xs : List Int) (L : Int) : (routePoints xs L).1.length ≤ 120 := by
  unfold routePoints
  split
  · rename_i h
    simp only [Bool.and_eq_true] at h
    have := listOk_le h.1 rfl
    simp only [routePts_len]
    omega
  · simp

def RPInv (L : Int) (xs : List Int) (k : Nat) (ys : List (Int × Int)) : Prop := ys ++ routePts L k (xs.drop k) = routePts L 0 xs ∧ ys.length = 2 * k
theorem RPInv.start (L : Int) (xs : List Int) : RPInv L xs 0 [] := ⟨rfl, rfl⟩
theorem RPInv.odd {L x : Int} {xs : List Int} {k : Nat} {ys : List (Int × Int)} (h : RPInv L xs k ys) (hx : xs[k]? = some x) (hk : k % 2 = 1) : RPInv L xs (k + 1) (ys ++ [(x, L), (x, 0)]) := by
  refine ⟨?_, by have := h.2; simp; omega⟩
  rw [← h.1, drop_at hx, routePts, routeTwo, if_pos hk, List.append_assoc]
theorem RPInv.even {L x : Int} {xs : List Int} {k : Nat} {ys : List (Int × Int)} (h : RPInv L xs k ys) (hx : xs[k]? = some x) (hk : ¬ k % 2 = 1) : RPInv L xs (k + 1) (ys ++ [(x, 0), (x, L)]) := by
  refine ⟨?_, by have := h.2; simp; omega⟩
  rw [← h.1, drop_at hx, routePts, routeTwo, if_neg hk, List.append_assoc]
theorem RPInv.done {L : Int} {xs : List Int} {k n : Nat} {ys : List (Int × Int)} (h : RPInv L xs k ys) (hl : xs.length = n) (hk : ¬ k < n) : routePts L 0 xs = ys := by
  rw [← h.1, List.drop_of_length_le (by omega)]
  simp [routePts]

theorem routePoints_impl (a : Option Addr) (n c : Nat) (xs : List Int) (L : Int) (w : World) (h : Row w 1 a n (ints xs)) (hn : n ≤ 1048576) :
    Calls Try.prog 22 #[.slice a n c, .int .i64 L] w fun e w' => ∃ a n cp, e = .returned (.tuple #[.slice a n cp, .int .i64 (routePoints xs L).2]) ∧ Own w' w.heap.size w'.heap.size 72 2 a n cp (prs (routePoints xs L).1) ∧ Below w.heap.size w w' := by
  by_cases hm : (60 : Int) < n
  · rw [routePoints_no (by rw [listOk_len h.len (by omega)]; rfl)]
    go_enter Try.func22, Try.ntmps22
    go_wp2
    go_ret2
    exact ⟨_, _, _, rfl, Own.nil_ _ _ _ _ _, Below.refl _ _⟩
  have e0 := listOk_all (lo := 0) (hi := 10000) h.len (show (n : Int) ≤ 60 by omega)
  have eL : [L].all (inR 0 10000) = inR 0 10000 L := by simp
  cases h1 : xs.all (inR 0 10000)
  · rw [routePoints_no (by rw [e0, h1]; rfl)]
    clear e0
    go_enter Try.func22, Try.ntmps22
    go_wp2_with (go_at_call 53; refine (isField_any _ _ _ _ _ h hn).mono ?_; rintro e w' ⟨rfl, rfl⟩)
    go_ret2
    exact ⟨_, _, _, rfl, Own.nil_ _ _ _ _ _, Below.refl _ _⟩
  cases h2 : inR 0 10000 L
  · rw [routePoints_no (by rw [e0, h1, h2]; rfl)]
    clear e0
    go_enter Try.func22, Try.ntmps22
    go_wp2_with fail
    go_at_call 53
    refine (isField_any _ _ _ _ _ h hn).mono ?_
    rintro e w' ⟨rfl, rfl⟩
    go_wp2_with (go_at_call 53; refine (isField_any _ _ _ [L] _ (by exact Row.lit _ _ _ _ _ (by simp) (by rfl)) (by omega)).mono ?_; rintro e w' ⟨rfl, rfl⟩)
    go_ret2
    exact ⟨_, _, _, rfl, Own.nil_ _ _ _ _ _, by go_grown⟩
  rw [routePoints_yes (by rw [e0, h1, h2]; rfl)]
  clear e0
  go_enter Try.func22, Try.ntmps22
  go_wp2_with fail
  go_at_call 53
  refine (isField_any _ _ _ _ _ h hn).mono ?_
  rintro e w' ⟨rfl, rfl⟩
  go_wp2_with (go_at_call 53; refine (isField_any _ _ _ [L] _ (by exact Row.lit _ _ _ _ _ (by simp) (by rfl)) (by omega)).mono ?_; rintro e w' ⟨rfl, rfl⟩)
  go_loopw [6, 27] (fun l i wr => ∃ (k : Nat) (a' : Option Addr) (m cp : Nat) (ys : List (Int × Int)), k ≤ n ∧ i = .int .i64 k ∧ l = .slice a' m cp ∧ Own wr w.heap.size wr.heap.size 72 2 a' m cp (prs ys) ∧ Hid (RPInv L xs k ys) ∧ Below w.heap.size w wr) (fun _ i _ => n - (intOf i).toNat)
  case atStart => exact ⟨0, none, 0, 0, [], Nat.zero_le _, rfl, rfl, Own.nil_ _ _ _ _ _, RPInv.start _ _, by go_grown⟩
  case round =>
    obtain ⟨k, a', m, cp, ys, hk, rfl, rfl, hown, hinv, hbel⟩ := hrel
    by_cases hlt : k < n
    · obtain ⟨b, off, x, rfl, hc, hx⟩ := (h.below hbel (Nat.le_refl _)).at_ hlt
      have hmk : m ≤ 120 := by have := hown.row.len2; have := hinv.out.2; omega
      by_cases hp : k % 2 = 1
      · have hp2 : ((k : Int) % 2 == 1) = true := by simp; omega
        go_wp2_with (at_builtin; refine wpList_app _ rfl (.tmp 42) (.tmp 45) _ rfl Try.underlying39 info_Point rfl (by decide) rfl (((hown.alloc _).alloc _).alloc _) rfl (by exact Row.litK _ (prs [(x, L), (x, 0)]) _ _ 2 2 (by simp) (by rfl)) (prs_one [(x, L), (x, 0)]) (by decide) (by simp only [maxLen]; omega) (by omega) (by have := hbel.size; simp; omega) ?_; intro A2 c2 w2 hown2 hb2 _)
        go_roundw
        case rel => exact ⟨k + 1, _, _, _, ys ++ [(x, L), (x, 0)], by omega, by go_num, rfl, by rw [prs_app]; exact hown2, hinv.out.odd hx.out hp, (((hbel.alloc hbel.size _).alloc (by have := hbel.size; simp; omega) _).alloc (by have := hbel.size; simp; omega) _).trans hb2⟩
        case measure => simp [intOf] <;> omega
      · have hp2 : ((k : Int) % 2 == 1) = false := by simp; omega
        go_wp2_with (at_builtin; refine wpList_app _ rfl (.tmp 42) (.tmp 45) _ rfl Try.underlying39 info_Point rfl (by decide) rfl (((hown.alloc _).alloc _).alloc _) rfl (by exact Row.litK _ (prs [(x, 0), (x, L)]) _ _ 2 2 (by simp) (by rfl)) (prs_one [(x, 0), (x, L)]) (by decide) (by simp only [maxLen]; omega) (by omega) (by have := hbel.size; simp; omega) ?_; intro A2 c2 w2 hown2 hb2 _)
        go_roundw
        case rel => exact ⟨k + 1, _, _, _, ys ++ [(x, 0), (x, L)], by omega, by go_num, rfl, by rw [prs_app]; exact hown2, hinv.out.even hx.out hp, (((hbel.alloc hbel.size _).alloc (by have := hbel.size; simp; omega) _).alloc (by have := hbel.size; simp; omega) _).trans hb2⟩
        case measure => simp [intOf] <;> omega
    · go_wp2
      go_ret2
      refine ⟨_, _, _, rfl, ?_, hbel⟩
      rw [hinv.out.done h.len hlt]; exact hown

theorem routePoints_spec (a : Option Addr) (n c : Nat) (xs : List Int) (L : Int) (w : World) (h : Row w 1 a n (ints xs)) (hn : n ≤ 1048576) :
    Calls Try.prog 23 #[.slice a n c, .int .i64 L] w fun e w' => ∃ a n cp, e = .returned (.tuple #[.slice a n cp, .int .i64 (routePoints xs L).2]) ∧ Own w' w.heap.size w'.heap.size 72 2 a n cp (prs (routePoints xs L).1) ∧ Below w.heap.size w w' := by
  cases h1 : listOk 60 0 10000 xs
  · rw [routePoints_no (by rw [h1]; rfl)]
    go_enter Try.func23, Try.ntmps23
    go_wp2_with (go_at_call 54; refine (l01Within_any _ _ _ _ _ _ _ _ h hn).mono ?_; rintro e w' ⟨rfl, rfl⟩)
    go_ret2
    exact ⟨_, _, _, rfl, Own.nil_ _ _ _ _ _, Below.refl _ _⟩
  cases h2 : inR 0 10000 L
  · rw [routePoints_no (by rw [h1, h2]; rfl)]
    go_enter Try.func23, Try.ntmps23
    go_wp2_with (first | (go_at_call 54; refine (l01Within_any _ _ _ _ _ _ _ _ h hn).mono ?_; rintro e w' ⟨rfl, rfl⟩) | (go_at_call 55; refine (l01In_any _ _ _ _).mono ?_; rintro e w' ⟨rfl, rfl⟩))
    go_ret2
    exact ⟨_, _, _, rfl, Own.nil_ _ _ _ _ _, Below.refl _ _⟩
  rw [routePoints_yes (by rw [h1, h2]; rfl)]
  have hnb := listOk_le h1 h.len
  go_enter Try.func23, Try.ntmps23
  go_wp2_with (first | (go_at_call 54; refine (l01Within_any _ _ _ _ _ _ _ _ h hn).mono ?_; rintro e w' ⟨rfl, rfl⟩) | (go_at_call 55; refine (l01In_any _ _ _ _).mono ?_; rintro e w' ⟨rfl, rfl⟩))
  go_loopw [6, 7] (fun l i wr => ∃ (k : Nat) (a' : Option Addr) (m cp : Nat) (ys : List (Int × Int)), k ≤ n ∧ i = .int .i64 k ∧ l = .slice a' m cp ∧ Own wr w.heap.size wr.heap.size 72 2 a' m cp (prs ys) ∧ Hid (RPInv L xs k ys) ∧ Below w.heap.size w wr) (fun _ i _ => n - (intOf i).toNat)
  case atStart => exact ⟨0, _, 0, 0, [], Nat.zero_le _, rfl, rfl, (Own.lit0 _ _ _).mono (Nat.le_refl _) (by simp), RPInv.start _ _, (Below.refl _ _).alloc (Nat.le_refl _) _⟩
  case round =>
    obtain ⟨k, a', m, cp, ys, hk, rfl, rfl, hown, hinv, hbel⟩ := hrel
    by_cases hlt : k < n
    · obtain ⟨b, off, x, rfl, hc, hx⟩ := (h.below hbel (Nat.le_refl _)).at_ hlt
      have hmk : m ≤ 120 := by have := hown.row.len2; have := hinv.out.2; omega
      have hi : (k : Int) < (n : Int) := by omega
      have hblk : b < w.heap.size := by
        obtain ⟨b', off', x', e', hc', -⟩ := h.at_ hlt
        injection e' with e'
        injection e' with e' _ _
        subst e'
        exact World.block_lt_of_cell? w _ hc'
      by_cases hp : k % 2 = 1
      · have hp2 : ((k : Int) % 2 == 1) = true := by simp; omega
        go_wp2_with fail
        have hbb : b < w.heap.size := hblk
        go_region_held3 (fun w' => w'.cell? ⟨b, off + k, none⟩ = some (.int .i64 x)) (first | go_keep | (rw [hb2.cell (by simpa using hblk)]; assumption) | (simp [go_sem, World.cell?_alloc_past, *])) ((refine step_app _ (by rfl) (.tmp 30) (.tmp 43) _ (by rfl) Try.underlying39 info_Point rfl (by decide) (by rfl) (hown.drew.alloc _) (by rfl) (by exact Row.litK _ (prs [(x, L), (x, 0)]) _ _ 2 2 (by simp) (by rfl)) (prs_one [(x, L), (x, 0)]) (by decide) (by simp only [maxLen]; omega) (by omega) (by have := hbel.size; simp; omega) ?_; intro A2 c2 w2 hown2 hb2 _))
        go_wp2
        go_roundw
        case rel => exact ⟨k + 1, _, _, _, ys ++ [(x, L), (x, 0)], by omega, by go_num, rfl, by rw [prs_app]; exact hown2, hinv.out.odd hx.out hp, (hbel.drew.alloc hbel.drew.size _).trans hb2⟩
        case measure => simp [intOf] <;> omega
      · have hp2 : ((k : Int) % 2 == 1) = false := by simp; omega
        go_wp2_with fail
        have hbb : b < w.heap.size := hblk
        go_region_held3 (fun w' => w'.cell? ⟨b, off + k, none⟩ = some (.int .i64 x)) (first | go_keep | (rw [hb2.cell (by simpa using hblk)]; assumption) | (simp [go_sem, World.cell?_alloc_past, *])) ((refine step_app _ (by rfl) (.tmp 30) (.tmp 43) _ (by rfl) Try.underlying39 info_Point rfl (by decide) (by rfl) (hown.drew.alloc _) (by rfl) (by exact Row.litK _ (prs [(x, 0), (x, L)]) _ _ 2 2 (by simp) (by rfl)) (prs_one [(x, 0), (x, L)]) (by decide) (by simp only [maxLen]; omega) (by omega) (by have := hbel.size; simp; omega) ?_; intro A2 c2 w2 hown2 hb2 _))
        go_wp2
        go_roundw
        case rel => exact ⟨k + 1, _, _, _, ys ++ [(x, 0), (x, L)], by omega, by go_num, rfl, by rw [prs_app]; exact hown2, hinv.out.even hx.out hp, (hbel.drew.alloc hbel.drew.size _).trans hb2⟩
        case measure => simp [intOf] <;> omega
    · go_wp2
      go_ret2
      refine ⟨_, _, _, rfl, ?_, hbel⟩
      rw [hinv.out.done h.len hlt]; exact hown

end Go.Proofs.Ytcbmhanilmfmbaa
