/- FnRoutes: the plain law, and the walk. -/
import Derived.Test.YtcbmhanilmfmbaaRouteLen
import Derived.Test.YtcbmhanilmfmbaaDrawRoute
import Derived.Test.YtcbmhanilmfmbaaOpenY
namespace Go.Proofs.Ytcbmhanilmfmbaa
open Go.RowKit
set_option maxRecDepth 100000
set_option linter.unusedVariables false
set_option linter.unusedSimpArgs false

def gapD (x y : Int) : Int := max (y - x) (x - y)
def sumD : List Int → Int
  | x :: y :: t => gapD x y + sumD (y :: t)
  | _ => 0
theorem sumD_two : ∀ (l : List Int) (x y : Int), sumD (l ++ [x] ++ [y]) = sumD (l ++ [x]) + gapD x y
  | [], x, y => by simp [sumD]
  | [a], x, y => by simp [sumD]
  | a :: b :: t, x, y => by
    have := sumD_two (b :: t) x y
    simp only [List.cons_append, sumD] at this ⊢
    omega
theorem sumD_snoc {ys : List Int} {k : Nat} {x y : Int} (hx : ys[k]? = some x) (hy : ys[k + 1]? = some y) : sumD (ys.take (k + 1 + 1)) = sumD (ys.take (k + 1)) + gapD x y := by
  rw [take_snoc hy, take_snoc hx, sumD_two]
theorem gapD_bd {x y : Int} (h1 : -20000 ≤ x ∧ x ≤ 20000) (h2 : -20000 ≤ y ∧ y ≤ 20000) : 0 ≤ gapD x y ∧ gapD x y ≤ 40000 := by unfold gapD; omega
theorem sumD_bd : ∀ (ys : List Int), (∀ y ∈ ys, -20000 ≤ y ∧ y ≤ 20000) → 0 ≤ sumD ys ∧ sumD ys ≤ 40000 * ys.length
  | [], _ => by simp [sumD]
  | [a], _ => by simp [sumD]
  | a :: b :: t, h => by
    have ih := sumD_bd (b :: t) fun y hy => h y (List.mem_cons_of_mem _ hy)
    have := gapD_bd (h a (by simp)) (h b (by simp))
    simp only [sumD, List.length_cons] at ih ⊢
    omega
theorem absI_gap (x y : Int) : absI (y - x) = gapD x y := by unfold absI gapD; split <;> omega
theorem absI_zero : absI 0 = 0 := by simp [absI]
/-- The end of line i, and the way on. -/
def endP (L : Int) (i : Nat) (x : Int) : Int × Int := if i % 2 = 1 then (x, 0) else (x, L)
theorem rlGo_route (L : Int) (hL : 0 ≤ L) : ∀ (xs : List Int) (i : Nat) (x : Int), rlGo (endP L i x) (routePts L (i + 1) xs) = (xs.length : Int) * L + sumD (x :: xs)
  | [], i, x => by simp [routePts, rlGo, sumD]
  | y :: t, i, x => by
    have ih := rlGo_route L hL t (i + 1) y
    have habs : absI L = L ∧ absI (0 - L) = L := by unfold absI; constructor <;> split <;> omega
    have he : ((y :: t).length : Int) * L = (t.length : Int) * L + L := by
      rw [List.length_cons]; simp [Int.add_mul]
    rw [routePts]
    by_cases hi : i % 2 = 1
    · have hi1 : ¬ (i + 1) % 2 = 1 := by omega
      simp only [endP, hi, hi1, if_true, if_false, routeTwo, List.cons_append, List.nil_append, rlGo, ptd, sumD] at ih ⊢
      rw [ih, absI_gap, he]
      simp only [Int.sub_self, absI_zero, Int.sub_zero]
      rw [habs.1]; omega
    · have hi1 : (i + 1) % 2 = 1 := by omega
      simp only [endP, hi, hi1, if_true, if_false, routeTwo, List.cons_append, List.nil_append, rlGo, ptd, sumD] at ih ⊢
      rw [ih, absI_gap, he]
      simp only [Int.sub_self, absI_zero, Int.sub_zero]
      rw [habs.2]; omega
theorem rl_route (L : Int) (hL : 0 ≤ L) (xs : List Int) : rl (routePts L 0 xs) = (xs.length : Int) * L + sumD xs := by
  cases xs with
  | nil => simp [routePts, rl, sumD]
  | cons x t =>
    have ih := rlGo_route L hL t 0 x
    have habs : absI L = L := by unfold absI; split <;> omega
    simp only [endP, routePts, routeTwo, rl, rlGo, ptd, List.cons_append, List.nil_append] at ih ⊢
    simp only [Nat.zero_mod, Nat.zero_ne_one, if_false, List.cons_append, List.nil_append, rl, rlGo, ptd, Int.sub_self, absI_zero, Int.sub_zero] at ih ⊢
    rw [ih, habs, List.length_cons]
    simp [Int.add_mul]; omega
theorem routePoints_cases (xs : List Int) (L : Int) : (routePoints xs L = ([], 2)) ∨ (listOk 60 0 10000 xs = true ∧ 0 ≤ L ∧ L ≤ 10000 ∧ routePoints xs L = (routePts L 0 xs, 0)) := by
  cases h : listOk 60 0 10000 xs && inR 0 10000 L
  · exact .inl (routePoints_no h)
  · have h2 := h
    simp only [Bool.and_eq_true] at h
    obtain ⟨h0, h1⟩ := h
    simp only [inR, Bool.and_eq_true, decide_eq_true_eq] at h1
    exact .inr ⟨h0, h1.1, h1.2, routePoints_yes h2⟩

theorem big_any (a : Option Addr) (n c : Nat) (w : World) (hn : n ≤ maxLen) :
    Calls Try.prog 18 #[.slice a n c] w fun e w' => e = .returned (.bool (decide (4096 < (n : Int)))) ∧ w = w' := by
  unfold maxLen at hn
  go_enter Try.func18, Try.ntmps18
  go_wp2
  go_ret
  exact ⟨rfl, rfl⟩

theorem likePoints_same (a b : Option Addr) (n c d : Nat) (xs : List (Int × Int)) (w : World) (hxs : Row w 2 a n (prs xs)) (hys : Row w 2 b n (prs xs)) (hn : n ≤ 1048576) :
    Calls Try.prog 24 #[.slice a n c, .slice b n d] w fun e w' => e = .returned (.bool true) ∧ Below w.heap.size w w' := by
  go_enter Try.func24, Try.ntmps24
  go_wp2
  go_loopw [5] (fun i wr => ∃ k : Nat, k ≤ n ∧ i = .int .i64 k ∧ Below w.heap.size w wr) (fun i _ => n - (intOf i).toNat)
  case atStart => exact ⟨0, Nat.zero_le _, rfl, Below.refl _ _⟩
  case round =>
    obtain ⟨k, hk, rfl, hbel⟩ := hrel
    by_cases hlt : k < n
    · obtain ⟨b1, off1, x, x', rfl, hc, hc', hx⟩ := (hxs.below2 hbel (Nat.le_refl _)).at2 hlt
      obtain ⟨b2, off2, y, y', rfl, hd, hd', hy⟩ := (hys.below2 hbel (Nat.le_refl _)).at2 hlt
      have he := hy.out
      rw [hx.out] at he
      simp only [Option.some.injEq, Prod.mk.injEq] at he
      obtain ⟨rfl, rfl⟩ := he
      have hi : (k : Int) < (n : Int) := by omega
      clear hx hy
      go_wp2_with fail
      go_quiet (fail)
      go_wp2
      go_roundw
      case rel => exact ⟨k + 1, by omega, by go_num, bdn hbel _⟩
      case measure => simp [intOf] <;> omega
    · go_wp2
      go_ret
      exact ⟨rfl, hbel⟩

theorem drawRouteLength_any (a : Option Addr) (n c : Nat) (bs : List Nat) (w : World) (h : Code8 w a n bs) :
    Calls Try.prog 19 #[.slice a n c] w (RouteDraw w) := by
  go_enter Try.func19, Try.ntmps19
  go_wp2_with fail
  go_at_call 50
  refine (drawRoutePoints_any _ _ _ _ _ h).mono ?_
  intro e w1 hd
  obtain ⟨a', m, c', ys, L, rfl, hr, hm, hy, hL, B⟩ := hd
  have HY := Lib.hid hy; clear hy
  go_wp2
  go_ret2
  exact ⟨_, _, _, ys, L, rfl, hr, hm, HY.out, hL, B⟩
end Go.Proofs.Ytcbmhanilmfmbaa
