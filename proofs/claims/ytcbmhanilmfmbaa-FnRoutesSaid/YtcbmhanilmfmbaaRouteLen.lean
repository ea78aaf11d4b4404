/- The length of a route, by both programs. -/
import Derived.Test.YtcbmhanilmfmbaaRoute
namespace Go.Proofs.Ytcbmhanilmfmbaa
open Go.RowKit
set_option maxRecDepth 100000
set_option linter.unusedVariables false

def absI (x : Int) : Int := if x < 0 then -x else x
theorem absI_bd {x B : Int} (h1 : -B ≤ x) (h2 : x ≤ B) : 0 ≤ absI x ∧ absI x ≤ B := by unfold absI; split <;> omega

theorem abs_any (x : Int) (w : World) (h : -1000000000000 ≤ x ∧ x ≤ 1000000000000) : Calls Try.prog 51 #[.int .i64 x] w fun e w' => e = .returned (.int .i64 (absI x)) ∧ w = w' := by
  obtain ⟨h1, h2⟩ := h
  by_cases hx : x < 0
  · go_enter Try.func51, Try.ntmps51
    go_wp2
    all_goals (go_ret; exact ⟨by simp [absI]; omega, rfl⟩)
  · go_enter Try.func51, Try.ntmps51
    go_wp2
    all_goals (go_ret; exact ⟨by simp [absI]; omega, rfl⟩)

theorem l01Abs_any (x : Int) (w : World) (h : -1000000000000 ≤ x ∧ x ≤ 1000000000000) : Calls Try.prog 52 #[.int .i64 x] w fun e w' => e = .returned (.int .i64 (absI x)) ∧ w = w' := by
  obtain ⟨h1, h2⟩ := h
  by_cases hx : x < 0
  · go_enter Try.func52, Try.ntmps52
    go_wp2
    all_goals (go_ret; exact ⟨by simp [absI]; omega, rfl⟩)
  · go_enter Try.func52, Try.ntmps52
    go_wp2
    all_goals (go_ret; exact ⟨by simp [absI]; omega, rfl⟩)

def ptd (p q : Int × Int) : Int := absI (q.1 - p.1) + absI (q.2 - p.2)
def rlGo (p : Int × Int) : List (Int × Int) → Int
  | [] => 0
  | q :: t => ptd p q + rlGo q t
def rl : List (Int × Int) → Int
  | [] => 0
  | p :: t => rlGo p t
def routeLength (xs : List Int) (L : Int) : Int × Int := (rl (routePoints xs L).1, (routePoints xs L).2)

theorem routePts_in {L : Int} (hL : 0 ≤ L ∧ L ≤ 10000) : ∀ (xs : List Int) (i : Nat), (∀ x ∈ xs, 0 ≤ x ∧ x ≤ 10000) → ∀ q ∈ routePts L i xs, (0 ≤ q.1 ∧ q.1 ≤ 10000) ∧ (0 ≤ q.2 ∧ q.2 ≤ 10000)
  | [], _, _, q, hq => by simp [routePts] at hq
  | x :: t, i, h, q, hq => by
    rw [routePts, List.mem_append] at hq
    rcases hq with hq | hq
    · have hx := h x List.mem_cons_self
      unfold routeTwo at hq
      split at hq
      · simp only [List.mem_cons, List.not_mem_nil, or_false] at hq
        rcases hq with rfl | rfl <;> simp only <;> omega
      · simp only [List.mem_cons, List.not_mem_nil, or_false] at hq
        rcases hq with rfl | rfl <;> simp only <;> omega
    · exact routePts_in hL t (i + 1) (fun y hy => h y (List.mem_cons_of_mem _ hy)) q hq
theorem routePoints_in (xs : List Int) (L : Int) : ∀ q ∈ (routePoints xs L).1, (0 ≤ q.1 ∧ q.1 ≤ 10000) ∧ (0 ≤ q.2 ∧ q.2 ≤ 10000) := by
  unfold routePoints
  split
  · rename_i h
    simp only [Bool.and_eq_true] at h
    refine routePts_in (by simpa [inR] using h.2) xs 0 (fun x hx => ?_)
    obtain ⟨k, hk⟩ := List.mem_iff_getElem?.1 hx
    exact listOk_get h.1 hk
  · simp

def RLInv (ys : List (Int × Int)) (j : Nat) (S : Int) : Prop := ∃ p, ys[j]? = some p ∧ S + rlGo p (ys.drop (j + 1)) = rl ys
theorem RLInv.start {ys : List (Int × Int)} (h : 0 < ys.length) : RLInv ys 0 0 := by
  cases ys with
  | nil => simp at h
  | cons p t => exact ⟨p, rfl, by simp [rl]⟩
theorem RLInv.step {ys : List (Int × Int)} {j : Nat} {S : Int} {p q : Int × Int} (h : RLInv ys j S) (hp : ys[j]? = some p) (hq : ys[j + 1]? = some q) : RLInv ys (j + 1) (S + ptd p q) := by
  obtain ⟨p', hp', e⟩ := h
  rw [hp] at hp'; injection hp' with hp'; subst hp'
  refine ⟨q, hq, ?_⟩
  rw [← e, drop_at hq, rlGo]
  omega
theorem RLInv.done {ys : List (Int × Int)} {j n : Nat} {S : Int} (h : RLInv ys j S) (hl : ys.length = n) (hk : ¬ j + 1 < n) : rl ys = S := by
  obtain ⟨p, hp, e⟩ := h
  rw [← e, List.drop_of_length_le (by omega)]
  simp [rlGo]

theorem routeLength_impl (a : Option Addr) (n c : Nat) (xs : List Int) (L : Int) (w : World) (h : Row w 1 a n (ints xs)) (hn : n ≤ 1048576) :
    Calls Try.prog 20 #[.slice a n c, .int .i64 L] w fun e w' => e = .returned (.tuple #[.int .i64 (routeLength xs L).1, .int .i64 (routeLength xs L).2]) ∧ Below w.heap.size w w' := by
  have HC := routePoints_impl a n c xs L w h hn
  have hin := routePoints_in xs L
  have hlen := routePoints_len xs L
  unfold routeLength
  generalize routePoints xs L = RP at HC hin hlen ⊢
  obtain ⟨ys, code⟩ := RP
  replace HC := Lib.hid HC
  go_enter Try.func20, Try.ntmps20
  go_wp2_with fail
  go_at_call 22
  refine HC.out.mono ?_
  rintro e w1 ⟨a1, m, c1, rfl, hown, hb⟩
  clear HC
  have hr := hown.row
  have hm : m ≤ 120 := by have := hr.len2; omega
  have HIN := Lib.hid hin
  clear hin hlen hown
  by_cases h0 : m = 0
  · subst h0
    have e : rl ys = 0 := by have := hr.len2; rw [List.length_eq_zero_iff] at this; subst this; rfl
    go_wp2_with fail
    go_loopw [8, 9] (fun p i wr => i = .int .i64 1 ∧ p = .int .i64 0 ∧ Below w.heap.size w wr) (fun _ _ _ => 0)
    case atStart => exact ⟨rfl, rfl, hb⟩
    case round =>
      obtain ⟨rfl, rfl, hbel⟩ := hrel
      go_wp2
      go_ret2
      exact ⟨by rw [e]; rfl, hbel⟩
  · go_wp2_with fail
    go_loopw [8, 9] (fun p i wr => ∃ (j : Nat) (S : Int), j + 1 ≤ m ∧ i = .int .i64 ((j : Int) + 1) ∧ p = .int .i64 S ∧ 0 ≤ S ∧ S ≤ 20000 * j ∧ Hid (RLInv ys j S) ∧ Below w1.heap.size w1 wr) (fun _ i _ => m + 1 - (intOf i).toNat)
    case atStart => exact ⟨0, 0, by omega, rfl, rfl, by omega, by omega, RLInv.start (by have := hr.len2; omega), Below.refl _ _⟩
    case round =>
      obtain ⟨j, S, hk, rfl, rfl, hS0, hS1, hinv, hbel⟩ := hrel
      by_cases hlt : j + 1 < m
      · have h' := hr.below2 hbel (Nat.le_refl _)
        obtain ⟨b, off, x, y, rfl, hc, hd, hx⟩ := h'.at2 (show j < m by omega)
        obtain ⟨b', off', u, v, hbe, hc', hd', hy⟩ := h'.at2 hlt
        simp only [Option.some.injEq, Addr.mk.injEq, and_true] at hbe
        obtain ⟨rfl, rfl⟩ := hbe
        obtain ⟨⟨bx0, bx1⟩, by0, by1⟩ := HIN.out _ (List.mem_of_getElem? hx.out)
        obtain ⟨⟨bu0, bu1⟩, bv0, bv1⟩ := HIN.out _ (List.mem_of_getElem? hy.out)
        simp only at bx0 bx1 by0 by1 bu0 bu1 bv0 bv1
        have q1 := absI_bd (x := u - x) (B := 10000) (by omega) (by omega)
        have q2 := absI_bd (x := v - y) (B := 10000) (by omega) (by omega)
        have hj1 : (j : Int) + 1 < m := by omega
        have hj2 : (j : Int) < m := by omega
        obtain ⟨q10, q11⟩ := q1
        obtain ⟨q20, q21⟩ := q2
        go_wp2_with fail
        go_quiet ((go_at_call 51; first | exact quiet_eq (abs_any _ _ (by omega)) | exact quiet_eq' (abs_any _ _ (by omega))))
        go_wp2
        go_roundw
        case rel => exact ⟨j + 1, S + ptd (x, y) (u, v), by omega, by go_num, rfl, by unfold ptd; simp only; omega, by unfold ptd; simp only; omega, hinv.out.step hx.out hy.out, bdn hbel _⟩
        case measure => simp [intOf] <;> omega
      · go_wp2
        go_ret2
        exact ⟨by rw [hinv.out.done hr.len2 hlt]; rfl, hb.trans (hbel.mono hb.size)⟩

theorem routeLength_spec (a : Option Addr) (n c : Nat) (xs : List Int) (L : Int) (w : World) (h : Row w 1 a n (ints xs)) (hn : n ≤ 1048576) :
    Calls Try.prog 21 #[.slice a n c, .int .i64 L] w fun e w' => e = .returned (.tuple #[.int .i64 (routeLength xs L).1, .int .i64 (routeLength xs L).2]) ∧ Below w.heap.size w w' := by
  have HC := routePoints_spec a n c xs L w h hn
  have hin := routePoints_in xs L
  have hlen := routePoints_len xs L
  unfold routeLength
  by_cases hok : (listOk 60 0 10000 xs && inR 0 10000 L) = true
  rotate_left
  · rw [routePoints_no (by simpa using hok)] at HC ⊢
    replace HC := Lib.hid HC
    clear hin hlen hok
    go_enter Try.func21, Try.ntmps21
    go_wp2_with (go_at_call 23; refine HC.out.mono ?_; rintro e w1 ⟨a1, m, c1, rfl, hown, hb⟩)
    go_ret2
    exact ⟨rfl, hb⟩
  rw [routePoints_yes hok] at HC hin hlen ⊢
  clear hok
  generalize routePts L 0 xs = ys at HC hin hlen ⊢
  replace HC := Lib.hid HC
  go_enter Try.func21, Try.ntmps21
  go_wp2_with fail
  go_at_call 23
  refine HC.out.mono ?_
  rintro e w1 ⟨a1, m, c1, rfl, hown, hb⟩
  clear HC
  have hr := hown.row
  have hm : m ≤ 120 := by have := hr.len2; omega
  have HIN := Lib.hid hin
  clear hin hlen hown
  by_cases h0 : m = 0
  · subst h0
    have e : rl ys = 0 := by have := hr.len2; rw [List.length_eq_zero_iff] at this; subst this; rfl
    go_wp2_with fail
    go_loopw [8, 9] (fun p i wr => i = .int .i64 1 ∧ p = .int .i64 0 ∧ Below w.heap.size w wr) (fun _ _ _ => 0)
    case atStart => exact ⟨rfl, rfl, hb⟩
    case round =>
      obtain ⟨rfl, rfl, hbel⟩ := hrel
      go_wp2
      go_ret2
      exact ⟨by rw [e]; rfl, hbel⟩
  · go_wp2_with fail
    go_loopw [8, 9] (fun p i wr => ∃ (j : Nat) (S : Int), j + 1 ≤ m ∧ i = .int .i64 ((j : Int) + 1) ∧ p = .int .i64 S ∧ 0 ≤ S ∧ S ≤ 20000 * j ∧ Hid (RLInv ys j S) ∧ Below w1.heap.size w1 wr) (fun _ i _ => m + 1 - (intOf i).toNat)
    case atStart => exact ⟨0, 0, by omega, rfl, rfl, by omega, by omega, RLInv.start (by have := hr.len2; omega), Below.refl _ _⟩
    case round =>
      obtain ⟨j, S, hk, rfl, rfl, hS0, hS1, hinv, hbel⟩ := hrel
      by_cases hlt : j + 1 < m
      · have h' := hr.below2 hbel (Nat.le_refl _)
        obtain ⟨b, off, x, y, rfl, hc, hd, hx⟩ := h'.at2 (show j < m by omega)
        obtain ⟨b', off', u, v, hbe, hc', hd', hy⟩ := h'.at2 hlt
        simp only [Option.some.injEq, Addr.mk.injEq, and_true] at hbe
        obtain ⟨rfl, rfl⟩ := hbe
        obtain ⟨⟨bx0, bx1⟩, by0, by1⟩ := HIN.out _ (List.mem_of_getElem? hx.out)
        obtain ⟨⟨bu0, bu1⟩, bv0, bv1⟩ := HIN.out _ (List.mem_of_getElem? hy.out)
        simp only at bx0 bx1 by0 by1 bu0 bu1 bv0 bv1
        have q1 := absI_bd (x := u - x) (B := 10000) (by omega) (by omega)
        have q2 := absI_bd (x := v - y) (B := 10000) (by omega) (by omega)
        have hj1 : (j : Int) + 1 < m := by omega
        have hj2 : (j : Int) < m := by omega
        obtain ⟨q10, q11⟩ := q1
        obtain ⟨q20, q21⟩ := q2
        go_wp2_with fail
        go_quiet ((go_at_call 52; first | exact quiet_eq (l01Abs_any _ _ (by omega)) | exact quiet_eq' (l01Abs_any _ _ (by omega))))
        go_wp2
        go_roundw
        case rel => exact ⟨j + 1, S + ptd (x, y) (u, v), by omega, by go_num, by unfold ptd; go_num, by unfold ptd; simp only; omega, by unfold ptd; simp only; omega, hinv.out.step hx.out hy.out, bdn hbel _⟩
        case measure => simp [intOf] <;> omega
      · go_wp2
        go_ret2
        exact ⟨by rw [hinv.out.done hr.len2 hlt]; rfl, hb.trans (hbel.mono hb.size)⟩

end Go.Proofs.Ytcbmhanilmfmbaa
