/- LeastDistance, by both programs. -/
import Derived.Test.YtpnhfdppndcpnaaRise
namespace Go.Proofs.Ytpnhfdppndcpnaa
open Go.RowKit
set_option maxRecDepth 100000
set_option linter.unusedVariables false

theorem rises_all (n : Int) : ∀ (xs : List Int) (p : Option Int), rises n p xs = true → ∀ x ∈ xs, 0 ≤ x ∧ x < n
  | [], _, _, _, hx => by simp at hx
  | y :: t, p, h, x, hx => by
    simp only [rises, Bool.and_eq_true, decide_eq_true_eq] at h
    rcases List.mem_cons.1 hx with rfl | hx
    · omega
    · exact rises_all n t _ h.2 x hx
theorem rises_get {n x : Int} {xs : List Int} {k : Nat} (h : rises n none xs = true) (hx : xs[k]? = some x) : 0 ≤ x ∧ x < n := rises_all n xs none h x (List.mem_of_getElem? hx)
theorem rises_room (n : Int) : ∀ (xs : List Int) (y : Int), rises n (some y) xs = true → xs = [] ∨ (xs.length : Int) ≤ n - 1 - y
  | [], _, _ => .inl rfl
  | x :: t, y, h => by
    simp only [rises, gapOk, Bool.and_eq_true, decide_eq_true_eq] at h
    rcases rises_room n t x h.2 with rfl | h2
    · right; simp; omega
    · right; simp; omega
theorem rises_len {n : Int} {xs : List Int} (h : rises n none xs = true) (hn : 0 ≤ n) : (xs.length : Int) ≤ n := by
  cases xs with
  | nil => simpa using hn
  | cons x t =>
    simp only [rises, gapOk, Bool.and_eq_true, decide_eq_true_eq] at h
    rcases rises_room n t x h.2 with rfl | h2
    · simp; omega
    · simp; omega

def ldMin : Option Int → Int → Int
  | none, d => d
  | some m, d => if d < m then d else m
def ld : Int → Option Int → List Int → Int
  | _, m, [] => m.getD 0
  | p, m, x :: t => ld x (some (ldMin m (x - p))) t
def ldTop : List Int → Int
  | [] => 0
  | x :: t => ld x none t
def leastDistance (xs : List Int) : Int × Int := if rises 1200 none xs then (ldTop xs, 0) else (0, 2)
theorem leastDistance_no {xs : List Int} (h : rises 1200 none xs = false) : leastDistance xs = (0, 2) := by simp [leastDistance, h]
theorem leastDistance_yes {xs : List Int} (h : rises 1200 none xs = true) : leastDistance xs = (ldTop xs, 0) := by simp [leastDistance, h]

def mOf (j : Nat) (m : Int) : Option Int := if j = 0 then none else some m
def LDInv (xs : List Int) (j : Nat) (m : Int) : Prop := (j = 0 → m = 0) ∧ ∃ p, xs[j]? = some p ∧ ld p (mOf j m) (xs.drop (j + 1)) = ldTop xs
theorem LDInv.start {xs : List Int} (h : 0 < xs.length) : LDInv xs 0 0 := by
  cases xs with
  | nil => simp at h
  | cons x t => exact ⟨fun _ => rfl, x, rfl, rfl⟩
theorem LDInv.first {xs : List Int} {m p x : Int} (h : LDInv xs 0 m) (hp : xs[0]? = some p) (hx : xs[1]? = some x) : LDInv xs 1 (x - p) := by
  obtain ⟨_, p', hp', e⟩ := h
  rw [hp] at hp'; injection hp' with hp'; subst hp'
  refine ⟨by omega, x, hx, ?_⟩
  rw [← e, drop_at hx]
  rfl
theorem LDInv.less {xs : List Int} {j : Nat} {m p x : Int} (h : LDInv xs (j + 1) m) (hp : xs[j + 1]? = some p) (hx : xs[j + 1 + 1]? = some x) (hl : x - p < m) : LDInv xs (j + 1 + 1) (x - p) := by
  obtain ⟨_, p', hp', e⟩ := h
  rw [hp] at hp'; injection hp' with hp'; subst hp'
  refine ⟨by omega, x, hx, ?_⟩
  rw [← e, drop_at hx]
  simp [ld, mOf, ldMin, hl]
theorem LDInv.more {xs : List Int} {j : Nat} {m p x : Int} (h : LDInv xs (j + 1) m) (hp : xs[j + 1]? = some p) (hx : xs[j + 1 + 1]? = some x) (hl : ¬ x - p < m) : LDInv xs (j + 1 + 1) m := by
  obtain ⟨_, p', hp', e⟩ := h
  rw [hp] at hp'; injection hp' with hp'; subst hp'
  refine ⟨by omega, x, hx, ?_⟩
  rw [← e, drop_at hx]
  simp [ld, mOf, ldMin, hl]
theorem LDInv.done {xs : List Int} {j n : Nat} {m : Int} (h : LDInv xs j m) (hl : xs.length = n) (hk : ¬ j + 1 < n) : ldTop xs = m := by
  obtain ⟨h0, p, hp, e⟩ := h
  rw [← e, List.drop_of_length_le (by omega)]
  unfold mOf
  split
  · rw [h0 (by assumption)]; rfl
  · rfl

theorem leastDistance_impl (a : Option Addr) (n c : Nat) (xs : List Int) (w : World) (h : Row w 1 a n (ints xs)) (hn : n ≤ 1048576) :
    Calls Try.prog 13 #[.slice a n c] w fun e w' => e = .returned (.tuple #[.int .i64 (leastDistance xs).1, .int .i64 (leastDistance xs).2]) ∧ Below w.heap.size w w' := by
  by_cases hb : (1200 : Int) < n
  · rw [leastDistance_no (by
      cases hr : rises 1200 none xs
      · rfl
      · have := rises_len hr (by omega); have := h.len; omega)]
    go_enter Try.func13, Try.ntmps13
    go_wp2
    go_ret2
    exact ⟨rfl, Below.refl _ _⟩
  cases hok : rises 1200 none xs
  · rw [leastDistance_no hok]
    go_enter Try.func13, Try.ntmps13
    go_wp2_with (go_at_call 36; refine (isRising_any _ _ _ _ _ _ h hn).mono ?_; rintro e w' ⟨rfl, rfl⟩)
    go_ret2
    exact ⟨rfl, Below.refl _ _⟩
  rw [leastDistance_yes hok]
  by_cases h0 : n = 0
  · subst h0
    have e : ldTop xs = 0 := by have := h.len; rw [List.length_eq_zero_iff] at this; subst this; rfl
    rw [e]
    go_enter Try.func13, Try.ntmps13
    go_wp2_with (go_at_call 36; refine (isRising_any _ _ _ _ _ _ h hn).mono ?_; rintro e w' ⟨rfl, rfl⟩)
    go_loopw [4, 5] (fun p i wr => i = .int .i64 1 ∧ p = .int .i64 0 ∧ Below w.heap.size w wr) (fun _ _ _ => 0)
    case atStart => exact ⟨rfl, rfl, Below.refl _ _⟩
    case round =>
      obtain ⟨rfl, rfl, hbel⟩ := hrel
      go_wp2
      go_ret2
      exact ⟨rfl, hbel⟩
  · go_enter Try.func13, Try.ntmps13
    go_wp2_with (go_at_call 36; refine (isRising_any _ _ _ _ _ _ h hn).mono ?_; rintro e w' ⟨rfl, rfl⟩)
    go_loopw [4, 5] (fun p i wr => ∃ (j : Nat) (M : Int), j + 1 ≤ n ∧ i = .int .i64 ((j : Int) + 1) ∧ p = .int .i64 M ∧ 0 ≤ M + 1200 ∧ M ≤ 1200 ∧ Hid (LDInv xs j M) ∧ Below w.heap.size w wr) (fun _ i _ => n + 1 - (intOf i).toNat)
    case atStart => exact ⟨0, 0, by omega, rfl, rfl, by omega, by omega, LDInv.start (by have := h.len; omega), Below.refl _ _⟩
    case round =>
      obtain ⟨j, M, hk, rfl, rfl, hM0, hM1, hinv, hbel⟩ := hrel
      by_cases hlt : j + 1 < n
      · have h' := h.below hbel (Nat.le_refl _)
        obtain ⟨b, off, p, rfl, hc, hx⟩ := h'.at_ (show j < n by omega)
        obtain ⟨b', off', y, hbe, hd, hy⟩ := h'.at_ hlt
        simp only [Option.some.injEq, Addr.mk.injEq, and_true] at hbe
        obtain ⟨rfl, rfl⟩ := hbe
        obtain ⟨hp0, hp1⟩ := rises_get hok hx.out
        obtain ⟨hy0, hy1⟩ := rises_get hok hy.out
        have hj1 : (j : Int) + 1 < n := by omega
        have hj2 : (j : Int) < n := by omega
        rcases j with _ | j
        · rw [Nat.zero_add] at hd
          rw [Nat.add_zero] at hc
          go_wp2_with fail
          go_quiet (fail)
          go_wp2
          go_roundw
          case rel => exact ⟨1, y - p, by omega, by go_num, rfl, by omega, by omega, hinv.out.first hx.out hy.out, bdn hbel _⟩
          case measure => simp [intOf]; omega
        · have hne : ((j : Int) + 1 + 1 == 1) = false := by simp; omega
          by_cases hl : y - p < M
          · go_wp2_with fail
            go_quiet (fail)
            go_wp2
            go_roundw
            case rel => exact ⟨j + 1 + 1, y - p, by omega, by go_num, rfl, by omega, by omega, hinv.out.less hx.out hy.out hl, bdn hbel _⟩
            case measure => simp [intOf]; omega
          · go_wp2_with fail
            go_quiet (fail)
            go_wp2
            go_roundw
            case rel => exact ⟨j + 1 + 1, M, by omega, by go_num, rfl, by omega, by omega, hinv.out.more hx.out hy.out (by omega), bdn hbel _⟩
            case measure => simp [intOf]; omega
      · go_wp2
        go_ret2
        exact ⟨by rw [hinv.out.done h.len hlt]; rfl, hbel⟩

theorem leastDistance_spec (a : Option Addr) (n c : Nat) (xs : List Int) (w : World) (h : Row w 1 a n (ints xs)) (hn : n ≤ 1048576) :
    Calls Try.prog 14 #[.slice a n c] w fun e w' => e = .returned (.tuple #[.int .i64 (leastDistance xs).1, .int .i64 (leastDistance xs).2]) ∧ Below w.heap.size w w' := by
  cases hok : rises 1200 none xs
  · rw [leastDistance_no hok]
    go_enter Try.func14, Try.ntmps14
    go_wp2_with (go_at_call 37; refine (l01Rises_any _ _ _ _ _ _ h hn).mono ?_; rintro e w' ⟨rfl, hb⟩)
    go_ret2
    exact ⟨rfl, hb⟩
  rw [leastDistance_yes hok]
  by_cases h0 : n = 0
  · subst h0
    have e : ldTop xs = 0 := by have := h.len; rw [List.length_eq_zero_iff] at this; subst this; rfl
    rw [e]
    go_enter Try.func14, Try.ntmps14
    go_wp2_with (go_at_call 37; refine (l01Rises_any _ _ _ _ _ _ h hn).mono ?_; rintro e w' ⟨rfl, hb⟩)
    go_loopw [4, 5] (fun p i wr => i = .int .i64 1 ∧ p = .int .i64 0 ∧ Below w.heap.size w wr) (fun _ _ _ => 0)
    case atStart => exact ⟨rfl, rfl, hb⟩
    case round =>
      obtain ⟨rfl, rfl, hbel⟩ := hrel
      go_wp2
      go_ret2
      exact ⟨rfl, hbel⟩
  · go_enter Try.func14, Try.ntmps14
    go_wp2_with (go_at_call 37; refine (l01Rises_any _ _ _ _ _ _ h hn).mono ?_; rintro e w' ⟨rfl, hb⟩)
    go_loopw [4, 5] (fun p i wr => ∃ (j : Nat) (M : Int), j + 1 ≤ n ∧ i = .int .i64 ((j : Int) + 1) ∧ p = .int .i64 M ∧ 0 ≤ M + 1200 ∧ M ≤ 1200 ∧ Hid (LDInv xs j M) ∧ Below w.heap.size w wr) (fun _ i _ => n + 1 - (intOf i).toNat)
    case atStart => exact ⟨0, 0, by omega, rfl, rfl, by omega, by omega, LDInv.start (by have := h.len; omega), hb⟩
    case round =>
      obtain ⟨j, M, hk, rfl, rfl, hM0, hM1, hinv, hbel⟩ := hrel
      by_cases hlt : j + 1 < n
      · have h' := h.below hbel (Nat.le_refl _)
        obtain ⟨b, off, p, rfl, hc, hx⟩ := h'.at_ (show j < n by omega)
        obtain ⟨b', off', y, hbe, hd, hy⟩ := h'.at_ hlt
        simp only [Option.some.injEq, Addr.mk.injEq, and_true] at hbe
        obtain ⟨rfl, rfl⟩ := hbe
        obtain ⟨hp0, hp1⟩ := rises_get hok hx.out
        obtain ⟨hy0, hy1⟩ := rises_get hok hy.out
        have hj1 : (j : Int) + 1 < n := by omega
        have hj2 : (j : Int) < n := by omega
        rcases j with _ | j
        · rw [Nat.zero_add] at hd
          rw [Nat.add_zero] at hc
          go_wp2_with fail
          go_quiet (fail)
          go_wp2_with fail
          go_quiet (fail)
          go_wp2
          go_roundw
          case rel => exact ⟨1, y - p, by omega, by go_num, rfl, by omega, by omega, hinv.out.first hx.out hy.out, bdn hbel _⟩
          case measure => simp [intOf]; omega
        · have hne : ((j : Int) + 1 + 1 == 1) = false := by simp; omega
          by_cases hl : y - p < M
          · go_wp2_with fail
            go_quiet (fail)
            go_wp2_with fail
            go_quiet (fail)
            go_wp2
            go_roundw
            case rel => exact ⟨j + 1 + 1, y - p, by omega, by go_num, rfl, by omega, by omega, hinv.out.less hx.out hy.out hl, bdn hbel _⟩
            case measure => simp [intOf]; omega
          · have hl2 : decide (y - p < M) = false := by simpa using hl
            go_wp2_with fail
            go_quiet (fail)
            go_wp2
            go_roundw
            case rel => exact ⟨j + 1 + 1, M, by omega, by go_num, rfl, by omega, by omega, hinv.out.more hx.out hy.out (by omega), bdn hbel _⟩
            case measure => simp [intOf]; omega
      · go_wp2
        go_ret2
        exact ⟨by rw [hinv.out.done h.len hlt]; rfl, hbel⟩

end Go.Proofs.Ytpnhfdppndcpnaa
