/- The convolutional code's small functions: take, the state behind a message, distances, puncturing. By both programs. -/
import Derived.Test.YtbdlihocnpppaaaInt
namespace Go.Proofs.Ytbdlihocnpppaaa
open Go.RowKit
set_option maxRecDepth 100000
set_option linter.unusedVariables false

def nxt (s b : Int) : Int := 2 * b + s / 2
def out1 (s b : Int) : Int := (b + s / 2 + s % 2) % 2
def out2 (s b : Int) : Int := (b + s % 2) % 2
theorem nxt_rng {s b : Int} (h1 : 0 ≤ s) (h2 : s ≤ 3) (h3 : 0 ≤ b) (h4 : b ≤ 1) : 0 ≤ nxt s b ∧ nxt s b ≤ 3 := by unfold nxt; omega
theorem out_rng (s b : Int) : (0 ≤ out1 s b ∧ out1 s b ≤ 1) ∧ (0 ≤ out2 s b ∧ out2 s b ≤ 1) := by unfold out1 out2; omega

theorem take_any (s b : Int) (w : World) (h1 : 0 ≤ s) (h2 : s ≤ 3) (h3 : 0 ≤ b) (h4 : b ≤ 1) :
    Calls Try.prog 43 #[.int .i64 s, .int .i64 b] w fun e w' => e = .returned (.tuple #[.int .i64 (out1 s b), .int .i64 (out2 s b), .int .i64 (nxt s b)]) ∧ w = w' := by
  go_enter Try.func43, Try.ntmps43
  go_wp2
  go_ret3
  exact ⟨rfl, rfl⟩

theorem l27Next_any (s b : Int) (w : World) (h1 : 0 ≤ s) (h2 : s ≤ 3) (h3 : 0 ≤ b) (h4 : b ≤ 1) :
    Calls Try.prog 44 #[.int .i64 s, .int .i64 b] w fun e w' => e = .returned (.tuple #[.int .i64 (nxt s b), .int .i64 (out1 s b), .int .i64 (out2 s b)]) ∧ w = w' := by
  go_enter Try.func44, Try.ntmps44
  go_wp2
  go_ret3
  exact ⟨rfl, rfl⟩

def stGo : Int → List Int → Int
  | s, [] => s
  | s, b :: t => stGo (nxt s b) t
def stateBehind (xs : List Int) : Int × Int := if listOk 300 0 1 xs then (stGo 0 xs, 0) else (0, 1)
theorem stateBehind_no {xs : List Int} (h : listOk 300 0 1 xs = false) : stateBehind xs = (0, 1) := by simp [stateBehind, h]
theorem stateBehind_yes {xs : List Int} (h : listOk 300 0 1 xs = true) : stateBehind xs = (stGo 0 xs, 0) := by simp [stateBehind, h]
def SInv (xs : List Int) (k : Nat) (s : Int) : Prop := stGo s (xs.drop k) = stGo 0 xs
theorem SInv.step {xs : List Int} {k : Nat} {s b : Int} (h : SInv xs k s) (hx : xs[k]? = some b) : SInv xs (k + 1) (nxt s b) := by
  unfold SInv at h ⊢
  rw [← h, drop_at hx, stGo]
theorem SInv.done {xs : List Int} {k n : Nat} {s : Int} (h : SInv xs k s) (hl : xs.length = n) (hk : ¬ k < n) : stGo 0 xs = s := by
  unfold SInv at h
  rw [← h, List.drop_of_length_le (by omega)]
  rfl

/-! ### distances -/
def dist : List Int → List Int → Int
  | a :: s, b :: t => (if a = b then 0 else 1) + dist s t
  | _, _ => 0
/-- 'differences': where the list holds 2, nothing is counted. -/
def dif : List Int → List Int → Int
  | l :: s, c :: t => (if l = 2 then 0 else if l = c then 0 else 1) + dif s t
  | _, _ => 0

theorem dif_dist : ∀ (xs ys : List Int), (∀ y ∈ ys, y ≠ 2) → dif ys xs = dist xs ys
  | [], [], _ => rfl
  | [], _ :: _, _ => rfl
  | _ :: _, [], _ => rfl
  | x :: s, y :: t, h => by
    rw [dif, dist, dif_dist s t (fun z hz => h z (List.mem_cons_of_mem _ hz)), if_neg (h y List.mem_cons_self)]
    by_cases hxy : x = y
    · subst hxy; simp
    · rw [if_neg hxy, if_neg (fun e => hxy e.symm)]

def DInv (f : List Int → List Int → Int) (xs ys : List Int) (k : Nat) (c : Int) : Prop := c + f (xs.drop k) (ys.drop k) = f xs ys
theorem DInv.start (f : List Int → List Int → Int) (xs ys : List Int) : DInv f xs ys 0 0 := by simp [DInv]
theorem DInv.eq {xs ys : List Int} {k : Nat} {c x : Int} (h : DInv dist xs ys k c) (hx : xs[k]? = some x) (hy : ys[k]? = some x) : DInv dist xs ys (k + 1) c := by
  unfold DInv at h ⊢
  rw [← h, drop_at hx, drop_at hy, dist, if_pos rfl]; omega
theorem DInv.ne {xs ys : List Int} {k : Nat} {c x y : Int} (h : DInv dist xs ys k c) (hx : xs[k]? = some x) (hy : ys[k]? = some y) (hxy : x ≠ y) : DInv dist xs ys (k + 1) (c + 1) := by
  unfold DInv at h ⊢
  rw [← h, drop_at hx, drop_at hy, dist, if_neg hxy]; omega
theorem DInv.done {xs ys : List Int} {k n : Nat} {c : Int} (h : DInv dist xs ys k c) (hl : xs.length = n) (hk : ¬ k < n) : dist xs ys = c := by
  unfold DInv at h
  rw [← h, List.drop_of_length_le (by omega)]
  simp [dist]
theorem DInv.two {xs ys : List Int} {k : Nat} {c y : Int} (h : DInv dif xs ys k c) (hx : xs[k]? = some 2) (hy : ys[k]? = some y) : DInv dif xs ys (k + 1) c := by
  unfold DInv at h ⊢
  rw [← h, drop_at hx, drop_at hy, dif, if_pos rfl]; omega
theorem DInv.eq2 {xs ys : List Int} {k : Nat} {c x : Int} (h : DInv dif xs ys k c) (hx : xs[k]? = some x) (hy : ys[k]? = some x) (h2 : x ≠ 2) : DInv dif xs ys (k + 1) c := by
  unfold DInv at h ⊢
  rw [← h, drop_at hx, drop_at hy, dif, if_neg h2, if_pos rfl]; omega
theorem DInv.ne2 {xs ys : List Int} {k : Nat} {c x y : Int} (h : DInv dif xs ys k c) (hx : xs[k]? = some x) (hy : ys[k]? = some y) (h2 : x ≠ 2) (hxy : x ≠ y) : DInv dif xs ys (k + 1) (c + 1) := by
  unfold DInv at h ⊢
  rw [← h, drop_at hx, drop_at hy, dif, if_neg h2, if_neg hxy]; omega
theorem DInv.done2 {xs ys : List Int} {k n : Nat} {c : Int} (h : DInv dif xs ys k c) (hl : ys.length = n) (hk : ¬ k < n) : dif xs ys = c := by
  unfold DInv at h
  rw [← h, List.drop_of_length_le (l := ys) (by omega)]
  cases xs.drop k <;> simp [dif]

theorem l27Distance_any (a b : Option Addr) (n m c d : Nat) (xs ys : List Int) (w : World) (hxs : Row w 1 a n (ints xs)) (hys : Row w 1 b m (ints ys)) (hn : n ≤ 1048576) (hnm : n ≤ m) :
    Calls Try.prog 26 #[.slice a n c, .slice b m d] w fun e w' => e = .returned (.int .i64 (dist xs ys)) ∧ Below w.heap.size w w' := by
  go_enter Try.func26, Try.ntmps26
  go_wp2
  go_loopw [5, 6] (fun p i wr => ∃ (k : Nat) (C : Int), k ≤ n ∧ i = .int .i64 k ∧ p = .int .i64 C ∧ 0 ≤ C ∧ C ≤ k ∧ Hid (DInv dist xs ys k C) ∧ Below w.heap.size w wr) (fun _ i _ => n - (intOf i).toNat)
  case atStart => exact ⟨0, 0, Nat.zero_le _, rfl, rfl, by omega, by omega, DInv.start _ _ _, Below.refl _ _⟩
  case round =>
    obtain ⟨k, C, hk, rfl, rfl, hC0, hC, hinv, hbel⟩ := hrel
    by_cases hlt : k < n
    · obtain ⟨b1, off1, x, rfl, hc, hx⟩ := (hxs.below hbel (Nat.le_refl _)).at_ hlt
      obtain ⟨b2, off2, y, rfl, hd, hy⟩ := (hys.below hbel (Nat.le_refl _)).at_ (show k < m by omega)
      have hi : (k : Int) < (n : Int) := by omega
      have hi2 : (k : Int) < (m : Int) := by omega
      by_cases hxy : x = y
      · subst hxy
        go_wp2_with fail
        go_quiet (fail)
        go_wp2
        go_roundw
        case rel => exact ⟨k + 1, C, by omega, by go_num, rfl, by omega, by omega, hinv.out.eq hx.out hy.out, bdn hbel _⟩
        case measure => simp [intOf]; omega
      · have hne : (x == y) = false := by simpa using hxy
        have hne2 : (x != y) = true := by simpa using hxy
        go_wp2_with fail
        go_quiet (fail)
        go_wp2
        go_roundw
        case rel => exact ⟨k + 1, C + 1, by omega, by go_num, rfl, by omega, by omega, hinv.out.ne hx.out hy.out hxy, bdn hbel _⟩
        case measure => simp [intOf]; omega
    · go_wp2
      go_ret
      exact ⟨by rw [hinv.out.done hxs.len hlt]; rfl, hbel⟩

theorem differences_any (a b : Option Addr) (n m c d : Nat) (xs ys : List Int) (w : World) (hxs : Row w 1 a n (ints xs)) (hys : Row w 1 b m (ints ys)) (hn : m ≤ 1048576) (hnm : m ≤ n) :
    Calls Try.prog 24 #[.slice a n c, .slice b m d] w fun e w' => e = .returned (.int .i64 (dif xs ys)) ∧ w = w' := by
  go_enter Try.func24, Try.ntmps24
  go_wp2
  go_loop [5, 10] (fun p i => ∃ (k : Nat) (C : Int), k ≤ m ∧ i = .int .i64 k ∧ p = .int .i64 C ∧ 0 ≤ C ∧ C ≤ k ∧ Hid (DInv dif xs ys k C)) (fun _ i => m - (intOf i).toNat)
  case atStart => exact ⟨0, 0, Nat.zero_le _, rfl, rfl, by omega, by omega, DInv.start _ _ _⟩
  case round =>
    obtain ⟨k, C, hk, rfl, rfl, hC0, hC, hinv⟩ := hrel
    by_cases hlt : k < m
    · obtain ⟨b1, off1, x, rfl, hc, hx⟩ := hxs.at_ (show k < n by omega)
      obtain ⟨b2, off2, y, rfl, hd, hy⟩ := hys.at_ hlt
      by_cases h2 : x = 2
      · subst h2
        go_wp2
        go_round
        case rel => exact ⟨k + 1, C, by omega, by go_num, rfl, by omega, by omega, hinv.out.two hx.out hy.out⟩
        case measure => simp [intOf]; omega
      have hne2 : (x == 2) = false := by simpa using h2
      have hne3 : (x != 2) = true := by simpa using h2
      by_cases hxy : x = y
      · subst hxy
        go_wp2
        go_round
        case rel => exact ⟨k + 1, C, by omega, by go_num, rfl, by omega, by omega, hinv.out.eq2 hx.out hy.out h2⟩
        case measure => simp [intOf]; omega
      · have hne : (x == y) = false := by simpa using hxy
        have hne4 : (x != y) = true := by simpa using hxy
        go_wp2
        go_round
        case rel => exact ⟨k + 1, C + 1, by omega, by go_num, by go_num, by omega, by omega, hinv.out.ne2 hx.out hy.out h2 hxy⟩
        case measure => simp [intOf]; omega
    · go_wp2
      go_ret
      exact ⟨by rw [hinv.out.done2 hys.len hlt]; rfl, rfl⟩

def codeDistance (xs ys : List Int) : Int × Int :=
  if !(listOk 604 0 1 xs && listOk 604 0 1 ys) then (0, 1) else if xs.length ≠ ys.length then (0, 5) else (dist xs ys, 0)

theorem codeDistance_spec (a b : Option Addr) (n m c d : Nat) (xs ys : List Int) (w : World) (hxs : Row w 1 a n (ints xs)) (hys : Row w 1 b m (ints ys)) (hn : n ≤ 1048576) (hm : m ≤ 1048576) :
    Calls Try.prog 7 #[.slice a n c, .slice b m d] w fun e w' => e = .returned (.tuple #[.int .i64 (codeDistance xs ys).1, .int .i64 (codeDistance xs ys).2]) ∧ Below w.heap.size w w' := by
  cases h1 : listOk 604 0 1 xs
  · rw [show codeDistance xs ys = (0, 1) by simp [codeDistance, h1]]
    go_enter Try.func7, Try.ntmps7
    go_wp2_with (go_at_call 25; refine (l27Code_any _ _ _ _ _ hxs hn).mono ?_; rintro e w' ⟨rfl, rfl⟩)
    go_ret2
    exact ⟨rfl, Below.refl _ _⟩
  cases h2 : listOk 604 0 1 ys
  · rw [show codeDistance xs ys = (0, 1) by simp [codeDistance, h2]]
    go_enter Try.func7, Try.ntmps7
    go_wp2_with (first | (go_at_call 25; go_call l27Code_any as e w' ⟨rfl, rfl⟩))
    go_ret2
    exact ⟨rfl, Below.refl _ _⟩
  by_cases hnm : n = m
  · subst hnm
    rw [show codeDistance xs ys = (dist xs ys, 0) by simp [codeDistance, h1, h2, hxs.len, hys.len]]
    go_enter Try.func7, Try.ntmps7
    go_wp2_with (first | (go_at_call 25; go_call l27Code_any as e w' ⟨rfl, rfl⟩) | (go_at_call 26; refine (l27Distance_any _ _ _ _ _ _ _ _ _ hxs hys hn (Nat.le_refl _)).mono ?_; rintro e w' ⟨rfl, hb⟩))
    go_ret2
    exact ⟨rfl, hb⟩
  · rw [show codeDistance xs ys = (0, 5) by simp [codeDistance, h1, h2, hxs.len, hys.len, hnm]]
    have hne : ((n : Int) == (m : Int)) = false := by simp; omega
    have hne2 : ((n : Int) != (m : Int)) = true := by simp; omega
    go_enter Try.func7, Try.ntmps7
    go_wp2_with (first | (go_at_call 25; go_call l27Code_any as e w' ⟨rfl, rfl⟩))
    go_ret2
    exact ⟨rfl, Below.refl _ _⟩

theorem codeDistance_impl (a b : Option Addr) (n m c d : Nat) (xs ys : List Int) (w : World) (hxs : Row w 1 a n (ints xs)) (hys : Row w 1 b m (ints ys)) (hn : n ≤ 1048576) (hm : m ≤ 1048576) :
    Calls Try.prog 6 #[.slice a n c, .slice b m d] w fun e w' => e = .returned (.tuple #[.int .i64 (codeDistance xs ys).1, .int .i64 (codeDistance xs ys).2]) ∧ Below w.heap.size w w' := by
  cases h1 : listOk 604 0 1 xs
  · rw [show codeDistance xs ys = (0, 1) by simp [codeDistance, h1]]
    go_enter Try.func6, Try.ntmps6
    go_wp2_with (go_at_call 23; refine (isCode_any _ _ _ _ _ hxs hn).mono ?_; rintro e w' ⟨rfl, rfl⟩)
    go_ret2
    exact ⟨rfl, Below.refl _ _⟩
  cases h2 : listOk 604 0 1 ys
  · rw [show codeDistance xs ys = (0, 1) by simp [codeDistance, h2]]
    go_enter Try.func6, Try.ntmps6
    go_wp2_with (first | (go_at_call 23; go_call isCode_any as e w' ⟨rfl, rfl⟩))
    go_ret2
    exact ⟨rfl, Below.refl _ _⟩
  by_cases hnm : n = m
  · subst hnm
    rw [show codeDistance xs ys = (dif ys xs, 0) by
      rw [dif_dist xs ys (fun y hy => by obtain ⟨k, hk⟩ := List.mem_iff_getElem?.1 hy; have := listOk_get h2 hk; omega)]
      simp [codeDistance, h1, h2, hxs.len, hys.len]]
    go_enter Try.func6, Try.ntmps6
    go_wp2_with (first | (go_at_call 23; go_call isCode_any as e w' ⟨rfl, rfl⟩) | (go_at_call 24; refine (differences_any _ _ _ _ _ _ _ _ _ hys hxs hn (Nat.le_refl _)).mono ?_; rintro e w' ⟨rfl, rfl⟩))
    go_ret2
    exact ⟨rfl, Below.refl _ _⟩
  · rw [show codeDistance xs ys = (0, 5) by simp [codeDistance, h1, h2, hxs.len, hys.len, hnm]]
    have hne : ((n : Int) == (m : Int)) = false := by simp; omega
    have hne2 : ((n : Int) != (m : Int)) = true := by simp; omega
    go_enter Try.func6, Try.ntmps6
    go_wp2_with (first | (go_at_call 23; go_call isCode_any as e w' ⟨rfl, rfl⟩))
    go_ret2
    exact ⟨rfl, Below.refl _ _⟩

/-! ### puncturing -/
def punc : Nat → List Int → List Int
  | _, [] => []
  | i, x :: t => if i % 4 = 3 then punc (i + 1) t else x :: punc (i + 1) t
theorem punc_len : ∀ (xs : List Int) (i : Nat), (punc i xs).length ≤ xs.length
  | [], _ => Nat.le_refl _
  | x :: t, i => by
    have := punc_len t (i + 1)
    rw [punc]
    split <;> simp <;> omega
def puncCode (xs : List Int) : List Int × Int := if listOk 604 0 1 xs then (punc 0 xs, 0) else ([], 1)
theorem puncCode_no {xs : List Int} (h : listOk 604 0 1 xs = false) : puncCode xs = ([], 1) := by simp [puncCode, h]
theorem puncCode_yes {xs : List Int} (h : listOk 604 0 1 xs = true) : puncCode xs = (punc 0 xs, 0) := by simp [puncCode, h]
theorem punctureCode_len (xs : List Int) : (puncCode xs).1.length ≤ 604 := by
  unfold puncCode
  split
  · rename_i h
    have := punc_len xs 0
    have := listOk_le h rfl
    simp only
    omega
  · simp
def PInv (xs : List Int) (k : Nat) (ys : List Int) : Prop := ys ++ punc k (xs.drop k) = punc 0 xs ∧ ys.length ≤ k
theorem PInv.start (xs : List Int) : PInv xs 0 [] := ⟨by simp, by simp⟩
theorem PInv.out {xs ys : List Int} {k : Nat} {x : Int} (h : PInv xs k ys) (hx : xs[k]? = some x) (hk : k % 4 = 3) : PInv xs (k + 1) ys := by
  refine ⟨?_, by have := h.2; omega⟩
  rw [← h.1, drop_at hx, punc, if_pos hk]
theorem PInv.keep {xs ys : List Int} {k : Nat} {x : Int} (h : PInv xs k ys) (hx : xs[k]? = some x) (hk : ¬ k % 4 = 3) : PInv xs (k + 1) (ys ++ [x]) := by
  refine ⟨?_, by have := h.2; simp; omega⟩
  rw [← h.1, drop_at hx, punc, if_neg hk, List.append_assoc]; rfl
theorem PInv.done {xs ys : List Int} {k n : Nat} (h : PInv xs k ys) (hl : xs.length = n) (hk : ¬ k < n) : punc 0 xs = ys := by
  rw [← h.1, List.drop_of_length_le (by omega)]
  simp [punc]

end Go.Proofs.Ytbdlihocnpppaaa
