/- The errors of a message, by both programs. -/
import Derived.Test.YthnifaadbppkfaaEncode
namespace Go.Proofs.Ythnifaadbppkfaa
open Go.RowKit
set_option maxRecDepth 100000
set_option linter.unusedVariables false

def rcvOk (xs : List Int) : Bool := listOk 604 0 2 xs && decide (4 ≤ xs.length) && decide (xs.length % 2 = 0)
theorem rcvOk_true {xs : List Int} (h : rcvOk xs = true) : listOk 604 0 2 xs = true ∧ 4 ≤ xs.length ∧ xs.length % 2 = 0 := by
  simp only [rcvOk, Bool.and_eq_true, decide_eq_true_eq] at h
  exact ⟨h.1.1, h.1.2, h.2⟩

theorem isReceived_any (a : Option Addr) (n c : Nat) (xs : List Int) (w : World) (h : Row w 1 a n (ints xs)) (hn : n ≤ 1048576) :
    Calls Try.prog 56 #[.slice a n c] w fun e w' => e = .returned (.bool (rcvOk xs)) ∧ w = w' := by
  have hxl := h.len
  by_cases ho : n % 2 = 0
  · have ho2 : ((n : Int) % 2 == 0) = true := by simp; omega
    cases hw : inR 4 604 (n : Int)
    · rw [show rcvOk xs = false by
        simp only [inR, Bool.and_eq_false_iff, decide_eq_false_iff_not] at hw
        rcases hw with hw | hw
        · simp [rcvOk, hxl, show ¬ 4 ≤ n by omega]
        · simp [rcvOk, listOk, hxl, show ¬ (n : Int) ≤ 604 by omega]]
      go_enter Try.func56, Try.ntmps56
      go_wp2_with (first | (go_at_call 43; refine (length_any _ _ _ _ (by omega)).mono ?_; rintro e w' ⟨rfl, rfl⟩) | (go_at_call 42; refine (within_any _ _ _ _).mono ?_; rintro e w' ⟨rfl, rfl⟩))
      go_ret
      exact ⟨rfl, rfl⟩
    · have hw2 : 4 ≤ n ∧ n ≤ 604 := by simp [inR] at hw; omega
      rw [show rcvOk xs = xs.all (inR 0 2) by simp [rcvOk, listOk, hxl, hw2, ho, show (n : Int) ≤ 604 by omega]]
      clear hw2
      go_enter Try.func56, Try.ntmps56
      go_wp2_with (first | (go_at_call 43; refine (length_any _ _ _ _ (by omega)).mono ?_; rintro e w' ⟨rfl, rfl⟩) | (go_at_call 42; refine (within_any _ _ _ _).mono ?_; rintro e w' ⟨rfl, rfl⟩) | (go_at_call 58; refine (areWithin_any _ _ _ _ _ _ _ h hn).mono ?_; rintro e w' ⟨rfl, rfl⟩))
      go_ret
      exact ⟨rfl, rfl⟩
  · have ho2 : ((n : Int) % 2 == 0) = false := by simp; omega
    rw [show rcvOk xs = false by simp [rcvOk, hxl, ho]]
    go_enter Try.func56, Try.ntmps56
    go_wp2
    go_ret
    exact ⟨rfl, rfl⟩

theorem l28Received_any (a : Option Addr) (n c : Nat) (xs : List Int) (w : World) (h : Row w 1 a n (ints xs)) (hn : n ≤ 1048576) :
    Calls Try.prog 53 #[.slice a n c] w fun e w' => e = .returned (.bool (rcvOk xs)) ∧ w = w' := by
  have hxl := h.len
  cases hok : listOk 604 0 2 xs
  · rw [show rcvOk xs = false by simp [rcvOk, hok]]
    go_enter Try.func53, Try.ntmps53
    go_wp2_with (go_at_call 71; refine (l01Within_any _ _ _ _ _ _ _ _ h hn).mono ?_; rintro e w' ⟨rfl, rfl⟩)
    go_ret
    exact ⟨rfl, rfl⟩
  by_cases h4 : 4 ≤ n
  · have h42 : (n : Int) ≥ 4 := by omega
    have h43 : (4 : Int) ≤ n := by omega
    by_cases ho : n % 2 = 0
    · have ho2 : ((n : Int) % 2 == 0) = true := by simp; omega
      rw [show rcvOk xs = true by simp [rcvOk, hok, hxl, h4, ho]]
      go_enter Try.func53, Try.ntmps53
      go_wp2_with (go_at_call 71; refine (l01Within_any _ _ _ _ _ _ _ _ h hn).mono ?_; rintro e w' ⟨rfl, rfl⟩)
      go_ret
      exact ⟨rfl, rfl⟩
    · have ho2 : ((n : Int) % 2 == 0) = false := by simp; omega
      rw [show rcvOk xs = false by simp [rcvOk, hok, hxl, h4, ho]]
      go_enter Try.func53, Try.ntmps53
      go_wp2_with (go_at_call 71; refine (l01Within_any _ _ _ _ _ _ _ _ h hn).mono ?_; rintro e w' ⟨rfl, rfl⟩)
      go_ret
      exact ⟨rfl, rfl⟩
  · have h42 : ¬ (4 : Int) ≤ n := by omega
    rw [show rcvOk xs = false by simp [rcvOk, hok, hxl, h4]]
    go_enter Try.func53, Try.ntmps53
    go_wp2_with (go_at_call 71; refine (l01Within_any _ _ _ _ _ _ _ _ h hn).mono ?_; rintro e w' ⟨rfl, rfl⟩)
    go_ret
    exact ⟨rfl, rfl⟩

theorem messageSize_any (a : Option Addr) (n c : Nat) (w : World) (hn : n ≤ 1048576) :
    Calls Try.prog 57 #[.slice a n c] w fun e w' => e = .returned (.int .i64 ((n : Int) / 2 - 2)) ∧ w = w' := by
  go_enter Try.func57, Try.ntmps57
  go_wp2_with (go_at_call 43; refine (length_any _ _ _ _ (by omega)).mono ?_; rintro e w' ⟨rfl, rfl⟩)
  go_ret
  exact ⟨rfl, rfl⟩

theorem l28Size_any (a : Option Addr) (n c : Nat) (w : World) (hn : n ≤ 1048576) :
    Calls Try.prog 54 #[.slice a n c] w fun e w' => e = .returned (.int .i64 ((n : Int) / 2 - 2)) ∧ w = w' := by
  go_enter Try.func54, Try.ntmps54
  go_wp2
  go_ret
  exact ⟨rfl, rfl⟩

def wrong (b r : Int) : Int := if r = 2 then 0 else if r = b then 0 else 1
theorem wrong_bd (b r : Int) : 0 ≤ wrong b r ∧ wrong b r ≤ 1 := by unfold wrong; split <;> (try split) <;> omega
theorem l28Wrong_any (b r : Int) (w : World) : Calls Try.prog 75 #[.int .i64 b, .int .i64 r] w fun e w' => e = .returned (.int .i64 (wrong b r)) ∧ w = w' := by
  by_cases h2 : r = 2
  · subst h2
    rw [show wrong b 2 = 0 by simp [wrong]]
    go_enter Try.func75, Try.ntmps75
    go_wp2
    go_ret
    exact ⟨rfl, rfl⟩
  have h21 : (r == 2) = false := by simpa using h2
  by_cases h3 : b = r
  · subst h3
    rw [show wrong b b = 0 by simp [wrong]]
    go_enter Try.func75, Try.ntmps75
    go_wp2
    go_ret
    exact ⟨rfl, rfl⟩
  have h31 : (b == r) = false := by simpa using h3
  rw [show wrong b r = 1 by rw [wrong, if_neg h2, if_neg (fun e => h3 e.symm)]]
  go_enter Try.func75, Try.ntmps75
  go_wp2
  go_ret
  exact ⟨rfl, rfl⟩

theorem DInv.wrong {xs ys : List Int} {k : Nat} {c x y : Int} (h : DInv dif xs ys k c) (hx : xs[k]? = some x) (hy : ys[k]? = some y) : DInv dif xs ys (k + 1) (c + wrong y x) := by
  unfold DInv at h ⊢
  rw [← h, drop_at hx, drop_at hy, dif]
  unfold Go.Proofs.Ythnifaadbppkfaa.wrong
  split
  · omega
  · split <;> omega

theorem l28Errors_any (a b : Option Addr) (n m c d : Nat) (xs ms : List Int) (w : World) (hxs : Row w 1 a n (ints xs)) (hms : Row w 1 b m (ints ms)) (hm : m ≤ 2000) (hb : Bits ms) (hnm : n = 2 * (m + 2)) :
    Calls Try.prog 55 #[.slice a n c, .slice b m d] w fun e w' => e = .returned (.int .i64 (dif xs (encL ms))) ∧ Below w.heap.size w w' := by
  go_enter Try.func55, Try.ntmps55
  go_wp2_with fail
  go_at_call 46
  refine (l27Encode_any _ _ _ _ _ hms hm hb).mono ?_
  rintro e w1 ⟨a1, c1, rfl, hown1, hbel1⟩
  have hr1 := hown1.row
  have hx1 := hxs.below hbel1 (Nat.le_refl _)
  rw [← hnm] at hr1 ⊢
  go_wp2
  go_loopw [6, 7] (fun p i wr => ∃ (k : Nat) (C : Int), k ≤ n ∧ i = .int .i64 k ∧ p = .int .i64 C ∧ 0 ≤ C ∧ C ≤ k ∧ Hid (DInv dif xs (encL ms) k C) ∧ Below w1.heap.size w1 wr) (fun _ i _ => n - (intOf i).toNat)
  case atStart => exact ⟨0, 0, Nat.zero_le _, rfl, rfl, by omega, by omega, DInv.start _ _ _, Below.refl _ _⟩
  case round =>
    obtain ⟨k, C, hk, rfl, rfl, hC0, hC, hinv, hbel⟩ := hrel
    by_cases hlt : k < n
    · obtain ⟨b1, off1, x, rfl, hc, hx⟩ := (hx1.below hbel (Nat.le_refl _)).at_ hlt
      obtain ⟨b2, off2, y, rfl, hd, hy⟩ := (hr1.below hbel (Nat.le_refl _)).at_ hlt
      have hi : (k : Int) < (n : Int) := by omega
      obtain ⟨hw0, hw1⟩ := wrong_bd y x
      go_wp2_with fail
      go_quiet ((go_at_call 75; first | exact quiet_eq (l28Wrong_any _ _ _) | exact quiet_eq' (l28Wrong_any _ _ _)))
      go_wp2
      go_roundw
      case rel => exact ⟨k + 1, C + wrong y x, by omega, by go_num, by go_num, by omega, by omega, hinv.out.wrong hx.out hy.out, bdn hbel _⟩
      case measure => simp [intOf]; omega
    · go_wp2
      go_ret
      exact ⟨by rw [hinv.out.done2 hr1.len hlt]; rfl, hbel1.trans (hbel.mono hbel1.size)⟩

def errorsOf (xs ms : List Int) : Int × Int :=
  if !(rcvOk xs) then (0, 1) else if !(listOk 300 0 1 ms && decide ((ms.length : Int) = (xs.length : Int) / 2 - 2)) then (0, 2) else (dif xs (encL ms), 0)
theorem errorsOf_no {xs ms : List Int} (h : rcvOk xs = false) : errorsOf xs ms = (0, 1) := by simp [errorsOf, h]
theorem errorsOf_out {xs ms : List Int} (h : rcvOk xs = true) (h2 : (listOk 300 0 1 ms && decide ((ms.length : Int) = (xs.length : Int) / 2 - 2)) = false) : errorsOf xs ms = (0, 2) := by simp only [errorsOf, h, h2]; rfl
theorem errorsOf_yes {xs ms : List Int} (h : rcvOk xs = true) (h2 : listOk 300 0 1 ms = true) (h3 : (ms.length : Int) = (xs.length : Int) / 2 - 2) : errorsOf xs ms = (dif xs (encL ms), 0) := by simp [errorsOf, h, h2, h3]

theorem errorsOf_spec (a b : Option Addr) (n m c d : Nat) (xs ms : List Int) (w : World) (hxs : Row w 1 a n (ints xs)) (hms : Row w 1 b m (ints ms)) (hn : n ≤ 1048576) (hm : m ≤ 1048576) :
    Calls Try.prog 20 #[.slice a n c, .slice b m d] w fun e w' => e = .returned (.tuple #[.int .i64 (errorsOf xs ms).1, .int .i64 (errorsOf xs ms).2]) ∧ Below w.heap.size w w' := by
  have hxl := hxs.len
  have hml := hms.len
  cases h1 : rcvOk xs
  · rw [errorsOf_no h1]
    go_enter Try.func20, Try.ntmps20
    go_wp2_with (go_at_call 53; refine (l28Received_any _ _ _ _ _ hxs hn).mono ?_; rintro e w' ⟨rfl, rfl⟩)
    go_ret2
    exact ⟨rfl, Below.refl _ _⟩
  obtain ⟨hl, h4, ho⟩ := rcvOk_true h1
  cases h2 : listOk 300 0 1 ms
  · rw [errorsOf_out h1 (by rw [h2]; rfl)]
    go_enter Try.func20, Try.ntmps20
    go_wp2_with (first | (go_at_call 53; refine (l28Received_any _ _ _ _ _ hxs hn).mono ?_; rintro e w' ⟨rfl, rfl⟩) | (go_at_call 45; refine (l27Message_any _ _ _ _ _ hms hm).mono ?_; rintro e w' ⟨rfl, rfl⟩))
    go_ret2
    exact ⟨rfl, Below.refl _ _⟩
  have hle := listOk_le h2 hml
  by_cases he : (m : Int) = (n : Int) / 2 - 2
  · have he1 : ((m : Int) != (n : Int) / 2 - 2) = false := by simp [he]
    have he2 : ((m : Int) == (n : Int) / 2 - 2) = true := by simp [he]
    rw [errorsOf_yes h1 h2 (by rw [hxl, hml]; exact he)]
    go_enter Try.func20, Try.ntmps20
    go_wp2_with (first | (go_at_call 53; refine (l28Received_any _ _ _ _ _ hxs hn).mono ?_; rintro e w' ⟨rfl, rfl⟩) | (go_at_call 45; refine (l27Message_any _ _ _ _ _ hms hm).mono ?_; rintro e w' ⟨rfl, rfl⟩) | (go_at_call 54; refine (l28Size_any _ _ _ _ hn).mono ?_; rintro e w' ⟨rfl, rfl⟩) | (go_at_call 55; refine (l28Errors_any _ _ _ _ _ _ _ _ _ hxs hms (by omega) (Bits.of h2) (by omega)).mono ?_; rintro e w' ⟨rfl, hbel⟩))
    go_ret2
    exact ⟨rfl, hbel⟩
  · have he1 : ((m : Int) != (n : Int) / 2 - 2) = true := by simpa using he
    have he2 : ((m : Int) == (n : Int) / 2 - 2) = false := by simpa using he
    rw [errorsOf_out h1 (by rw [h2, hxl, hml]; simpa using he)]
    go_enter Try.func20, Try.ntmps20
    go_wp2_with (first | (go_at_call 53; refine (l28Received_any _ _ _ _ _ hxs hn).mono ?_; rintro e w' ⟨rfl, rfl⟩) | (go_at_call 45; refine (l27Message_any _ _ _ _ _ hms hm).mono ?_; rintro e w' ⟨rfl, rfl⟩) | (go_at_call 54; refine (l28Size_any _ _ _ _ hn).mono ?_; rintro e w' ⟨rfl, rfl⟩))
    go_ret2
    exact ⟨rfl, Below.refl _ _⟩

theorem errorsOf_impl (a b : Option Addr) (n m c d : Nat) (xs ms : List Int) (w : World) (hxs : Row w 1 a n (ints xs)) (hms : Row w 1 b m (ints ms)) (hn : n ≤ 1048576) (hm : m ≤ 1048576) :
    Calls Try.prog 21 #[.slice a n c, .slice b m d] w fun e w' => e = .returned (.tuple #[.int .i64 (errorsOf xs ms).1, .int .i64 (errorsOf xs ms).2]) ∧ Below w.heap.size w w' := by
  have hxl := hxs.len
  have hml := hms.len
  cases h1 : rcvOk xs
  · rw [errorsOf_no h1]
    go_enter Try.func21, Try.ntmps21
    go_wp2_with (go_at_call 56; refine (isReceived_any _ _ _ _ _ hxs hn).mono ?_; rintro e w' ⟨rfl, rfl⟩)
    go_ret2
    exact ⟨rfl, Below.refl _ _⟩
  obtain ⟨hl, h4, ho⟩ := rcvOk_true h1
  have hnl := listOk_le hl hxl
  by_cases he : (m : Int) = (n : Int) / 2 - 2
  · have he1 : ((m : Int) != (n : Int) / 2 - 2) = false := by simp [he]
    have he2 : ((m : Int) == (n : Int) / 2 - 2) = true := by simp [he]
    have e0 := listOk_all (lo := 0) (hi := 1) hml (show (m : Int) ≤ 300 by omega)
    cases h2 : ms.all (inR 0 1)
    · rw [errorsOf_out h1 (by rw [e0, h2]; rfl)]
      clear e0
      go_enter Try.func21, Try.ntmps21
      go_wp2_with (first | (go_at_call 56; refine (isReceived_any _ _ _ _ _ hxs hn).mono ?_; rintro e w' ⟨rfl, rfl⟩) | (go_at_call 43; refine (length_any _ _ _ _ (by omega)).mono ?_; rintro e w' ⟨rfl, rfl⟩) | (go_at_call 57; refine (messageSize_any _ _ _ _ hn).mono ?_; rintro e w' ⟨rfl, rfl⟩) | (go_at_call 58; refine (areWithin_any _ _ _ _ _ _ _ hms hm).mono ?_; rintro e w' ⟨rfl, rfl⟩))
      go_ret2
      exact ⟨rfl, Below.refl _ _⟩
    · have h2' : listOk 300 0 1 ms = true := by rw [e0, h2]
      rw [errorsOf_yes h1 h2' (by rw [hxl, hml]; exact he)]
      clear e0
      go_enter Try.func21, Try.ntmps21
      go_wp2_with (first | (go_at_call 56; refine (isReceived_any _ _ _ _ _ hxs hn).mono ?_; rintro e w' ⟨rfl, rfl⟩) | (go_at_call 43; refine (length_any _ _ _ _ (by omega)).mono ?_; rintro e w' ⟨rfl, rfl⟩) | (go_at_call 57; refine (messageSize_any _ _ _ _ hn).mono ?_; rintro e w' ⟨rfl, rfl⟩) | (go_at_call 58; refine (areWithin_any _ _ _ _ _ _ _ hms hm).mono ?_; rintro e w' ⟨rfl, rfl⟩) | (go_at_call 48; refine (encode_any _ _ _ _ _ hms (by omega) (Bits.of h2')).mono ?_; rintro e w' ⟨a1, c1, rfl, hown, hbel⟩) | (go_at_call 59; refine (differences_any _ _ _ _ _ _ _ _ _ (hxs.below hbel (Nat.le_refl _)) hown.row (by omega) (by omega)).mono ?_; rintro e w' ⟨rfl, rfl⟩))
      go_ret2
      exact ⟨rfl, hbel⟩
  · have he1 : ((m : Int) != (n : Int) / 2 - 2) = true := by simpa using he
    have he2 : ((m : Int) == (n : Int) / 2 - 2) = false := by simpa using he
    rw [errorsOf_out h1 (by rw [hxl, hml]; simp [he])]
    go_enter Try.func21, Try.ntmps21
    go_wp2_with (first | (go_at_call 56; refine (isReceived_any _ _ _ _ _ hxs hn).mono ?_; rintro e w' ⟨rfl, rfl⟩) | (go_at_call 43; refine (length_any _ _ _ _ (by omega)).mono ?_; rintro e w' ⟨rfl, rfl⟩) | (go_at_call 57; refine (messageSize_any _ _ _ _ hn).mono ?_; rintro e w' ⟨rfl, rfl⟩))
    go_ret2
    exact ⟨rfl, Below.refl _ _⟩
end Go.Proofs.Ythnifaadbppkfaa
