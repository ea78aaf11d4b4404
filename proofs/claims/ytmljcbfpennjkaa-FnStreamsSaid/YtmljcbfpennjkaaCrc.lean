/- The check number of bytes, by both programs. -/
import Derived.Test.YtmljcbfpennjkaaInt
import Derived.Laws.BitsAllLaws
import Derived.Laws.BitsLemmas
namespace Go.Proofs.Ytmljcbfpennjkaa
open Go.RowKit
set_option maxRecDepth 100000
set_option linter.unusedVariables false

theorem ofInt_i64 (a : Nat) (ha : a < 9223372036854775808) : (BitVec.ofInt 64 (a : Int)).toNat = a := by
  rw [BitVec.ofInt_natCast, BitVec.toNat_ofNat]; exact Nat.mod_eq_of_lt (by omega)
theorem i64_and_nat (a b : Nat) (ha : a < 9223372036854775808) (hb : b < 9223372036854775808) : bits .and .i64 (a : Int) (b : Int) = ((a &&& b : Nat) : Int) := by
  have hx : a &&& b < 2 ^ 63 := Nat.and_lt_two_pow _ (by omega)
  show IntKind.i64.wrap ((BitVec.ofInt 64 (a : Int) &&& BitVec.ofInt 64 (b : Int)).toNat : Int) = _
  rw [BitVec.toNat_and, ofInt_i64 a ha, ofInt_i64 b hb, IntKind.wrap_i64]
  omega
theorem i64_xor_nat (a b : Nat) (ha : a < 9223372036854775808) (hb : b < 9223372036854775808) : bits .xor .i64 (a : Int) (b : Int) = ((a ^^^ b : Nat) : Int) := by
  have hx : a ^^^ b < 2 ^ 63 := Nat.xor_lt_two_pow (by omega) (by omega)
  show IntKind.i64.wrap ((BitVec.ofInt 64 (a : Int) ^^^ BitVec.ofInt 64 (b : Int)).toNat : Int) = _
  rw [BitVec.toNat_xor, ofInt_i64 a ha, ofInt_i64 b hb, IntKind.wrap_i64]
  omega

theorem band1 (a : Nat) (ha : a < 9223372036854775808) : bits .and .i64 (a : Int) 1 = ((a % 2 : Nat) : Int) := by
  rw [show (1 : Int) = ((1 : Nat) : Int) from rfl, i64_and_nat a 1 ha (by omega), Nat.and_one_is_mod]
theorem band16 (a : Nat) (ha : a < 9223372036854775808) : bits .and .i64 (a : Int) 65535 = ((a % 65536 : Nat) : Int) := by
  rw [show (65535 : Int) = ((65535 : Nat) : Int) from rfl, i64_and_nat a 65535 ha (by omega), show 65535 = 2 ^ 16 - 1 from rfl, Nat.and_two_pow_sub_one_eq_mod]

def crcStep (R b : Nat) : Nat := if R / 32768 = b then R * 2 % 65536 else (R * 2 % 65536) ^^^ 4129
def crcBits : Nat → Nat → Nat → Nat
  | 0, R, _ => R
  | j + 1, R, X => crcBits j (crcStep R (X / 2 ^ j % 2)) X
def crcByte (R X : Nat) : Nat := crcBits 8 R X
def crcI : Nat → List Int → Nat
  | R, [] => R
  | R, x :: t => crcI (crcByte R x.toNat) t
theorem crcStep_le (R b : Nat) : crcStep R b ≤ 65535 := by
  unfold crcStep
  split
  · omega
  · have : (R * 2 % 65536) ^^^ 4129 < 2 ^ 16 := Nat.xor_lt_two_pow (by omega) (by omega)
    omega

theorem div_cast (X j : Nat) : ((X : Int) / 2 ^ j) = ((X / 2 ^ j : Nat) : Int) := by simp
theorem div_lt (X j : Nat) (h : X ≤ 65535) : X / 2 ^ j < 9223372036854775808 := by
  have := Nat.div_le_self X (2 ^ j); omega

theorem crc_test {R X j : Nat} (hR : R ≤ 65535) (hX : X ≤ 65535) : (bits .and .i64 ((R : Int) / 32768) 1 != bits .and .i64 ((X : Int) / 2 ^ j) 1) = !decide (R / 32768 = X / 2 ^ j % 2) := by
  rw [show ((R : Int) / 32768) = ((R / 32768 : Nat) : Int) by simp, band1 _ (by omega), div_cast, band1 _ (div_lt X j hX)]
  by_cases h : R / 32768 = X / 2 ^ j % 2
  · simp only [h, decide_true, Bool.not_true, bne_eq_false_iff_eq]; omega
  · simp only [h, decide_false, Bool.not_false, bne_iff_ne, ne_eq]; omega
theorem crc_test2 {R X j : Nat} (hX : X ≤ 65535) : ((R : Int) / 32768 != bits .and .i64 ((X : Int) / 2 ^ j) 1) = !decide (R / 32768 = X / 2 ^ j % 2) := by
  rw [show ((R : Int) / 32768) = ((R / 32768 : Nat) : Int) by simp, div_cast, band1 _ (div_lt X j hX)]
  by_cases h : R / 32768 = X / 2 ^ j % 2
  · simp only [h, decide_true, Bool.not_true, bne_eq_false_iff_eq]
  · simp only [h, decide_false, Bool.not_false, bne_iff_ne, ne_eq]; omega
theorem crc_val {R : Nat} (hR : R ≤ 65535) : bits .and .i64 ((R : Int) * 2) 65535 = ((R * 2 % 65536 : Nat) : Int) := by
  rw [show ((R : Int) * 2) = ((R * 2 : Nat) : Int) by simp, band16 _ (by omega)]
theorem crc_no {R b : Nat} (hR : R ≤ 65535) (h : R / 32768 = b) : bits .and .i64 ((R : Int) * 2) 65535 = ((crcStep R b : Nat) : Int) := by
  rw [crc_val hR, crcStep, if_pos h]
theorem crc_yes {R b : Nat} (hR : R ≤ 65535) (h : ¬ R / 32768 = b) : bits .xor .i64 (bits .and .i64 ((R : Int) * 2) 65535) 4129 = ((crcStep R b : Nat) : Int) := by
  rw [crc_val hR, crcStep, if_neg h, show (4129 : Int) = ((4129 : Nat) : Int) from rfl, i64_xor_nat _ _ (by omega) (by omega)]

def CInv (xs : List Int) (k : Nat) (R : Nat) : Prop := crcI R (xs.drop k) = crcI 65535 xs
theorem CInv.step {xs : List Int} {k R0 R X : Nat} (h : CInv xs k R0) (hx : xs[k]? = some (X : Int)) (e : crcBits 0 R X = crcByte R0 X) : CInv xs (k + 1) R := by
  unfold CInv at h ⊢
  rw [← h, drop_at hx, crcI, Int.toNat_natCast, ← e]
  rfl
theorem CInv.done {xs : List Int} {k n R : Nat} (h : CInv xs k R) (hl : xs.length = n) (hk : ¬ k < n) : crcI 65535 xs = R := by
  unfold CInv at h
  rw [← h, List.drop_of_length_le (by omega)]
  rfl

theorem check_any (a : Option Addr) (n c : Nat) (xs : List Int) (w : World) (h : Row w 1 a n (ints xs)) (hn : n ≤ 1048576) (hall : ∀ x ∈ xs, 0 ≤ x ∧ x ≤ 255) :
    Calls Try.prog 59 #[.slice a n c] w fun e w' => e = .returned (.int .i64 (crcI 65535 xs : Nat)) ∧ w = w' := by
  have HA := Lib.hid hall; clear hall
  go_enter Try.func59, Try.ntmps59
  go_wp2
  go_loop [3, 10] (fun p i => ∃ (k : Nat) (R : Nat), k ≤ n ∧ i = .int .i64 k ∧ p = .int .i64 (R : Int) ∧ R ≤ 65535 ∧ Hid (CInv xs k R)) (fun _ i => n - (intOf i).toNat)
  case atStart => exact ⟨0, 65535, Nat.zero_le _, rfl, rfl, by omega, rfl⟩
  case round =>
    obtain ⟨k, R0, hk, rfl, rfl, hR0, hinv⟩ := hrel
    by_cases hlt : k < n
    · obtain ⟨b, off, x, rfl, hc, hx⟩ := h.at_ hlt
      have hxb := HA.out x (List.mem_of_getElem? hx.out)
      obtain ⟨X, rfl⟩ := Int.eq_ofNat_of_zero_le hxb.1
      have hX : X ≤ 255 := by omega
      clear hxb
      go_wp2
      go_loop [3, 6] (fun p i => ∃ (j : Nat) (R : Nat), j ≤ 8 ∧ i = .int .i64 ((j : Int) - 1) ∧ p = .int .i64 (R : Int) ∧ R ≤ 65535 ∧ Hid (crcBits j R X = crcByte R0 X)) (fun _ i => (intOf i + 1).toNat)
      case atStart => exact ⟨8, R0, by omega, rfl, rfl, hR0, rfl⟩
      case round =>
        obtain ⟨j, R, hj, rfl, rfl, hR, hT⟩ := hrel
        rcases j with _ | j
        · go_wp2
          go_round
          case rel => exact ⟨k + 1, R, by omega, by go_num, rfl, hR, hinv.out.step hx.out hT.out⟩
          case measure => simp [intOf] <;> omega
        · by_cases ht : R / 32768 = X / 2 ^ j % 2
          · have H1 : (bits .and .i64 ((R : Int) / 32768) 1 != bits .and .i64 ((X : Int) / 2 ^ j) 1) = false := by rw [crc_test hR (by omega)]; simp [ht]
            have E := Lib.hid (crc_no hR ht)
            have L := crcStep_le R (X / 2 ^ j % 2)
            have HT := Lib.hid ht; clear ht
            go_wp2
            go_round
            case rel => exact ⟨j, crcStep R (X / 2 ^ j % 2), by omega, by go_num, by rw [E.out], L, hT.out⟩
            case measure => simp [intOf] <;> omega
          · have H1 : (bits .and .i64 ((R : Int) / 32768) 1 != bits .and .i64 ((X : Int) / 2 ^ j) 1) = true := by rw [crc_test hR (by omega)]; simp [ht]
            have E := Lib.hid (crc_yes hR ht)
            have L := crcStep_le R (X / 2 ^ j % 2)
            have HT := Lib.hid ht; clear ht
            go_wp2
            go_round
            case rel => exact ⟨j, crcStep R (X / 2 ^ j % 2), by omega, by go_num, by rw [E.out], L, hT.out⟩
            case measure => simp [intOf] <;> omega
    · go_wp2
      go_ret
      exact ⟨by rw [hinv.out.done h.len hlt]; rfl, rfl⟩

theorem l25Check_any (a : Option Addr) (n c : Nat) (xs : List Int) (w : World) (h : Row w 1 a n (ints xs)) (hn : n ≤ 1048576) (hall : ∀ x ∈ xs, 0 ≤ x ∧ x ≤ 255) :
    Calls Try.prog 61 #[.slice a n c] w fun e w' => e = .returned (.int .i64 (crcI 65535 xs : Nat)) ∧ w = w' := by
  have HA := Lib.hid hall; clear hall
  go_enter Try.func61, Try.ntmps61
  go_wp2
  go_loop [3, 4] (fun p i => ∃ (k : Nat) (R : Nat), k ≤ n ∧ i = .int .i64 k ∧ p = .int .i64 (R : Int) ∧ R ≤ 65535 ∧ Hid (CInv xs k R)) (fun _ i => n - (intOf i).toNat)
  case atStart => exact ⟨0, 65535, Nat.zero_le _, rfl, rfl, by omega, rfl⟩
  case round =>
    obtain ⟨k, R0, hk, rfl, rfl, hR0, hinv⟩ := hrel
    by_cases hlt : k < n
    · obtain ⟨b, off, x, rfl, hc, hx⟩ := h.at_ hlt
      have hxb := HA.out x (List.mem_of_getElem? hx.out)
      obtain ⟨X, rfl⟩ := Int.eq_ofNat_of_zero_le hxb.1
      have hX : X ≤ 255 := by omega
      clear hxb
      go_wp2
      go_loop [3, 5] (fun p i => ∃ (j : Nat) (R : Nat), j ≤ 8 ∧ i = .int .u64 (j : Int) ∧ p = .int .i64 (R : Int) ∧ R ≤ 65535 ∧ Hid (crcBits j R X = crcByte R0 X)) (fun _ i => (intOf i).toNat)
      case atStart => exact ⟨8, R0, by omega, rfl, rfl, hR0, rfl⟩
      case round =>
        obtain ⟨j, R, hj, rfl, rfl, hR, hT⟩ := hrel
        rcases j with _ | j
        · go_wp2
          go_round
          case rel => exact ⟨k + 1, R, by omega, by go_num, rfl, hR, hinv.out.step hx.out hT.out⟩
          case measure => simp [intOf] <;> omega
        · by_cases ht : R / 32768 = X / 2 ^ j % 2
          · have H1 : ((R : Int) / 32768 != bits .and .i64 ((X : Int) / 2 ^ j) 1) = false := by rw [crc_test2 (by omega)]; simp [ht]
            have E := Lib.hid (crc_no hR ht)
            have L := crcStep_le R (X / 2 ^ j % 2)
            have HT := Lib.hid ht; clear ht
            go_wp2
            go_round
            case rel => exact ⟨j, crcStep R (X / 2 ^ j % 2), by omega, by go_num, by rw [E.out], L, hT.out⟩
            case measure => simp [intOf] <;> omega
          · have H1 : ((R : Int) / 32768 != bits .and .i64 ((X : Int) / 2 ^ j) 1) = true := by rw [crc_test2 (by omega)]; simp [ht]
            have E := Lib.hid (crc_yes hR ht)
            have L := crcStep_le R (X / 2 ^ j % 2)
            have HT := Lib.hid ht; clear ht
            go_wp2
            go_round
            case rel => exact ⟨j, crcStep R (X / 2 ^ j % 2), by omega, by go_num, by rw [E.out], L, hT.out⟩
            case measure => simp [intOf] <;> omega
    · go_wp2
      go_ret
      exact ⟨by rw [hinv.out.done h.len hlt]; rfl, rfl⟩

def frameCheck (xs : List Int) : Int × Int := if listOk 28 0 255 xs then (((crcI 65535 xs : Nat) : Int), 0) else (0, 1)
theorem listOk_mem {most lo hi : Int} {xs : List Int} (h : listOk most lo hi xs = true) : ∀ x ∈ xs, lo ≤ x ∧ x ≤ hi := by
  intro x hx
  obtain ⟨k, hk⟩ := List.mem_iff_getElem?.1 hx
  exact listOk_get h hk

theorem frameCheck_impl (a : Option Addr) (n c : Nat) (xs : List Int) (w : World) (h : Row w 1 a n (ints xs)) (hn : n ≤ 1048576) :
    Calls Try.prog 30 #[.slice a n c] w fun e w' => e = .returned (.tuple #[.int .i64 (frameCheck xs).1, .int .i64 (frameCheck xs).2]) ∧ Below w.heap.size w w' := by
  cases hok : listOk 28 0 255 xs
  · rw [show frameCheck xs = (0, 1) by simp [frameCheck, hok]]
    go_enter Try.func30, Try.ntmps30
    go_wp2_with (go_at_call 58; refine (areBytes_any _ _ _ _ _ _ h hn).mono ?_; rintro e w' ⟨rfl, rfl⟩)
    go_ret2
    exact ⟨rfl, Below.refl _ _⟩
  · rw [show frameCheck xs = (((crcI 65535 xs : Nat) : Int), 0) by simp [frameCheck, hok]]
    go_enter Try.func30, Try.ntmps30
    go_wp2_with (first | (go_at_call 58; refine (areBytes_any _ _ _ _ _ _ h hn).mono ?_; rintro e w' ⟨rfl, rfl⟩) | (go_at_call 59; refine (check_any _ _ _ _ _ h hn (listOk_mem hok)).mono ?_; rintro e w' ⟨rfl, rfl⟩))
    go_ret2
    exact ⟨rfl, Below.refl _ _⟩

theorem frameCheck_spec (a : Option Addr) (n c : Nat) (xs : List Int) (w : World) (h : Row w 1 a n (ints xs)) (hn : n ≤ 1048576) :
    Calls Try.prog 31 #[.slice a n c] w fun e w' => e = .returned (.tuple #[.int .i64 (frameCheck xs).1, .int .i64 (frameCheck xs).2]) ∧ Below w.heap.size w w' := by
  cases hok : listOk 28 0 255 xs
  · rw [show frameCheck xs = (0, 1) by simp [frameCheck, hok]]
    go_enter Try.func31, Try.ntmps31
    go_wp2_with (go_at_call 60; refine (l01Within_any _ _ _ _ _ _ _ _ h hn).mono ?_; rintro e w' ⟨rfl, rfl⟩)
    go_ret2
    exact ⟨rfl, Below.refl _ _⟩
  · rw [show frameCheck xs = (((crcI 65535 xs : Nat) : Int), 0) by simp [frameCheck, hok]]
    go_enter Try.func31, Try.ntmps31
    go_wp2_with (first | (go_at_call 60; refine (l01Within_any _ _ _ _ _ _ _ _ h hn).mono ?_; rintro e w' ⟨rfl, rfl⟩) | (go_at_call 61; refine (l25Check_any _ _ _ _ _ h hn (listOk_mem hok)).mono ?_; rintro e w' ⟨rfl, rfl⟩))
    go_ret2
    exact ⟨rfl, Below.refl _ _⟩

end Go.Proofs.Ytmljcbfpennjkaa
