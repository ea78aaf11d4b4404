/- Plain laws of frames: what is read from a frame's bits is the frame; one wrong bit changes the check number. No program in sight. -/
import Derived.Test.YtmljcbfpennjkaaPFrame
import Derived.Test.YtmljcbfpennjkaaPStuff
namespace Go.Proofs.Ytmljcbfpennjkaa
open Go.RowKit
set_option maxRecDepth 100000
set_option linter.unusedVariables false

theorem num_byte : ∀ X < 256, numL (byteL X) = (X : Int) := by decide +kernel
theorem unbits_bits : ∀ (bs : List Int), (∀ x ∈ bs, 0 ≤ x ∧ x ≤ 255) → unbits bs.length (bitsL bs) = bs
  | [], _ => rfl
  | b :: t, h => by
    have hb := h b List.mem_cons_self
    have e : bitsL (b :: t) = byteL b.toNat ++ bitsL t := by simp [bitsL]
    have ih := unbits_bits t (fun x hx => h x (List.mem_cons_of_mem _ hx))
    rw [List.length_cons, unbits, e, List.take_left' (byteL_length _), List.drop_left' (byteL_length _), ih, num_byte _ (by omega)]
    congr 1; omega
theorem sumL_le' (k m : Int) (xs : List Int) : sumL k m xs ≤ 65535 := by
  have h : ∀ (l : List Int) (R : Nat), R ≤ 65535 → crcI R l ≤ 65535 := by
    have hb : ∀ (j R X : Nat), R ≤ 65535 → crcBits j R X ≤ 65535 := by
      intro j
      induction j with
      | zero => intro R X h; exact h
      | succ j ih => intro R X _; exact ih _ _ (crcStep_le _ _)
    intro l
    induction l with
    | nil => intro R h; exact h
    | cons x t ih => intro R h; exact ih _ (hb _ _ _ h)
  exact h _ _ (by omega)
theorem bytesL_bd' {k m : Int} {xs : List Int} (h : frameOk k m xs = true) : ∀ x ∈ bytesL k m xs, 0 ≤ x ∧ x ≤ 255 := by
  obtain ⟨h1, h2, -, h4⟩ := frameOk_true h
  have h5 := sumL_le' k m xs
  intro x hx
  simp only [bytesL, List.mem_append, List.mem_cons, List.not_mem_nil, or_false] at hx
  rcases hx with ((rfl | rfl) | hx) | rfl | rfl
  · omega
  · omega
  · exact h4 x hx
  · omega
  · omega
theorem mid_frame (k m : Int) (xs : List Int) : midL (frameL k m xs) = stuffL 0 (bitsL (bytesL k m xs)) := by
  have hl := frameL_length k m xs
  rw [midL, hl, frameL, List.append_assoc, List.drop_left' (by rfl), show (stuffL 0 (bitsL (bytesL k m xs))).length + 16 - 16 = (stuffL 0 (bitsL (bytesL k m xs))).length by omega, List.take_left' rfl]
theorem part_bytes (k m : Int) (xs : List Int) : partL (bytesL k m xs) = (k, m, xs) := by
  simp [partL, bytesL]
theorem readL_frameL {k m : Int} {xs : List Int} (h : frameOk k m xs = true) : readL (frameL k m xs) = some (k, m, xs) := by
  have hl := bytesL_length k m xs
  have hi : innerL (bitsL (bytesL k m xs)) = some (bytesL k m xs) := by
    rw [innerL, bitsL_length, if_pos (by omega), show (bytesL k m xs).length * 8 / 8 = (bytesL k m xs).length by omega, unbits_bits _ (bytesL_bd' h)]
  rw [readL_at (inner := bitsL (bytesL k m xs)) (by rw [frameL_length]; omega) (by rw [mid_frame, unst_stuff _ _ (by omega)]) hi, part_bytes]
  simp [okL, h]
theorem small_flag : Small01 flagL := by
  intro x hx
  simp only [flagL, List.mem_cons, List.not_mem_nil, or_false] at hx
  omega
theorem frameL_small' (k m : Int) (xs : List Int) : Small01 (frameL k m xs) := by
  have hs : Bit01 (stuffL 0 (bitsL (bytesL k m xs))) := stuff_bits _ _ (fun x hx => by have := bitsL_small _ x hx; omega)
  intro x hx
  simp only [frameL, List.mem_append] at hx
  rcases hx with (hx | hx) | hx
  · exact small_flag x hx
  · have := hs x hx; omega
  · exact small_flag x hx
theorem frameL_ok {k m : Int} {xs : List Int} (h : frameOk k m xs = true) : listOk 1200 0 1 (frameL k m xs) = true := by
  have h1 := frameL_le (k := k) (m := m) (frameOk_len h)
  have h2 := frameL_small' k m xs
  simp only [listOk, Bool.and_eq_true, List.all_eq_true, decide_eq_true_eq, inR]
  exact ⟨h2, by omega⟩
theorem readFrame_frame {k m : Int} {xs : List Int} (h : frameOk k m xs = true) : readFrame (frameBits k m xs).1 = ((k, m, xs), 0) := by
  rw [frameBits_yes h]
  exact readFrame_some (frameL_ok h) (readL_frameL h)
theorem frameBits_read {bits : List Int} (h : (readFrame bits).2 = 0) : frameBits (readFrame bits).1.1 (readFrame bits).1.2.1 (readFrame bits).1.2.2 = (bits, 0) := by
  cases h1 : listOk 1200 0 1 bits
  · rw [readFrame_no h1] at h; simp at h
  · cases h2 : readL bits with
    | none => rw [readFrame_none h1 h2] at h; simp at h
    | some f =>
      have := readL_ok h2
      simp only [okL, Bool.and_eq_true, decide_eq_true_eq] at this
      rw [readFrame_some h1 h2, frameBits_yes this.1, this.2]

/-! one wrong bit -/
theorem bit_lt (X j : Nat) : X / 2 ^ j % 2 < 2 := Nat.mod_lt _ (by omega)
theorem xor_odd (a : Nat) (h : a % 2 = 0) : (a ^^^ 4129) % 2 = 1 := by
  have : (a ^^^ 4129) % 2 = (a % 2) ^^^ (4129 % 2) := by
    have := @Nat.xor_mod_two_pow a 4129 1
    simpa using this
  rw [this, h]; rfl
theorem xor_cancel {a b : Nat} (h : a ^^^ 4129 = b ^^^ 4129) : a = b := by
  have := congrArg (· ^^^ 4129) h
  simpa [Nat.xor_assoc] using this
theorem crcStep_inj {R R' b : Nat} (hb : b < 2) (hR : R ≤ 65535) (hR' : R' ≤ 65535) (h : crcStep R b = crcStep R' b) : R = R' := by
  unfold crcStep at h
  have o1 := xor_odd (R * 2 % 65536) (by omega)
  have o2 := xor_odd (R' * 2 % 65536) (by omega)
  split at h <;> split at h
  · omega
  · omega
  · omega
  · have := xor_cancel h; omega
theorem crcStep_bit {R b b' : Nat} (hb : b < 2) (hb' : b' < 2) (hR : R ≤ 65535) (hne : b ≠ b') : crcStep R b ≠ crcStep R b' := by
  intro h
  unfold crcStep at h
  have o1 := xor_odd (R * 2 % 65536) (by omega)
  split at h <;> split at h <;> omega
theorem crcBits_le : ∀ (j R X : Nat), R ≤ 65535 → crcBits j R X ≤ 65535
  | 0, _, _, h => h
  | j + 1, _, X, _ => crcBits_le j _ X (crcStep_le _ _)
theorem crcBits_ne : ∀ (j R R' X X' : Nat), R ≤ 65535 → R' ≤ 65535 → R ≠ R' → (∀ i < j, X / 2 ^ i % 2 = X' / 2 ^ i % 2) → crcBits j R X ≠ crcBits j R' X'
  | 0, _, _, _, _, _, _, h, _ => h
  | j + 1, R, R', X, X', hR, hR', h, he => by
    rw [crcBits, crcBits, he j (by omega)]
    exact crcBits_ne j _ _ X X' (crcStep_le _ _) (crcStep_le _ _) (fun e => h (crcStep_inj (bit_lt _ _) hR hR' e)) (fun i hi => he i (by omega))
theorem crcBits_bit : ∀ (j R X X' i : Nat), R ≤ 65535 → i < j → X / 2 ^ i % 2 ≠ X' / 2 ^ i % 2 → (∀ k < j, k ≠ i → X / 2 ^ k % 2 = X' / 2 ^ k % 2) → crcBits j R X ≠ crcBits j R X'
  | 0, _, _, _, _, _, h, _, _ => by omega
  | j + 1, R, X, X', i, hR, hi, hd, he => by
    rw [crcBits, crcBits]
    by_cases hij : i = j
    · subst hij
      exact crcBits_ne i _ _ X X' (crcStep_le _ _) (crcStep_le _ _) (crcStep_bit (bit_lt _ _) (bit_lt _ _) hR hd) (fun k hk => he k (by omega) (by omega))
    · rw [he j (by omega) (by omega)]
      exact crcBits_bit j _ X X' i (crcStep_le _ _) (by omega) hd (fun k hk hki => he k (by omega) hki)
theorem crcI_ne : ∀ (t : List Int) (R R' : Nat), R ≤ 65535 → R' ≤ 65535 → R ≠ R' → crcI R t ≠ crcI R' t
  | [], _, _, _, _, h => h
  | x :: t, R, R', hR, hR', h => by
    rw [crcI, crcI]
    exact crcI_ne t _ _ (crcBits_le _ _ _ hR) (crcBits_le _ _ _ hR') (crcBits_ne 8 _ _ _ _ hR hR' h (fun _ _ => rfl))
theorem bit_xor (X j i : Nat) : ((X ^^^ 2 ^ j) / 2 ^ i % 2 = X / 2 ^ i % 2) ↔ i ≠ j := by
  have e : ∀ Y, (Y / 2 ^ i % 2 = 1) ↔ Y.testBit i = true := by
    intro Y; rw [Nat.testBit_eq_decide_div_mod_eq]; simp
  have h1 := e (X ^^^ 2 ^ j)
  have h2 := e X
  rw [Nat.testBit_xor, Nat.testBit_two_pow] at h1
  have b1 := bit_lt (X ^^^ 2 ^ j) i
  have b2 := bit_lt X i
  by_cases hij : i = j
  · subst hij
    simp only [decide_true, Bool.xor_true, Bool.not_eq_true'] at h1
    cases hX : X.testBit i
    · rw [hX] at h1 h2; simp at h1 h2; omega
    · rw [hX] at h1 h2; simp at h1 h2; omega
  · have : decide (j = i) = false := by simp; omega
    rw [this, Bool.xor_false] at h1
    have : (X ^^^ 2 ^ j) / 2 ^ i % 2 = 1 ↔ X / 2 ^ i % 2 = 1 := h1.trans h2.symm
    constructor
    · intro _; exact hij
    · intro _; omega
theorem crc_wrong : ∀ (xs : List Int) (R k X j : Nat), R ≤ 65535 → xs[k]? = some (X : Int) → j < 8 → crcI R (xs.set k ((X ^^^ 2 ^ j : Nat) : Int)) ≠ crcI R xs
  | [], _, _, _, _, _, h, _ => by simp at h
  | x :: t, R, 0, X, j, hR, h, hj => by
    simp at h; subst h
    rw [List.set_cons_zero, crcI, crcI, Int.toNat_natCast, Int.toNat_natCast]
    refine crcI_ne t _ _ (crcBits_le _ _ _ hR) (crcBits_le _ _ _ hR) (crcBits_bit 8 R _ _ j hR hj ?_ (fun i hi hij => (bit_xor X j i).2 hij))
    intro e; exact (bit_xor X j j).1 e rfl
  | x :: t, R, k + 1, X, j, hR, h, hj => by
    rw [List.set_cons_succ, crcI, crcI]
    exact crc_wrong t _ k X j (crcBits_le _ _ _ hR) (by simpa using h) hj
theorem xor_small {X j : Nat} (hX : X ≤ 255) (hj : j < 8) : X ^^^ 2 ^ j ≤ 255 := by
  have : X ^^^ 2 ^ j < 2 ^ 8 := Nat.xor_lt_two_pow (by omega) (Nat.pow_lt_pow_right (by omega) hj)
  omega
/-- The statement's step: one wrong bit at place k. -/
theorem check_wrong {xs : List Int} {k X j : Nat} (h : (frameCheck xs).2 = 0) (hx : xs[k]? = some (X : Int)) (hj : j < 8) :
    ∃ m, frameCheck (xs.set k ((X ^^^ 2 ^ j : Nat) : Int)) = (m, 0) ∧ m ≠ (frameCheck xs).1 := by
  unfold frameCheck at h ⊢
  split at h
  · rename_i hok
    have hX := (listOk_mem hok) X (List.mem_of_getElem? hx)
    have hok2 : listOk 28 0 255 (xs.set k ((X ^^^ 2 ^ j : Nat) : Int)) = true := by
      simp only [listOk, Bool.and_eq_true, List.all_eq_true, decide_eq_true_eq, inR, List.length_set] at hok ⊢
      refine ⟨fun x hx => ?_, hok.2⟩
      rcases List.mem_or_eq_of_mem_set hx with h1 | h1
      · exact hok.1 x h1
      · subst h1; have := xor_small (X := X) (by omega) hj; omega
    rw [if_pos hok2, if_pos hok]
    refine ⟨_, rfl, fun e => crc_wrong xs 65535 k X j (by omega) hx hj ?_⟩
    simp only at e
    omega
  · simp at h

/-! a frame behind all others of a stream -/
/-- No six ones in a row, with o ones ahead. -/
def six : Nat → List Int → Prop
  | _, [] => True
  | o, b :: t => if b = 1 then o + 1 < 6 ∧ six (o + 1) t else six 0 t
theorem six_mono : ∀ (l : List Int) (o o' : Nat), o' ≤ o → six o l → six o' l
  | [], _, _, _, _ => trivial
  | b :: t, o, o', h, hs => by
    unfold six at hs ⊢
    by_cases hb : b = 1
    · rw [if_pos hb] at hs ⊢
      exact ⟨by omega, six_mono t _ _ (by omega) hs.2⟩
    · rw [if_neg hb] at hs ⊢
      exact hs
theorem six_drop : ∀ (k : Nat) (l : List Int) (o : Nat), six o l → six 0 (l.drop k)
  | 0, l, o, h => six_mono l o 0 (by omega) h
  | k + 1, [], o, _ => by simp [six]
  | k + 1, b :: t, o, h => by
    rw [List.drop_succ_cons]
    unfold six at h
    split at h
    · exact six_drop k t _ h.2
    · exact six_drop k t _ h
theorem six_stuff : ∀ (xs : List Int) (o : Nat), o ≤ 4 → six o (stuffL o xs)
  | [], _, _ => trivial
  | b :: t, o, h => by
    by_cases hb : ons o b = 5
    · have e : stuffL o (b :: t) = b :: 0 :: stuffL 0 t := by rw [stuffL, if_pos hb]
      rw [e]
      have hb0 : b ≠ 0 := by intro e; rw [ons, if_pos e] at hb; omega
      have h4 : o = 4 := by rw [ons, if_neg hb0] at hb; omega
      have ih := six_stuff t 0 (by omega)
      unfold six
      split
      · refine ⟨by omega, ?_⟩; unfold six; rw [if_neg (by decide)]; exact ih
      · unfold six; rw [if_neg (by decide)]; exact ih
    · have e : stuffL o (b :: t) = b :: stuffL (ons o b) t := by rw [stuffL, if_neg hb]
      have hle : ons o b ≤ 4 := by have := ons_le (b := b) h; omega
      have ih := six_stuff t _ hle
      rw [e]
      unfold six
      by_cases h1 : b = 1
      · rw [if_pos h1]
        have ho : ons o b = o + 1 := by rw [ons, if_neg (by omega)]
        rw [ho] at hle
        refine ⟨by omega, ?_⟩
        exact ho ▸ ih
      · rw [if_neg h1]; exact six_mono _ _ _ (by omega) ih
theorem six_ones {l : List Int} (h : six 0 l) : l.take 6 ≠ [1, 1, 1, 1, 1, 1] := by
  intro e
  match l, e with
  | a :: b :: c :: d :: f :: g :: t, e =>
    simp at e
    obtain ⟨rfl, rfl, rfl, rfl, rfl, rfl⟩ := e
    simp [six] at h
end Go.Proofs.Ytmljcbfpennjkaa
