/- Weights of the codes of all messages of a length: plain. No program in sight. -/
import Derived.Test.YtbdlihocnpppaaaEncode
namespace Go.Proofs.Ytbdlihocnpppaaa
open Go.RowKit
set_option maxRecDepth 100000
set_option linter.unusedVariables false

def bitLE (n x : Nat) : List Nat := (List.range n).map fun i => x / 2 ^ i % 2
def bitBE (n x : Nat) : List Nat := (List.range n).map fun i => x / 2 ^ (n - 1 - i) % 2
def wtN : Nat → List Nat → Nat
  | _, [] => 0
  | s, b :: t => (b + s / 2 + s % 2) % 2 + (b + s % 2) % 2 + wtN (2 * b + s / 2) t
def wgt (bs : List Nat) : Nat := wtN 0 (bs ++ [0, 0])
def toI (bs : List Nat) : List Int := bs.map fun (b : Nat) => (b : Int)
theorem toI_length (bs : List Nat) : (toI bs).length = bs.length := by simp [toI]
theorem wtN_le : ∀ (bs : List Nat) (s : Nat), wtN s bs ≤ 2 * bs.length
  | [], _ => by simp [wtN]
  | b :: t, s => by
    have := wtN_le t (2 * b + s / 2)
    simp only [wtN, List.length_cons]
    omega
theorem wgt_le (bs : List Nat) : wgt bs ≤ 2 * (bs.length + 2) := by
  have := wtN_le (bs ++ [0, 0]) 0
  simpa [wgt] using this
theorem enc_sum : ∀ (bs : List Nat) (s : Nat), (enc (s : Int) (toI bs)).sum = ((wtN s bs : Nat) : Int)
  | [], _ => by simp [toI, enc, wtN]
  | b :: t, s => by
    have ih := enc_sum t (2 * b + s / 2)
    have hn : nxt (s : Int) (b : Int) = ((2 * b + s / 2 : Nat) : Int) := by unfold nxt; omega
    have h1 : out1 (s : Int) (b : Int) = (((b + s / 2 + s % 2) % 2 : Nat) : Int) := by unfold out1; omega
    have h2 : out2 (s : Int) (b : Int) = (((b + s % 2) % 2 : Nat) : Int) := by unfold out2; omega
    simp only [toI, List.map_cons] at ih ⊢
    simp only [enc, wtN, List.sum_cons, hn, ih, h1, h2]
    omega
theorem encL_sum (bs : List Nat) : (encL (toI bs)).sum = ((wgt bs : Nat) : Int) := by
  have : toI bs ++ [0, 0] = toI (bs ++ [0, 0]) := by simp [toI]
  rw [encL, this]
  exact enc_sum _ 0
def inc (cs : List Nat) (j : Nat) : List Nat := cs.set j (cs[j]?.getD 0 + 1)
theorem inc_length (cs : List Nat) (j : Nat) : (inc cs j).length = cs.length := by simp [inc]
def cnt (f : Nat → List Nat) (z k : Nat) : List Nat := (List.range k).foldl (fun cs x => inc cs (wgt (f x))) (List.replicate z 0)
theorem cnt_zero (f : Nat → List Nat) (z : Nat) : cnt f z 0 = List.replicate z 0 := rfl
theorem cnt_succ (f : Nat → List Nat) (z k : Nat) : cnt f z (k + 1) = inc (cnt f z k) (wgt (f k)) := by
  simp [cnt, List.range_succ, List.foldl_append]
theorem cnt_length (f : Nat → List Nat) (z k : Nat) : (cnt f z k).length = z := by
  induction k with
  | zero => simp [cnt]
  | succ k ih => rw [cnt_succ, inc_length, ih]
theorem cnt_le (f : Nat → List Nat) (z k : Nat) : ∀ x ∈ cnt f z k, x ≤ k := by
  induction k with
  | zero => intro x hx; rw [cnt_zero] at hx; have := List.eq_of_mem_replicate hx; omega
  | succ k ih =>
    intro x hx
    rw [cnt_succ, inc] at hx
    rcases List.mem_or_eq_of_mem_set hx with h | h
    · have := ih x h; omega
    · rcases Nat.lt_or_ge (wgt (f k)) (cnt f z k).length with hl | hl
      · rw [List.getElem?_eq_getElem hl] at h
        have := ih _ (List.getElem_mem hl)
        simp at h; omega
      · rw [List.getElem?_eq_none hl] at h
        simp at h; omega
def countN (n : Nat) : List Nat := cnt (bitLE n) (2 * n + 5) (2 ^ n)
set_option maxRecDepth 1000000 in
theorem count_both : ∀ n, n < 11 → cnt (bitBE n) (2 * n + 5) (2 ^ n) = cnt (bitLE n) (2 * n + 5) (2 ^ n) := by decide +kernel
theorem bit_le (n x : Nat) : (bitLE n x).length = n := by simp [bitLE]
theorem bit_be (n x : Nat) : (bitBE n x).length = n := by simp [bitBE]
theorem bits_toI {bs : List Nat} (h : ∀ b ∈ bs, b ≤ 1) : Bits (toI bs) := by
  intro x hx
  simp only [toI, List.mem_map] at hx
  obtain ⟨b, hb, rfl⟩ := hx
  have := h b hb
  omega
theorem bits_le (n x : Nat) : Bits (toI (bitLE n x)) := bits_toI fun b hb => by
  simp only [bitLE, List.mem_map] at hb
  obtain ⟨i, _, rfl⟩ := hb
  omega
theorem bits_be (n x : Nat) : Bits (toI (bitBE n x)) := bits_toI fun b hb => by
  simp only [bitBE, List.mem_map] at hb
  obtain ⟨i, _, rfl⟩ := hb
  omega
def countWeights (n : Int) : List Int × Int := if inR 0 10 n then (toI (countN n.toNat), 0) else ([], 2)
theorem countWeights_no {n : Int} (h : inR 0 10 n = false) : countWeights n = ([], 2) := by simp [countWeights, h]
theorem countWeights_yes {n : Nat} (h : inR 0 10 (n : Int) = true) : countWeights n = (toI (countN n), 0) := by simp [countWeights, h]
theorem countWeights_len (n : Int) : (countWeights n).1.length ≤ 25 := by
  unfold countWeights
  split
  · rename_i h
    simp only [inR, Bool.and_eq_true, decide_eq_true_eq] at h
    rw [toI_length, countN, cnt_length]
    omega
  · simp
end Go.Proofs.Ytbdlihocnpppaaa
