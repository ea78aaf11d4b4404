/- Frames: what their bits are and what is read from bits. Plain. -/
import Derived.Test.YtmljcbfpennjkaaStuff
import Derived.Test.YtmljcbfpennjkaaCrc
import Derived.Test.YtmljcbfpennjkaaFrame
namespace Go.Proofs.Ytmljcbfpennjkaa
open Go.RowKit
set_option maxRecDepth 100000
set_option linter.unusedVariables false

def Small01 (xs : List Int) : Prop := ∀ x ∈ xs, 0 ≤ x ∧ x ≤ 1
def flagL : List Int := [0, 1, 1, 1, 1, 1, 1, 0]
def byteL (X : Nat) : List Int := (List.range 8).map fun (i : Nat) => ((X / 2 ^ (7 - i) % 2 : Nat) : Int)
def bitsL (bs : List Int) : List Int := bs.flatMap fun x => byteL x.toNat
def sumL (k m : Int) (xs : List Int) : Nat := crcI 65535 ([k, m] ++ xs)
def bytesL (k m : Int) (xs : List Int) : List Int := [k, m] ++ xs ++ [((sumL k m xs / 256 : Nat) : Int), ((sumL k m xs % 256 : Nat) : Int)]
def frameL (k m : Int) (xs : List Int) : List Int := flagL ++ stuffL 0 (bitsL (bytesL k m xs)) ++ flagL
theorem byteL_length (X : Nat) : (byteL X).length = 8 := by simp [byteL]
theorem byteL_get (X : Nat) {i : Nat} (h : i < 8) : (byteL X)[i]? = some ((X / 2 ^ (7 - i) % 2 : Nat) : Int) := by
  rw [byteL, List.getElem?_map, List.getElem?_range h]; rfl
theorem byteL_small (X : Nat) : Small01 (byteL X) := by
  intro x hx
  obtain ⟨i, -, rfl⟩ := List.mem_map.1 hx
  omega
theorem bitsL_length : ∀ bs : List Int, (bitsL bs).length = bs.length * 8
  | [] => rfl
  | b :: t => by
    have := bitsL_length t
    simp only [bitsL, List.flatMap_cons, List.length_append, byteL_length, List.length_cons] at this ⊢
    omega
theorem bitsL_snoc (bs : List Int) (x : Int) : bitsL (bs ++ [x]) = bitsL bs ++ byteL x.toNat := by simp [bitsL]
theorem bitsL_small (bs : List Int) : Small01 (bitsL bs) := by
  intro x hx
  obtain ⟨b, -, hb⟩ := List.mem_flatMap.1 hx
  exact byteL_small _ x hb
theorem bytesL_length (k m : Int) (xs : List Int) : (bytesL k m xs).length = xs.length + 4 := by simp [bytesL]
theorem frameL_length (k m : Int) (xs : List Int) : (frameL k m xs).length = (stuffL 0 (bitsL (bytesL k m xs))).length + 16 := by
  simp [frameL, flagL]
theorem frameL_le {k m : Int} {xs : List Int} (h : xs.length ≤ 24) : (frameL k m xs).length ≤ 464 := by
  have h1 := stuffL_len 0 (bitsL (bytesL k m xs))
  rw [bitsL_length, bytesL_length] at h1
  rw [frameL_length]
  omega

/-- The number of bits, the most significant one first. -/
def numL (bs : List Int) : Int := bs.foldl (fun n b => 2 * n + b) 0
theorem numL_snoc (bs : List Int) (b : Int) : numL (bs ++ [b]) = 2 * numL bs + b := by simp [numL]
def unbits : Nat → List Int → List Int
  | 0, _ => []
  | n + 1, l => numL (l.take 8) :: unbits n (l.drop 8)
theorem unbits_length : ∀ (n : Nat) (l : List Int), (unbits n l).length = n
  | 0, _ => rfl
  | n + 1, l => by simp [unbits, unbits_length n]
theorem unbits_succ : ∀ (n : Nat) (l : List Int), unbits (n + 1) l = unbits n l ++ [numL ((l.drop (n * 8)).take 8)]
  | 0, l => by simp [unbits]
  | n + 1, l => by
    rw [unbits, unbits_succ n (l.drop 8), unbits, List.drop_drop, List.cons_append, show 8 + n * 8 = (n + 1) * 8 by omega]
theorem numL_bd : ∀ (k : Nat) {bs : List Int}, bs.length ≤ k → Small01 bs → 0 ≤ numL bs ∧ numL bs < 2 ^ k := by
  intro k
  induction k with
  | zero =>
    intro bs hl _
    have : bs = [] := List.eq_nil_of_length_eq_zero (by omega)
    subst this; simp [numL]
  | succ k ih =>
    intro bs hl hs
    rcases List.eq_nil_or_concat bs with rfl | ⟨t, b, rfl⟩
    · have : (0 : Int) < 2 ^ (k + 1) := Int.pow_pos (by omega)
      simp [numL]; omega
    · rw [List.concat_eq_append] at hl hs ⊢
      have h1 := ih (bs := t) (by simp at hl; omega) (fun x hx => hs x (by simp [hx]))
      have h2 := hs b (by simp)
      rw [numL_snoc, Int.pow_succ]
      omega
theorem unbits_bd {l : List Int} (hs : Small01 l) : ∀ (n : Nat), ∀ x ∈ unbits n l, 0 ≤ x ∧ x ≤ 255 := by
  intro n
  induction n generalizing l with
  | zero => intro x hx; simp [unbits] at hx
  | succ n ih =>
    intro x hx
    rw [unbits] at hx
    rcases List.mem_cons.1 hx with rfl | hx
    · have := numL_bd 8 (bs := l.take 8) (by simp; omega) (fun x hx => hs x (List.mem_of_mem_take hx))
      simp at this ⊢; omega
    · exact ih (fun x hx => hs x (List.mem_of_mem_drop hx)) x hx

/-- The three parts of a frame's bytes. -/
abbrev Fr := Int × Int × List Int
def partL (bs : List Int) : Fr := (bs[0]?.getD 0, bs[1]?.getD 0, (bs.drop 2).take (bs.length - 4))
def okL (bits : List Int) (f : Fr) : Bool := frameOk f.1 f.2.1 f.2.2 && decide (frameL f.1 f.2.1 f.2.2 = bits)
/-- What is read from the bits between two flags. -/
def innerL (inner : List Int) : Option (List Int) :=
  if inner.length % 8 = 0 ∧ 32 ≤ inner.length then some (unbits (inner.length / 8) inner) else none
def midL (bits : List Int) : List Int := (bits.drop 8).take (bits.length - 16)
def readL (bits : List Int) : Option Fr :=
  if bits.length < 16 then none else
  match unstL 0 (midL bits) with
  | none => none
  | some inner => match innerL inner with
    | none => none
    | some bs => if okL bits (partL bs) = true then some (partL bs) else none
theorem readL_short {bits : List Int} (h : bits.length < 16) : readL bits = none := by rw [readL, if_pos h]
theorem readL_bad {bits : List Int} (h : unstL 0 (midL bits) = none) : readL bits = none := by
  rw [readL]; split
  · rfl
  · rw [h]
theorem readL_odd {bits inner : List Int} (h : unstL 0 (midL bits) = some inner) (h2 : innerL inner = none) : readL bits = none := by
  rw [readL]; split
  · rfl
  · rw [h]; simp only [h2]
theorem readL_at {bits inner bs : List Int} (h0 : ¬ bits.length < 16) (h : unstL 0 (midL bits) = some inner) (h2 : innerL inner = some bs) : readL bits = if okL bits (partL bs) = true then some (partL bs) else none := by
  rw [readL, if_neg h0, h]; simp only [h2]
theorem okL_flags {bits : List Int} {f : Fr} (h : okL bits f = true) : bits.take 8 = flagL ∧ bits.drop (bits.length - 8) = flagL := by
  simp only [okL, Bool.and_eq_true, decide_eq_true_eq] at h
  obtain ⟨-, rfl⟩ := h
  refine ⟨?_, ?_⟩
  · rw [frameL, List.append_assoc, List.take_append_of_le_length (by simp [flagL])]; rfl
  · rw [frameL, List.drop_append_of_le_length (by simp [flagL])]
    · have : (flagL ++ stuffL 0 (bitsL (bytesL f.1 f.2.1 f.2.2)) ++ flagL).length - 8 = (flagL ++ stuffL 0 (bitsL (bytesL f.1 f.2.1 f.2.2))).length := by simp [flagL]
      rw [this, List.drop_length]; rfl
theorem readL_noflag {bits : List Int} (h : ¬ (bits.take 8 = flagL ∧ bits.drop (bits.length - 8) = flagL)) : readL bits = none := by
  unfold readL
  split
  · rfl
  · split
    · rfl
    · split
      · rfl
      · split
        · rename_i hk; exact absurd (okL_flags hk) h
        · rfl

def readFrame (bits : List Int) : Fr × Int := if !(listOk 1200 0 1 bits) then ((0, 0, []), 1) else match readL bits with | some f => (f, 0) | none => ((0, 0, []), 6)
theorem readFrame_no {bits : List Int} (h : listOk 1200 0 1 bits = false) : readFrame bits = ((0, 0, []), 1) := by simp [readFrame, h]
theorem readFrame_none {bits : List Int} (h : listOk 1200 0 1 bits = true) (h2 : readL bits = none) : readFrame bits = ((0, 0, []), 6) := by simp [readFrame, h, h2]
theorem readFrame_some {bits : List Int} {f : Fr} (h : listOk 1200 0 1 bits = true) (h2 : readL bits = some f) : readFrame bits = (f, 0) := by simp [readFrame, h, h2]
theorem readL_ok {bits : List Int} {f : Fr} (h : readL bits = some f) : okL bits f = true := by
  unfold readL at h
  split at h
  · cases h
  · split at h
    · cases h
    · split at h
      · cases h
      · split at h
        · rename_i hk; injection h with h; subst h; exact hk
        · cases h
theorem frameOk_len {k m : Int} {xs : List Int} (h : frameOk k m xs = true) : xs.length ≤ 24 := by
  simp only [frameOk, Bool.and_eq_true] at h
  have := listOk_le h.2 rfl
  omega
theorem readFrame_len (bits : List Int) : (readFrame bits).1.2.2.length ≤ 24 := by
  unfold readFrame
  split
  · simp
  · split
    · rename_i f hf
      have := readL_ok hf
      simp only [okL, Bool.and_eq_true] at this
      exact frameOk_len this.1
    · simp

def frameBits (k m : Int) (xs : List Int) : List Int × Int := if frameOk k m xs then (frameL k m xs, 0) else ([], 1)
theorem frameBits_no {k m : Int} {xs : List Int} (h : frameOk k m xs = false) : frameBits k m xs = ([], 1) := by simp [frameBits, h]
theorem frameBits_yes {k m : Int} {xs : List Int} (h : frameOk k m xs = true) : frameBits k m xs = (frameL k m xs, 0) := by simp [frameBits, h]
theorem frameBits_len (k m : Int) (xs : List Int) : (frameBits k m xs).1.length ≤ 464 := by
  unfold frameBits
  split
  · rename_i h; exact frameL_le (frameOk_len h)
  · simp
theorem frameOk_true {k m : Int} {xs : List Int} (h : frameOk k m xs = true) : (0 ≤ k ∧ k ≤ 15) ∧ (0 ≤ m ∧ m ≤ 255) ∧ xs.length ≤ 24 ∧ ∀ x ∈ xs, 0 ≤ x ∧ x ≤ 255 := by
  have h0 := frameOk_len h
  simp only [frameOk, inR, Bool.and_eq_true, decide_eq_true_eq] at h
  exact ⟨h.1.1, h.1.2, h0, listOk_mem h.2⟩
end Go.Proofs.Ytmljcbfpennjkaa
