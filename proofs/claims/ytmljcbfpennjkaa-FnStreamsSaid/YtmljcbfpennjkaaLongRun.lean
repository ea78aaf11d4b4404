/- LongestRun, by both programs. -/
import Derived.Test.YtmljcbfpennjkaaInt
namespace Go.Proofs.Ytmljcbfpennjkaa
open Go.RowKit
set_option maxRecDepth 100000
set_option linter.unusedVariables false

def rstep (r x : Int) : Int := if x = 0 then 0 else r + 1
def lrun : Int → Int → List Int → Int
  | m, _, [] => m
  | m, r, x :: t => lrun (max m (rstep r x)) (rstep r x) t
def longestRun (xs : List Int) : Int × Int := if listOk 1200 0 1 xs then (lrun 0 0 xs, 0) else (0, 1)
theorem longestRun_no {xs : List Int} (h : listOk 1200 0 1 xs = false) : longestRun xs = (0, 1) := by simp [longestRun, h]
theorem longestRun_yes {xs : List Int} (h : listOk 1200 0 1 xs = true) : longestRun xs = (lrun 0 0 xs, 0) := by simp [longestRun, h]

def LRInv (xs : List Int) (k : Nat) (m r : Int) : Prop := lrun m r (xs.drop k) = lrun 0 0 xs
theorem LRInv.step0 {xs : List Int} {k : Nat} {m r : Int} (h : LRInv xs k m r) (hx : xs[k]? = some 0) (hm : 0 ≤ m) : LRInv xs (k + 1) m 0 := by
  unfold LRInv at h ⊢
  rw [← h, drop_at hx, lrun, show rstep r 0 = 0 from rfl, Int.max_eq_left hm]
theorem LRInv.step1 {xs : List Int} {k : Nat} {m r : Int} (h : LRInv xs k m r) (hx : xs[k]? = some 1) : LRInv xs (k + 1) (if m < r + 1 then r + 1 else m) (r + 1) := by
  rw [show (if m < r + 1 then r + 1 else m) = max m (r + 1) from by split <;> omega]
  unfold LRInv at h ⊢
  rw [← h, drop_at hx, lrun]
  rfl
theorem LRInv.done {xs : List Int} {k n : Nat} {m r : Int} (h : LRInv xs k m r) (hl : xs.length = n) (hk : ¬ k < n) : lrun 0 0 xs = m := by
  unfold LRInv at h
  rw [← h, List.drop_of_length_le (by omega)]
  rfl

end Go.Proofs.Ytmljcbfpennjkaa
