/- Contracts of the small functions on integers and on lists of integers that the statements share. -/
import Derived.Test.YtaimckepaldocaaGreatDoorRows
import Derived.Test.YtaimckepaldocaaGreatDoorMem
import Derived.WalkKit
import Derived.WalkSpells
import Derived.WalkLawsBesides
import Derived.Handy
import Derived.BigQuiet
import Derived.Deep.QuietTactic
import Derived.Deep.OwnRows
import Derived.Outline
namespace Go.Proofs.YtaimckepaldocaaGreatDoor
open Go.RowKit
set_option maxRecDepth 100000
set_option linter.unusedVariables false

theorem info_i64 : (Tryz.prog.info? 2).map (fun i => (i.zero, i.size, i.bytes)) = some (some (.int .i64 0), 1, 8) := by kernel_rfl

/-- 'x' lies in lo .. hi. -/
def inR (lo hi x : Int) : Bool := decide (lo ≤ x) && decide (x ≤ hi)

theorem within_any (x lo hi : Int) (w : World) :
    Calls Tryz.prog 21 #[.int .i64 x, .int .i64 lo, .int .i64 hi] w fun e w' => e = .returned (.bool (inR lo hi x)) ∧ w = w' := by
  go_enter Tryz.func21, Tryz.ntmps21
  go_wp2
  all_goals (go_ret; exact ⟨by simp [inR]; omega, rfl⟩)

theorem l01In_any (x lo hi : Int) (w : World) :
    Calls Tryz.prog 24 #[.int .i64 x, .int .i64 lo, .int .i64 hi] w fun e w' => e = .returned (.bool (inR lo hi x)) ∧ w = w' := by
  go_enter Tryz.func24, Tryz.ntmps24
  go_wp2
  all_goals (go_ret; exact ⟨by simp [inR]; omega, rfl⟩)

theorem areWithin_any (a : Option Addr) (n c : Nat) (xs : List Int) (lo hi : Int) (w : World) (h : Row w 1 a n (ints xs)) (hn : n ≤ 1048576) :
    Calls Tryz.prog 71 #[.slice a n c, .int .i64 lo, .int .i64 hi] w fun e w' => e = .returned (.bool (xs.all (inR lo hi))) ∧ w = w' := by
  go_enter Tryz.func71, Tryz.ntmps71
  go_wp2
  go_loop [11] (fun i => ∃ k : Nat, k ≤ n ∧ i = .int .i64 k ∧ Hid ((xs.take k).all (inR lo hi) = true)) (fun i => n - (intOf i).toNat)
  case atStart => exact ⟨0, Nat.zero_le _, rfl, by unfold Hid; simp⟩
  case round =>
    obtain ⟨k, hk, rfl, hall⟩ := hrel
    by_cases hlt : k < n
    · obtain ⟨b, off, x, rfl, hc, hx⟩ := h.at_ hlt
      cases hin : inR lo hi x
      · go_wp2_with (go_at_call 21; refine (within_any _ _ _ _).mono ?_; rintro e w' ⟨rfl, rfl⟩)
        go_ret
        exact ⟨by rw [all_false hx.out hin]; rfl, rfl⟩
      · go_wp2_with (go_at_call 21; refine (within_any _ _ _ _).mono ?_; rintro e w' ⟨rfl, rfl⟩)
        go_round
        case rel => exact ⟨k + 1, by omega, by go_num, all_snoc hx.out hall.out hin⟩
        case measure => simp [intOf]; omega
    · go_wp2
      go_ret
      exact ⟨by rw [all_done h.len hk hlt hall.out]; rfl, rfl⟩

/-- The reference's test of a list: at most 'most' elements, all in lo .. hi. -/
def listOk (most lo hi : Int) (xs : List Int) : Bool := xs.all (inR lo hi) && decide ((xs.length : Int) ≤ most)

theorem listOk_len {most lo hi : Int} {xs : List Int} {n : Nat} (hl : xs.length = n) (h : ¬ (n : Int) ≤ most) : listOk most lo hi xs = false := by
  subst hl; simp [listOk, h]

theorem listOk_all {most lo hi : Int} {xs : List Int} {n : Nat} (hl : xs.length = n) (h : (n : Int) ≤ most) : listOk most lo hi xs = xs.all (inR lo hi) := by
  subst hl; simp [listOk, h]

theorem listOk_get {most lo hi x : Int} {xs : List Int} {k : Nat} (h : listOk most lo hi xs = true) (hx : xs[k]? = some x) : lo ≤ x ∧ x ≤ hi := by
  simp only [listOk, Bool.and_eq_true, List.all_eq_true] at h
  have := h.1 x (List.mem_of_getElem? hx)
  simpa [inR] using this

theorem listOk_le {most lo hi : Int} {xs : List Int} {n : Nat} (h : listOk most lo hi xs = true) (hl : xs.length = n) : (n : Int) ≤ most := by
  simp only [listOk, Bool.and_eq_true, decide_eq_true_eq] at h
  omega

theorem isField_any (a : Option Addr) (n c : Nat) (xs : List Int) (w : World) (h : Row w 1 a n (ints xs)) (hn : n ≤ 1048576) :
    Calls Tryz.prog 50 #[.slice a n c] w fun e w' => e = .returned (.bool (xs.all (inR 0 10000))) ∧ w = w' := by
  go_enter Tryz.func50, Tryz.ntmps50
  go_wp2_with (go_at_call 71; refine (areWithin_any _ _ _ _ _ _ _ h hn).mono ?_; rintro e w' ⟨rfl, rfl⟩)
  go_ret
  exact ⟨rfl, rfl⟩

/-! ### the statements' own helpers -/
theorem lset {z : Value} {xs : List Int} {k n : Nat} {x : Int} (hl : xs.length = n) (hx : xs[k]? = some x) :
    (ints (xs.take k) ++ List.replicate (n - k) z).set k (.int .i64 x) = ints (xs.take (k + 1)) ++ List.replicate (n - (k + 1)) z := by
  have hk : k < n := by have := (List.getElem?_eq_some_iff.1 hx).1; omega
  have hlen : (ints (xs.take k)).length = k := by rw [ints_length, List.length_take]; omega
  rw [take_snoc hx, ints_app, List.append_assoc, List.set_append_right _ _ (by omega), hlen, Nat.sub_self]
  rw [show n - k = (n - (k + 1)) + 1 from by omega, List.replicate_succ]
  rfl

theorem ext_snoc {α : Type} {xs ys : List α} {k : Nat} {x : α} (h : xs.take k = ys.take k) (hx : xs[k]? = some x) (hy : ys[k]? = some x) : xs.take (k + 1) = ys.take (k + 1) := by
  rw [take_snoc hx, take_snoc hy, h]
theorem ext_not {α : Type} {xs ys : List α} {k : Nat} {x y : α} (hx : xs[k]? = some x) (hy : ys[k]? = some y) (hne : x ≠ y) : xs ≠ ys := by
  rintro rfl; rw [hx] at hy; injection hy with hy; exact hne hy

/-- What 'mark' writes: k, k + 1, .. -/
def marks (k : Int) (n : Nat) : List Int := (List.range n).map fun (j : Nat) => k + (j : Int)
theorem marks_length (k : Int) (n : Nat) : (marks k n).length = n := by simp [marks]
theorem marks_get (k : Int) {n j : Nat} (h : j < n) : (marks k n)[j]? = some (k + j) := by simp [marks, h]

theorem mset {xs : List Int} {j n : Nat} {m : Int} (hl : xs.length = n) (hj : j < n) :
    (ints (marks m j) ++ (ints xs).drop j).set j (.int .i64 (m + j)) = ints (marks m (j + 1)) ++ (ints xs).drop (j + 1) := by
  have hlen : (ints (marks m j)).length = j := by rw [ints_length, marks_length]
  rw [List.set_append_right _ _ (by omega), hlen, Nat.sub_self, List.drop_eq_getElem_cons (by rw [ints_length]; omega), List.set_cons_zero]
  simp [marks, List.range_succ, ints]