/- Contracts of the small functions on integers and on lists of integers that the statements share. -/
import Derived.Test.YtciicolknphcnaaRows
import Derived.Test.YtciicolknphcnaaMem
import Derived.WalkKit
import Derived.WalkSpells
import Derived.WalkLawsBesides
import Derived.Handy
import Derived.BigQuiet
import Derived.Deep.QuietTactic
import Derived.Deep.OwnRows
import Derived.Outline
namespace Go.Proofs.Ytciicolknphcnaa
open Go.RowKit
set_option maxRecDepth 100000
set_option linter.unusedVariables false

theorem info_i64 : (Try.prog.info? 2).map (fun i => (i.zero, i.size, i.bytes)) = some (some (.int .i64 0), 1, 8) := by kernel_rfl

/-- 'x' lies in lo .. hi. -/
def inR (lo hi x : Int) : Bool := decide (lo ≤ x) && decide (x ≤ hi)

theorem within_any (x lo hi : Int) (w : World) :
    Calls Try.prog 54 #[.int .i64 x, .int .i64 lo, .int .i64 hi] w fun e w' => e = .returned (.bool (inR lo hi x)) ∧ w = w' := by
  go_enter Try.func54, Try.ntmps54
  go_wp2
  all_goals (go_ret; exact ⟨by simp [inR]; omega, rfl⟩)

theorem l01In_any (x lo hi : Int) (w : World) :
    Calls Try.prog 50 #[.int .i64 x, .int .i64 lo, .int .i64 hi] w fun e w' => e = .returned (.bool (inR lo hi x)) ∧ w = w' := by
  go_enter Try.func50, Try.ntmps50
  go_wp2
  all_goals (go_ret; exact ⟨by simp [inR]; omega, rfl⟩)

theorem areWithin_any (a : Option Addr) (n c : Nat) (xs : List Int) (lo hi : Int) (w : World) (h : Row w 1 a n (ints xs)) (hn : n ≤ 1048576) :
    Calls Try.prog 65 #[.slice a n c, .int .i64 lo, .int .i64 hi] w fun e w' => e = .returned (.bool (xs.all (inR lo hi))) ∧ w = w' := by
  go_enter Try.func65, Try.ntmps65
  go_wp2
  go_loop [11] (fun i => ∃ k : Nat, k ≤ n ∧ i = .int .i64 k ∧ Hid ((xs.take k).all (inR lo hi) = true)) (fun i => n - (intOf i).toNat)
  case atStart => exact ⟨0, Nat.zero_le _, rfl, by unfold Hid; simp⟩
  case round =>
    obtain ⟨k, hk, rfl, hall⟩ := hrel
    by_cases hlt : k < n
    · obtain ⟨b, off, x, rfl, hc, hx⟩ := h.at_ hlt
      cases hin : inR lo hi x
      · go_wp2_with (go_at_call 54; refine (within_any _ _ _ _).mono ?_; rintro e w' ⟨rfl, rfl⟩)
        go_ret
        exact ⟨by rw [all_false hx.out hin]; rfl, rfl⟩
      · go_wp2_with (go_at_call 54; refine (within_any _ _ _ _).mono ?_; rintro e w' ⟨rfl, rfl⟩)
        go_round
        case rel => exact ⟨k + 1, by omega, by go_num, all_snoc hx.out hall.out hin⟩
        case measure => simp [intOf]; omega
    · go_wp2
      go_ret
      exact ⟨by rw [all_done h.len hk hlt hall.out]; rfl, rfl⟩

/-- The reference's test of a list: at most 'most' elements, all in lo .. hi. -/
def listOk (most lo hi : Int) (xs : List Int) : Bool := xs.all (inR lo hi) && decide ((xs.length : Int) ≤ most)

theorem listOk_len {most lo hi : Int} {xs : List Int} {n : Nat} (hl : xs.length = n) (h : ¬ (n : Int) ≤ most) : listOk most lo hi xs = false := by
  subst hl; simp [listOk, h]

theorem listOk_all {most lo hi : Int} {xs : List Int} {n : Nat} (hl : xs.length = n) (h : (n : Int) ≤ most) : listOk most lo hi xs = xs.all (inR lo hi) := by
  subst hl; simp [listOk, h]

theorem listOk_get {most lo hi x : Int} {xs : List Int} {k : Nat} (h : listOk most lo hi xs = true) (hx : xs[k]? = some x) : lo ≤ x ∧ x ≤ hi := by
  simp only [listOk, Bool.and_eq_true, List.all_eq_true] at h
  have := h.1 x (List.mem_of_getElem? hx)
  simpa [inR] using this

theorem listOk_le {most lo hi : Int} {xs : List Int} {n : Nat} (h : listOk most lo hi xs = true) (hl : xs.length = n) : (n : Int) ≤ most := by
  simp only [listOk, Bool.and_eq_true, decide_eq_true_eq] at h
  omega

theorem isField_any (a : Option Addr) (n c : Nat) (xs : List Int) (w : World) (h : Row w 1 a n (ints xs)) (hn : n ≤ 1048576) :
    Calls Try.prog 49 #[.slice a n c] w fun e w' => e = .returned (.bool (xs.all (inR 0 10000))) ∧ w = w' := by
  go_enter Try.func49, Try.ntmps49
  go_wp2_with (go_at_call 65; refine (areWithin_any _ _ _ _ _ _ _ h hn).mono ?_; rintro e w' ⟨rfl, rfl⟩)
  go_ret
  exact ⟨rfl, rfl⟩

/-! ### the statements' own helpers -/
theorem lset {z : Value} {xs : List Int} {k n : Nat} {x : Int} (hl : xs.length = n) (hx : xs[k]? = some x) :
    (ints (xs.take k) ++ List.replicate (n - k) z).set k (.int .i64 x) = ints (xs.take (k + 1)) ++ List.replicate (n - (k + 1)) z := by
  have hk : k < n := by have := (List.getElem?_eq_some_iff.1 hx).1; omega
  have hlen : (ints (xs.take k)).length = k := by rw [ints_length, List.length_take]; omega
  rw [take_snoc hx, ints_app, List.append_assoc, List.set_append_right _ _ (by omega), hlen, Nat.sub_self]
  rw [show n - k = (n - (k + 1)) + 1 from by omega, List.replicate_succ]
  rfl

theorem ext_snoc {α : Type} {xs ys : List α} {k : Nat} {x : α} (h : xs.take k = ys.take k) (hx : xs[k]? = some x) (hy : ys[k]? = some x) : xs.take (k + 1) = ys.take (k + 1) := by
  rw [take_snoc hx, take_snoc hy, h]
theorem ext_not {α : Type} {xs ys : List α} {k : Nat} {x y : α} (hx : xs[k]? = some x) (hy : ys[k]? = some y) (hne : x ≠ y) : xs ≠ ys := by
  rintro rfl; rw [hx] at hy; injection hy with hy; exact hne hy

theorem eqInt64S_any (a b : Option Addr) (n m c d : Nat) (xs ys : List Int) (w : World) (hxs : Row w 1 a n (ints xs)) (hys : Row w 1 b m (ints ys)) (hn : n ≤ 1048576) :
    Calls Try.prog 37 #[.slice a n c, .slice b m d] w fun e w' => e = .returned (.bool (decide (xs = ys))) ∧ Below w.heap.size w w' := by
  by_cases hnm : n = m
  · subst hnm
    go_enter Try.func37, Try.ntmps37
    go_wp2
    go_loopw [5] (fun i wr => ∃ k : Nat, k ≤ n ∧ i = .int .i64 k ∧ Hid (xs.take k = ys.take k) ∧ Below w.heap.size w wr) (fun i _ => n - (intOf i).toNat)
    case atStart => exact ⟨0, Nat.zero_le _, rfl, by unfold Hid; simp, Below.refl _ _⟩
    case round =>
      obtain ⟨k, hk, rfl, hall, hbel⟩ := hrel
      by_cases hlt : k < n
      · obtain ⟨b1, off1, x, rfl, hc, hx⟩ := (hxs.below hbel (Nat.le_refl _)).at_ hlt
        obtain ⟨b2, off2, y, rfl, hd, hy⟩ := (hys.below hbel (Nat.le_refl _)).at_ hlt
        have hi : (k : Int) < (n : Int) := by omega
        by_cases hxy : x = y
        · subst hxy
          go_wp2_with fail
          go_quiet (fail)
          go_wp2
          go_roundw
          case rel => exact ⟨k + 1, by omega, by go_num, ext_snoc hall.out hx.out hy.out, bdn hbel _⟩
          case measure => simp [intOf]; omega
        · have hne : (x == y) = false := by simpa using hxy
          have hne2 : (x != y) = true := by simpa using hxy
          go_wp2_with fail
          go_quiet (fail)
          go_wp2
          go_ret
          exact ⟨by simp [ext_not hx.out hy.out hxy], bdn hbel _⟩
      · go_wp2
        go_ret
        refine ⟨?_, hbel⟩
        have := hall.out
        rw [take_done hxs.len hk hlt, take_done hys.len hk hlt] at this
        simp [this]
  · have hne : ((n : Int) == (m : Int)) = false := by simp; omega
    have hne2 : ((n : Int) != (m : Int)) = true := by simp; omega
    go_enter Try.func37, Try.ntmps37
    go_wp2
    go_ret
    refine ⟨?_, Below.refl _ _⟩
    have : xs ≠ ys := by rintro rfl; exact hnm (hxs.len.symm.trans hys.len)
    simp [this]

/-- What 'mark' writes: k, k + 1, .. -/
def marks (k : Int) (n : Nat) : List Int := (List.range n).map fun (j : Nat) => k + (j : Int)
theorem marks_length (k : Int) (n : Nat) : (marks k n).length = n := by simp [marks]
theorem marks_get (k : Int) {n j : Nat} (h : j < n) : (marks k n)[j]? = some (k + j) := by simp [marks, h]

theorem mset {xs : List Int} {j n : Nat} {m : Int} (hl : xs.length = n) (hj : j < n) :
    (ints (marks m j) ++ (ints xs).drop j).set j (.int .i64 (m + j)) = ints (marks m (j + 1)) ++ (ints xs).drop (j + 1) := by
  have hlen : (ints (marks m j)).length = j := by rw [ints_length, marks_length]
  rw [List.set_append_right _ _ (by omega), hlen, Nat.sub_self, List.drop_eq_getElem_cons (by rw [ints_length]; omega), List.set_cons_zero]
  simp [marks, List.range_succ, ints]

theorem markInt64S_any (a : Option Addr) (n c lo hi : Nat) (xs : List Int) (m : Int) (w : World) (h : Own w lo hi 2 1 a n c (ints xs)) (hn : n ≤ 1048576) (hm0 : 0 ≤ m) (hm : m ≤ 1099511627776) :
    Calls Try.prog 40 #[.slice a n c, .int .i64 m] w fun e w' => e = .returned (.int .i64 (m + n)) ∧ Own w' lo hi 2 1 a n c (ints (marks m n)) ∧ w.grownBy w' (Value.slice a n c).ownBlock := by
  have hl := Lib.hid h.row.len
  go_enter Try.func40, Try.ntmps40
  go_wp2
  go_loopw [1, 5] (fun p i wr => ∃ k : Nat, k ≤ n ∧ i = .int .i64 k ∧ p = .int .i64 (m + k) ∧ Own wr lo hi 2 1 a n c (ints (marks m k) ++ (ints xs).drop k) ∧ w.grownBy wr (Value.slice a n c).ownBlock) (fun _ i _ => n - (intOf i).toNat)
  case atStart => exact ⟨0, Nat.zero_le _, rfl, by simp, by simpa [marks, ints] using h, World.grownBy.refl _ _⟩
  case round =>
    obtain ⟨k, hk, rfl, rfl, hown, hg⟩ := hrel
    by_cases hlt : k < n
    · obtain ⟨g, rfl, -, -, -⟩ := hown.head (by omega)
      have hfz := hown.frozenAt k
      have hst := hown.stored k (.int .i64 (m + k))
      have hcell : ∃ v, wr.cell? ⟨g, k, none⟩ = some v := by
        refine ⟨_, (hown.cellAt k (by omega)).trans (List.getElem?_eq_getElem ?_)⟩
        have := hown.len; omega
      obtain ⟨v, hcv⟩ := hcell
      rw [mset hl.out hlt] at hst
      have H := Lib.hid hst; clear hst hown
      go_wp2
      go_roundw
      case rel => exact ⟨k + 1, by omega, by go_num, by go_num, H.out.1, hg.trans H.out.2⟩
      case measure => simp [intOf]; omega
    · go_wp2
      go_ret
      obtain rfl : k = n := by omega
      rw [List.drop_of_length_le (by rw [ints_length, hl.out]; omega), List.append_nil] at hown
      exact ⟨rfl, hown, hg⟩

theorem heldInt64S_any (a : Option Addr) (n c : Nat) (m : Int) (w : World) (h : Row w 1 a n (ints (marks m n))) (hn : n ≤ 1048576) (hm0 : 0 ≤ m) (hm : m ≤ 1099511627776) :
    Calls Try.prog 42 #[.slice a n c, .int .i64 m] w fun e w' => e = .returned (.int .i64 (m + n)) ∧ Below w.heap.size w w' := by
  go_enter Try.func42, Try.ntmps42
  go_wp2
  go_loop [1, 5] (fun p i => ∃ k : Nat, k ≤ n ∧ i = .int .i64 k ∧ p = .int .i64 (m + k)) (fun _ i => n - (intOf i).toNat)
  case atStart => exact ⟨0, Nat.zero_le _, rfl, by simp⟩
  case round =>
    obtain ⟨k, hk, rfl, rfl⟩ := hrel
    by_cases hlt : k < n
    · obtain ⟨b, off, x, rfl, hc, hx⟩ := h.at_ hlt
      obtain rfl : m + k = x := by have := hx.out; rw [marks_get m hlt] at this; injection this
      clear hx
      go_wp2
      go_round
      case rel => exact ⟨k + 1, by omega, by go_num, by go_num⟩
      case measure => simp [intOf]; omega
    · go_wp2
      go_ret
      obtain rfl : k = n := by omega
      exact ⟨rfl, Below.refl _ _⟩
end Go.Proofs.Ytciicolknphcnaa
