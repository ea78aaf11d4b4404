/- Contracts of the small functions on integers and on lists of integers that the statements share. -/
import Derived.Test.YtmljcbfpennjkaaRows
import Derived.Test.YtmljcbfpennjkaaMem
import Derived.WalkKit
import Derived.WalkSpells
import Derived.WalkLawsBesides
import Derived.Handy
import Derived.BigQuiet
import Derived.Deep.QuietTactic
import Derived.Deep.OwnRows
import Derived.Outline
namespace Go.Proofs.Ytmljcbfpennjkaa
open Go.RowKit
set_option maxRecDepth 100000
set_option linter.unusedVariables false

theorem info_i64 : (Try.prog.info? 2).map (fun i => (i.zero, i.size, i.bytes)) = some (some (.int .i64 0), 1, 8) := by kernel_rfl

/-- 'x' lies in lo .. hi. -/
def inR (lo hi x : Int) : Bool := decide (lo ≤ x) && decide (x ≤ hi)

theorem within_any (x lo hi : Int) (w : World) :
    Calls Try.prog 62 #[.int .i64 x, .int .i64 lo, .int .i64 hi] w fun e w' => e = .returned (.bool (inR lo hi x)) ∧ w = w' := by
  go_enter Try.func62, Try.ntmps62
  go_wp2
  all_goals (go_ret; exact ⟨by simp [inR]; omega, rfl⟩)

theorem l01In_any (x lo hi : Int) (w : World) :
    Calls Try.prog 63 #[.int .i64 x, .int .i64 lo, .int .i64 hi] w fun e w' => e = .returned (.bool (inR lo hi x)) ∧ w = w' := by
  go_enter Try.func63, Try.ntmps63
  go_wp2
  all_goals (go_ret; exact ⟨by simp [inR]; omega, rfl⟩)

theorem areWithin_any (a : Option Addr) (n c : Nat) (xs : List Int) (lo hi : Int) (w : World) (h : Row w 1 a n (ints xs)) (hn : n ≤ 1048576) :
    Calls Try.prog 79 #[.slice a n c, .int .i64 lo, .int .i64 hi] w fun e w' => e = .returned (.bool (xs.all (inR lo hi))) ∧ w = w' := by
  go_enter Try.func79, Try.ntmps79
  go_wp2
  go_loop [11] (fun i => ∃ k : Nat, k ≤ n ∧ i = .int .i64 k ∧ Hid ((xs.take k).all (inR lo hi) = true)) (fun i => n - (intOf i).toNat)
  case atStart => exact ⟨0, Nat.zero_le _, rfl, by unfold Hid; simp⟩
  case round =>
    obtain ⟨k, hk, rfl, hall⟩ := hrel
    by_cases hlt : k < n
    · obtain ⟨b, off, x, rfl, hc, hx⟩ := h.at_ hlt
      cases hin : inR lo hi x
      · go_wp2_with (go_at_call 62; refine (within_any _ _ _ _).mono ?_; rintro e w' ⟨rfl, rfl⟩)
        go_ret
        exact ⟨by rw [all_false hx.out hin]; rfl, rfl⟩
      · go_wp2_with (go_at_call 62; refine (within_any _ _ _ _).mono ?_; rintro e w' ⟨rfl, rfl⟩)
        go_round
        case rel => exact ⟨k + 1, by omega, by go_num, all_snoc hx.out hall.out hin⟩
        case measure => simp [intOf]; omega
    · go_wp2
      go_ret
      exact ⟨by rw [all_done h.len hk hlt hall.out]; rfl, rfl⟩

/-- The reference's test of a list: at most 'most' elements, all in lo .. hi. -/
def listOk (most lo hi : Int) (xs : List Int) : Bool := xs.all (inR lo hi) && decide ((xs.length : Int) ≤ most)

theorem l01Within_any (a : Option Addr) (n c : Nat) (xs : List Int) (most lo hi : Int) (w : World) (h : Row w 1 a n (ints xs)) (hn : n ≤ 1048576) :
    Calls Try.prog 60 #[.slice a n c, .int .i64 most, .int .i64 lo, .int .i64 hi] w fun e w' => e = .returned (.bool (listOk most lo hi xs)) ∧ w = w' := by
  go_enter Try.func60, Try.ntmps60
  go_wp2
  go_loop [9] (fun i => ∃ k : Nat, k ≤ n ∧ i = .int .i64 k ∧ Hid ((xs.take k).all (inR lo hi) = true)) (fun i => n - (intOf i).toNat)
  case atStart => exact ⟨0, Nat.zero_le _, rfl, by unfold Hid; simp⟩
  case round =>
    obtain ⟨k, hk, rfl, hall⟩ := hrel
    by_cases hlt : k < n
    · obtain ⟨b, off, x, rfl, hc, hx⟩ := h.at_ hlt
      cases hin : inR lo hi x
      · go_wp2_with (go_at_call 63; refine (l01In_any _ _ _ _).mono ?_; rintro e w' ⟨rfl, rfl⟩)
        go_ret
        exact ⟨by rw [listOk, all_false hx.out hin]; rfl, rfl⟩
      · go_wp2_with (go_at_call 63; refine (l01In_any _ _ _ _).mono ?_; rintro e w' ⟨rfl, rfl⟩)
        go_round
        case rel => exact ⟨k + 1, by omega, by go_num, all_snoc hx.out hall.out hin⟩
        case measure => simp [intOf]; omega
    · go_wp2
      go_ret
      exact ⟨by rw [listOk, all_done h.len hk hlt hall.out, h.len]; rfl, rfl⟩

theorem listOk_len {most lo hi : Int} {xs : List Int} {n : Nat} (hl : xs.length = n) (h : ¬ (n : Int) ≤ most) : listOk most lo hi xs = false := by
  subst hl; simp [listOk, h]

theorem listOk_all {most lo hi : Int} {xs : List Int} {n : Nat} (hl : xs.length = n) (h : (n : Int) ≤ most) : listOk most lo hi xs = xs.all (inR lo hi) := by
  subst hl; simp [listOk, h]

theorem listOk_get {most lo hi x : Int} {xs : List Int} {k : Nat} (h : listOk most lo hi xs = true) (hx : xs[k]? = some x) : lo ≤ x ∧ x ≤ hi := by
  simp only [listOk, Bool.and_eq_true, List.all_eq_true] at h
  have := h.1 x (List.mem_of_getElem? hx)
  simpa [inR] using this

theorem listOk_le {most lo hi : Int} {xs : List Int} {n : Nat} (h : listOk most lo hi xs = true) (hl : xs.length = n) : (n : Int) ≤ most := by
  simp only [listOk, Bool.and_eq_true, decide_eq_true_eq] at h
  omega

theorem isBits_any (a : Option Addr) (n c : Nat) (xs : List Int) (most : Int) (w : World) (h : Row w 1 a n (ints xs)) (hn : n ≤ 1048576) :
    Calls Try.prog 48 #[.slice a n c, .int .i64 most] w fun e w' => e = .returned (.bool (listOk most 0 1 xs)) ∧ w = w' := by
  by_cases hm : (n : Int) ≤ most
  · go_enter Try.func48, Try.ntmps48
    go_wp2_with (go_at_call 79; refine (areWithin_any _ _ _ _ _ _ _ h hn).mono ?_; rintro e w' ⟨rfl, rfl⟩)
    go_ret
    exact ⟨by rw [listOk_all h.len hm]; rfl, rfl⟩
  · go_enter Try.func48, Try.ntmps48
    go_wp2
    go_ret
    exact ⟨by rw [listOk_len h.len (by omega)]; rfl, rfl⟩

theorem areBytes_any (a : Option Addr) (n c : Nat) (xs : List Int) (most : Int) (w : World) (h : Row w 1 a n (ints xs)) (hn : n ≤ 1048576) :
    Calls Try.prog 58 #[.slice a n c, .int .i64 most] w fun e w' => e = .returned (.bool (listOk most 0 255 xs)) ∧ w = w' := by
  by_cases hm : (n : Int) ≤ most
  · go_enter Try.func58, Try.ntmps58
    go_wp2_with (go_at_call 79; refine (areWithin_any _ _ _ _ _ _ _ h hn).mono ?_; rintro e w' ⟨rfl, rfl⟩)
    go_ret
    exact ⟨by rw [listOk_all h.len hm]; rfl, rfl⟩
  · go_enter Try.func58, Try.ntmps58
    go_wp2
    go_ret
    exact ⟨by rw [listOk_len h.len (by omega)]; rfl, rfl⟩

theorem l25Bits_any (a : Option Addr) (n c : Nat) (xs : List Int) (w : World) (h : Row w 1 a n (ints xs)) (hn : n ≤ 1048576) :
    Calls Try.prog 46 #[.slice a n c] w fun e w' => e = .returned (.bool (listOk 1200 0 1 xs)) ∧ w = w' := by
  go_enter Try.func46, Try.ntmps46
  go_wp2_with (go_at_call 60; refine (l01Within_any _ _ _ _ _ _ _ _ h hn).mono ?_; rintro e w' ⟨rfl, rfl⟩)
  go_ret
  exact ⟨rfl, rfl⟩

/-! ### the statements' own helpers -/
theorem lset {z : Value} {xs : List Int} {k n : Nat} {x : Int} (hl : xs.length = n) (hx : xs[k]? = some x) :
    (ints (xs.take k) ++ List.replicate (n - k) z).set k (.int .i64 x) = ints (xs.take (k + 1)) ++ List.replicate (n - (k + 1)) z := by
  have hk : k < n := by have := (List.getElem?_eq_some_iff.1 hx).1; omega
  have hlen : (ints (xs.take k)).length = k := by rw [ints_length, List.length_take]; omega
  rw [take_snoc hx, ints_app, List.append_assoc, List.set_append_right _ _ (by omega), hlen, Nat.sub_self]
  rw [show n - k = (n - (k + 1)) + 1 from by omega, List.replicate_succ]
  rfl

theorem toInt64S_any (a : Option Addr) (n c : Nat) (xs : List Int) (w : World) (h : Row w 1 a n (ints xs)) (hn : n ≤ 1048576) :
    Calls Try.prog 18 #[.slice a n c] w fun e w' => ∃ a' c', e = .returned (.slice a' n c') ∧ Own w' w.heap.size w'.heap.size 2 1 a' n c' (ints xs) ∧ Below w.heap.size w w' := by
  have hmk := run_make_row' (P := Try.prog) 22 2 (.int .i64 0) 8 Try.underlying22 info_i64 rfl .i64 .i64 n (by omega) (by omega)
  go_enter Try.func18, Try.ntmps18
  go_wp2
  go_loopw [4] (fun i wr => ∃ k : Nat, k ≤ n ∧ i = .int .i64 k ∧ Own wr w.heap.size (w.heap.size + 1) 2 1 (some ⟨w.heap.size, 0, none⟩) n n (ints (xs.take k) ++ List.replicate (n - k) (.int .i64 0)) ∧ Below w.heap.size w wr ∧ w.heap.size < wr.heap.size) (fun i _ => n - (intOf i).toNat)
  case atStart => exact ⟨0, Nat.zero_le _, rfl, by simpa [ints] using Own.made w _ (by simp only [maxLen]; omega), (Below.refl _ _).alloc (Nat.le_refl _) _, by simp⟩
  case round =>
    obtain ⟨k, hk, rfl, hown, hbel, hsz⟩ := hrel
    by_cases hlt : k < n
    · obtain ⟨b, off, x, rfl, hc, hx⟩ := (h.below hbel (Nat.le_refl _)).at_ hlt
      have hfz := hown.frozenAt k
      have hst := hown.stored k (.int .i64 x)
      have hcell : ∃ v, wr.cell? ⟨w.heap.size, k, none⟩ = some v := by
        refine ⟨_, (hown.cellAt k (by omega)).trans (List.getElem?_eq_getElem ?_)⟩
        have := hown.len; omega
      obtain ⟨v, hcv⟩ := hcell
      rw [lset h.len hx.out] at hst
      have H := Lib.hid hst; clear hst hown
      go_wp2
      go_roundw
      case rel => exact ⟨k + 1, by omega, by go_num, H.out.1, hbel.setCell (Nat.le_refl _) _, by simp [World.setCell]; omega⟩
      case measure => simp [intOf]; omega
    · go_wp2
      go_ret
      refine ⟨_, _, rfl, ?_, hbel⟩
      rw [take_done h.len hk hlt, show n - k = 0 from by omega] at hown
      simpa using hown.mono (Nat.le_refl _) (by omega)

theorem ext_snoc {α : Type} {xs ys : List α} {k : Nat} {x : α} (h : xs.take k = ys.take k) (hx : xs[k]? = some x) (hy : ys[k]? = some x) : xs.take (k + 1) = ys.take (k + 1) := by
  rw [take_snoc hx, take_snoc hy, h]
theorem ext_not {α : Type} {xs ys : List α} {k : Nat} {x y : α} (hx : xs[k]? = some x) (hy : ys[k]? = some y) (hne : x ≠ y) : xs ≠ ys := by
  rintro rfl; rw [hx] at hy; injection hy with hy; exact hne hy

theorem eqInt64S_any (a b : Option Addr) (n m c d : Nat) (xs ys : List Int) (w : World) (hxs : Row w 1 a n (ints xs)) (hys : Row w 1 b m (ints ys)) (hn : n ≤ 1048576) :
    Calls Try.prog 12 #[.slice a n c, .slice b m d] w fun e w' => e = .returned (.bool (decide (xs = ys))) ∧ Below w.heap.size w w' := by
  by_cases hnm : n = m
  · subst hnm
    go_enter Try.func12, Try.ntmps12
    go_wp2
    go_loopw [5] (fun i wr => ∃ k : Nat, k ≤ n ∧ i = .int .i64 k ∧ Hid (xs.take k = ys.take k) ∧ Below w.heap.size w wr) (fun i _ => n - (intOf i).toNat)
    case atStart => exact ⟨0, Nat.zero_le _, rfl, by unfold Hid; simp, Below.refl _ _⟩
    case round =>
      obtain ⟨k, hk, rfl, hall, hbel⟩ := hrel
      by_cases hlt : k < n
      · obtain ⟨b1, off1, x, rfl, hc, hx⟩ := (hxs.below hbel (Nat.le_refl _)).at_ hlt
        obtain ⟨b2, off2, y, rfl, hd, hy⟩ := (hys.below hbel (Nat.le_refl _)).at_ hlt
        have hi : (k : Int) < (n : Int) := by omega
        by_cases hxy : x = y
        · subst hxy
          go_wp2_with fail
          go_quiet (fail)
          go_wp2
          go_roundw
          case rel => exact ⟨k + 1, by omega, by go_num, ext_snoc hall.out hx.out hy.out, bdn hbel _⟩
          case measure => simp [intOf]; omega
        · have hne : (x == y) = false := by simpa using hxy
          have hne2 : (x != y) = true := by simpa using hxy
          go_wp2_with fail
          go_quiet (fail)
          go_wp2
          go_ret
          exact ⟨by simp [ext_not hx.out hy.out hxy], bdn hbel _⟩
      · go_wp2
        go_ret
        refine ⟨?_, hbel⟩
        have := hall.out
        rw [take_done hxs.len hk hlt, take_done hys.len hk hlt] at this
        simp [this]
  · have hne : ((n : Int) == (m : Int)) = false := by simp; omega
    have hne2 : ((n : Int) != (m : Int)) = true := by simp; omega
    go_enter Try.func12, Try.ntmps12
    go_wp2
    go_ret
    refine ⟨?_, Below.refl _ _⟩
    have : xs ≠ ys := by rintro rfl; exact hnm (hxs.len.symm.trans hys.len)
    simp [this]

/-- What 'mark' writes: k, k + 1, .. -/
def marks (k : Int) (n : Nat) : List Int := (List.range n).map fun (j : Nat) => k + (j : Int)
theorem marks_length (k : Int) (n : Nat) : (marks k n).length = n := by simp [marks]
theorem marks_get (k : Int) {n j : Nat} (h : j < n) : (marks k n)[j]? = some (k + j) := by simp [marks, h]

theorem mset {xs : List Int} {j n : Nat} {m : Int} (hl : xs.length = n) (hj : j < n) :
    (ints (marks m j) ++ (ints xs).drop j).set j (.int .i64 (m + j)) = ints (marks m (j + 1)) ++ (ints xs).drop (j + 1) := by
  have hlen : (ints (marks m j)).length = j := by rw [ints_length, marks_length]
  rw [List.set_append_right _ _ (by omega), hlen, Nat.sub_self, List.drop_eq_getElem_cons (by rw [ints_length]; omega), List.set_cons_zero]
  simp [marks, List.range_succ, ints]

theorem markInt64S_any (a : Option Addr) (n c lo hi : Nat) (xs : List Int) (m : Int) (w : World) (h : Own w lo hi 2 1 a n c (ints xs)) (hn : n ≤ 1048576) (hm0 : 0 ≤ m) (hm : m ≤ 1099511627776) :
    Calls Try.prog 15 #[.slice a n c, .int .i64 m] w fun e w' => e = .returned (.int .i64 (m + n)) ∧ Own w' lo hi 2 1 a n c (ints (marks m n)) ∧ w.grownBy w' (Value.slice a n c).ownBlock := by
  have hl := Lib.hid h.row.len
  go_enter Try.func15, Try.ntmps15
  go_wp2
  go_loopw [1, 5] (fun p i wr => ∃ k : Nat, k ≤ n ∧ i = .int .i64 k ∧ p = .int .i64 (m + k) ∧ Own wr lo hi 2 1 a n c (ints (marks m k) ++ (ints xs).drop k) ∧ w.grownBy wr (Value.slice a n c).ownBlock) (fun _ i _ => n - (intOf i).toNat)
  case atStart => exact ⟨0, Nat.zero_le _, rfl, by simp, by simpa [marks, ints] using h, World.grownBy.refl _ _⟩
  case round =>
    obtain ⟨k, hk, rfl, rfl, hown, hg⟩ := hrel
    by_cases hlt : k < n
    · obtain ⟨g, rfl, -, -, -⟩ := hown.head (by omega)
      have hfz := hown.frozenAt k
      have hst := hown.stored k (.int .i64 (m + k))
      have hcell : ∃ v, wr.cell? ⟨g, k, none⟩ = some v := by
        refine ⟨_, (hown.cellAt k (by omega)).trans (List.getElem?_eq_getElem ?_)⟩
        have := hown.len; omega
      obtain ⟨v, hcv⟩ := hcell
      rw [mset hl.out hlt] at hst
      have H := Lib.hid hst; clear hst hown
      go_wp2
      go_roundw
      case rel => exact ⟨k + 1, by omega, by go_num, by go_num, H.out.1, hg.trans H.out.2⟩
      case measure => simp [intOf]; omega
    · go_wp2
      go_ret
      obtain rfl : k = n := by omega
      rw [List.drop_of_length_le (by rw [ints_length, hl.out]; omega), List.append_nil] at hown
      exact ⟨rfl, hown, hg⟩

theorem heldInt64S_any (a : Option Addr) (n c : Nat) (m : Int) (w : World) (h : Row w 1 a n (ints (marks m n))) (hn : n ≤ 1048576) (hm0 : 0 ≤ m) (hm : m ≤ 1099511627776) :
    Calls Try.prog 16 #[.slice a n c, .int .i64 m] w fun e w' => e = .returned (.int .i64 (m + n)) ∧ Below w.heap.size w w' := by
  go_enter Try.func16, Try.ntmps16
  go_wp2
  go_loop [1, 5] (fun p i => ∃ k : Nat, k ≤ n ∧ i = .int .i64 k ∧ p = .int .i64 (m + k)) (fun _ i => n - (intOf i).toNat)
  case atStart => exact ⟨0, Nat.zero_le _, rfl, by simp⟩
  case round =>
    obtain ⟨k, hk, rfl, rfl⟩ := hrel
    by_cases hlt : k < n
    · obtain ⟨b, off, x, rfl, hc, hx⟩ := h.at_ hlt
      obtain rfl : m + k = x := by have := hx.out; rw [marks_get m hlt] at this; injection this
      clear hx
      go_wp2
      go_round
      case rel => exact ⟨k + 1, by omega, by go_num, by go_num⟩
      case measure => simp [intOf]; omega
    · go_wp2
      go_ret
      obtain rfl : k = n := by omega
      exact ⟨rfl, Below.refl _ _⟩
end Go.Proofs.Ytmljcbfpennjkaa
