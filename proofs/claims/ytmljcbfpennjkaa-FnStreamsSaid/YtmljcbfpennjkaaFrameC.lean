/- FrameBits by both programs: the contracts; the statements' helpers on frames. -/
import Derived.Test.YtmljcbfpennjkaaFrameB
namespace Go.Proofs.Ytmljcbfpennjkaa
open Go.RowKit
set_option maxRecDepth 100000
set_option linter.unusedVariables false

theorem frameBits_impl (k m : Int) (a : Option Addr) (n c : Nat) (xs : List Int) (w : World) (h : Row w 1 a n (ints xs)) (hn : n ≤ 1048576) :
    Calls Try.prog 11 #[.agg #[.int .i64 k, .int .i64 m, .slice a n c]] w fun e w' => ∃ a n cp, e = .returned (.tuple #[.slice a n cp, .int .i64 (frameBits k m xs).2]) ∧ Own w' w.heap.size w'.heap.size 2 1 a n cp (ints (frameBits k m xs).1) ∧ Below w.heap.size w w' := by
  have B0 := (Below.refl w.heap.size w).alloc (Nat.le_refl _) (.cells #[.int .i64 k, .int .i64 m, .slice a n c] 28)
  have h' := h.alloc (.cells #[.int .i64 k, .int .i64 m, .slice a n c] 28)
  have K := Lib.hid (Blk.new w 28 #[.int .i64 k, .int .i64 m, .slice a n c])
  cases hok : frameOk k m xs
  · rw [frameBits_no hok]
    go_enter Try.func11, Try.ntmps11
    go_wp2_with fail
    go_at_call 34
    refine (isFrame_impl _ _ _ _ _ _ _ h' hn).mono ?_
    rintro e w1 ⟨rfl, b⟩
    rw [hok]
    go_wp2
    go_ret2
    exact ⟨_, _, _, rfl, Own.nil_ _ _ _ _ _, B0.trans (b.mono B0.size)⟩
  · rw [frameBits_yes hok]
    go_enter Try.func11, Try.ntmps11
    go_wp2_with fail
    go_at_call 34
    refine (isFrame_impl _ _ _ _ _ _ _ h' hn).mono ?_
    rintro e w1 ⟨rfl, b⟩
    rw [hok]
    replace K := Lib.hid (K.out.belowSelf b)
    have B1 := B0.trans (b.mono B0.size)
    have h1 := h.below B1 (Nat.le_refl _)
    have hlt := K.out.lt
    have k0 : w1.cell? ⟨w.heap.size, 0, none⟩ = some (.int .i64 k) := K.out.cell 0
    have k1 : w1.cell? ⟨w.heap.size, 1, none⟩ = some (.int .i64 m) := K.out.cell 1
    have k2 : w1.cell? ⟨w.heap.size, 2, none⟩ = some (.slice a n c) := K.out.cell 2
    clear b
    go_wp2_with fail
    go_at_call 45
    refine (frame_impl _ _ _ _ _ _ _ h1 hok).mono ?_
    rintro e w2 ⟨a2, n2, c2, rfl, O2, b2⟩
    go_wp2
    go_ret2
    exact ⟨_, _, _, rfl, O2.mono B1.size (Nat.le_refl _), B1.trans (b2.mono B1.size)⟩

theorem frameBits_spec (k m : Int) (a : Option Addr) (n c : Nat) (xs : List Int) (w : World) (h : Row w 1 a n (ints xs)) (hn : n ≤ 1048576) :
    Calls Try.prog 9 #[.agg #[.int .i64 k, .int .i64 m, .slice a n c]] w fun e w' => ∃ a n cp, e = .returned (.tuple #[.slice a n cp, .int .i64 (frameBits k m xs).2]) ∧ Own w' w.heap.size w'.heap.size 2 1 a n cp (ints (frameBits k m xs).1) ∧ Below w.heap.size w w' := by
  have B0 := (Below.refl w.heap.size w).alloc (Nat.le_refl _) (.cells #[.int .i64 k, .int .i64 m, .slice a n c] 28)
  have h' := h.alloc (.cells #[.int .i64 k, .int .i64 m, .slice a n c] 28)
  have K := Lib.hid (Blk.new w 28 #[.int .i64 k, .int .i64 m, .slice a n c])
  cases hok : frameOk k m xs
  · rw [frameBits_no hok]
    go_enter Try.func9, Try.ntmps9
    go_wp2_with fail
    go_at_call 35
    refine (isFrame_spec _ _ _ _ _ _ _ h' hn).mono ?_
    rintro e w1 ⟨rfl, b⟩
    rw [hok]
    go_wp2
    go_ret2
    exact ⟨_, _, _, rfl, Own.nil_ _ _ _ _ _, B0.trans (b.mono B0.size)⟩
  · rw [frameBits_yes hok]
    go_enter Try.func9, Try.ntmps9
    go_wp2_with fail
    go_at_call 35
    refine (isFrame_spec _ _ _ _ _ _ _ h' hn).mono ?_
    rintro e w1 ⟨rfl, b⟩
    rw [hok]
    replace K := Lib.hid (K.out.belowSelf b)
    have B1 := B0.trans (b.mono B0.size)
    have h1 := h.below B1 (Nat.le_refl _)
    have hlt := K.out.lt
    have k0 : w1.cell? ⟨w.heap.size, 0, none⟩ = some (.int .i64 k) := K.out.cell 0
    have k1 : w1.cell? ⟨w.heap.size, 1, none⟩ = some (.int .i64 m) := K.out.cell 1
    have k2 : w1.cell? ⟨w.heap.size, 2, none⟩ = some (.slice a n c) := K.out.cell 2
    clear b
    go_wp2_with fail
    go_at_call 44
    refine (frame_spec _ _ _ _ _ _ _ h1 hok).mono ?_
    rintro e w2 ⟨a2, n2, c2, rfl, O2, b2⟩
    go_wp2
    go_ret2
    exact ⟨_, _, _, rfl, O2.mono B1.size (Nat.le_refl _), B1.trans (b2.mono B1.size)⟩

theorem markFrame_any (k m : Int) (a : Option Addr) (n c lo hi : Nat) (xs : List Int) (l : Int) (w : World) (h : Own w lo hi 2 1 a n c (ints xs)) (hn : n ≤ 1048576) (hm0 : 0 ≤ l) (hm : l ≤ 1099511627776) :
    Calls Try.prog 14 #[.agg #[.int .i64 k, .int .i64 m, .slice a n c], .int .i64 l] w fun e w' => e = .returned (.int .i64 (l + n)) ∧ Own w' lo hi 2 1 a n c (ints (marks l n)) ∧ (w.alloc (.cells #[.int .i64 k, .int .i64 m, .slice a n c] 28)).grownBy w' (Value.slice a n c).ownBlock := by
  have h' := h.alloc (.cells #[.int .i64 k, .int .i64 m, .slice a n c] 28)
  go_enter Try.func14, Try.ntmps14
  go_wp2_with fail
  go_at_call 15
  refine (markInt64S_any _ _ _ _ _ _ _ _ h' hn hm0 hm).mono ?_
  rintro e w1 ⟨rfl, o, hg⟩
  go_wp2
  go_ret
  exact ⟨rfl, o, hg⟩

theorem heldFrame_any (k m : Int) (a : Option Addr) (n c : Nat) (l : Int) (w : World) (h : Row w 1 a n (ints (marks l n))) (hn : n ≤ 1048576) (hm0 : 0 ≤ l) (hm : l ≤ 1099511627776) :
    Calls Try.prog 20 #[.agg #[.int .i64 k, .int .i64 m, .slice a n c], .int .i64 l] w fun e w' => e = .returned (.int .i64 (l + n)) ∧ Below w.heap.size w w' := by
  have h' := h.alloc (.cells #[.int .i64 k, .int .i64 m, .slice a n c] 28)
  have B := (Below.refl w.heap.size w).alloc (Nat.le_refl _) (.cells #[.int .i64 k, .int .i64 m, .slice a n c] 28)
  go_enter Try.func20, Try.ntmps20
  go_wp2_with fail
  go_at_call 16
  refine (heldInt64S_any _ _ _ _ _ h' hn hm0 hm).mono ?_
  rintro e w1 ⟨rfl, b⟩
  go_wp2
  go_ret
  exact ⟨rfl, B.trans (b.mono B.size)⟩
end Go.Proofs.Ytmljcbfpennjkaa
