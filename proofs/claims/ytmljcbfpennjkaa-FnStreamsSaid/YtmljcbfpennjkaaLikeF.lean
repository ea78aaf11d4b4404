/- Two frames by value that hold the same, and the rows behind a change of the call's own block. -/
import Derived.Test.YtmljcbfpennjkaaDrawFr
import Derived.Test.YtmljcbfpennjkaaDice
import Derived.Test.YtmljcbfpennjkaaFramesM
import Derived.Test.YtmljcbfpennjkaaCrc
import Derived.Deep.QuietTactic
import Derived.BigQuiet
import Derived.Deep.RegionHeld3
import Derived.StillTailTactics
import Derived.Deep.DeepCutAuto
namespace Go.Proofs.Ytmljcbfpennjkaa
open Go.RowKit
set_option maxRecDepth 100000
set_option linter.unusedVariables false
set_option linter.unusedSimpArgs false

theorem Row.apart1 {w w' : World} {s n g : Nat} {a : Option Addr} {vs : List Value} (h : Row w s a n vs) (hs : 0 < s) (hg : w.grownBy w' (some g)) (hr : 0 < n → ∀ b off, a = some ⟨b, off, none⟩ → b ≠ g) : Row w' s a n vs := by
  rcases Nat.eq_zero_or_pos n with h0 | h0
  · exact ⟨h.1, fun hn => absurd hn (by omega)⟩
  · exact h.apart hs hg fun b off e h' => hr h0 b off e (by injection h' with h'; exact h'.symm)
theorem Row.lt {w : World} {s n : Nat} {a : Option Addr} {vs : List Value} (h : Row w s a n vs) (hs : 0 < s) : 0 < n → ∀ b off, a = some ⟨b, off, none⟩ → b < w.heap.size := by
  intro hn b off e
  obtain ⟨b', off', e', hc⟩ := h.2 hn
  rw [e] at e'
  injection e' with e'
  injection e' with e' _ _
  subst e'
  have h0 : 0 < vs.length := by rw [h.1]; exact Nat.mul_pos hn hs
  exact World.block_lt_of_cell? w _ (hc 0 vs[0] (List.getElem?_eq_getElem h0))

theorem wrong_val {X J : Nat} (hX : X ≤ 255) (hJ : J < 8) : Go.bits BinOp.xor IntKind.i64 (X : Int) (IntKind.i64.wrap (2 ^ min (IntKind.u64.wrap (J : Int)).toNat 64)) = ((X ^^^ 2 ^ J : Nat) : Int) := by
  have h1 : (IntKind.u64.wrap (J : Int)).toNat = J := by rw [IntKind.wrap_u64]; omega
  rw [h1, Nat.min_eq_left (by omega)]
  have hp : 2 ^ J ≤ 128 := by
    have := Nat.pow_le_pow_right (show 0 < 2 by omega) (show J ≤ 7 by omega)
    simpa using this
  have h2 : IntKind.i64.wrap ((2 : Int) ^ J) = ((2 ^ J : Nat) : Int) := by
    obtain ⟨M, hM⟩ : ∃ M, 2 ^ J = M := ⟨_, rfl⟩
    rw [show ((2 : Int) ^ J) = ((2 ^ J : Nat) : Int) by simp, IntKind.wrap_i64, hM]
    rw [hM] at hp
    omega
  rw [h2, i64_xor_nat _ _ (by omega) (by omega)]

theorem likeFrames_same (k m : Int) (a b : Option Addr) (n c d : Nat) (xs : List Int) (w : World) (hxs : Row w 1 a n (ints xs)) (hys : Row w 1 b n (ints xs)) (hn : n ≤ 1048576) :
    Calls Try.prog 33 #[.agg #[.int .i64 k, .int .i64 m, .slice a n c], .agg #[.int .i64 k, .int .i64 m, .slice b n d]] w fun e w' => e = .returned (.bool true) ∧ Below w.heap.size w w' := by
  have hx := (hxs.alloc (.cells #[.int .i64 k, .int .i64 m, .slice a n c] 28)).alloc (.cells #[.int .i64 k, .int .i64 m, .slice b n d] 28)
  have hy := (hys.alloc (.cells #[.int .i64 k, .int .i64 m, .slice a n c] 28)).alloc (.cells #[.int .i64 k, .int .i64 m, .slice b n d] 28)
  have e1 : (k == k) = true := by simp
  have e2 : (m == m) = true := by simp
  go_enter Try.func33, Try.ntmps33
  go_wp2_with (go_at_call 32; refine (likeInts_same _ _ _ _ _ _ _ hx hy hn).mono ?_; rintro e w' ⟨rfl, hb⟩)
  go_ret
  exact ⟨rfl, (((Below.refl w.heap.size w).alloc (Nat.le_refl _) _).alloc (by simp) _).trans (hb.mono (by simp; omega))⟩
end Go.Proofs.Ytmljcbfpennjkaa
