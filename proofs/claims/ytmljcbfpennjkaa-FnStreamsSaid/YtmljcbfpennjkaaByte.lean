/- The eight bits of a byte; a check number's two bytes. -/
import Derived.Test.YtmljcbfpennjkaaPFrame
import Derived.Laws.BitsAllLaws
import Derived.Laws.BitsLemmas
import Derived.Outline
namespace Go.Proofs.Ytmljcbfpennjkaa
open Go.RowKit
set_option maxRecDepth 100000
set_option linter.unusedVariables false

theorem Own.litE (w : World) (cs : List Value) (E : TypeId) {n : Nat} (hn : cs.length = n) (hm : n ≤ maxLen) : Own (w.alloc (.cells cs.toArray E)) w.heap.size (w.alloc (.cells cs.toArray E)).heap.size E 1 (some ⟨w.heap.size, 0, none⟩) n n cs := by
  subst hn
  refine ⟨?_, fun g hg => by simp [Value.ownBlock] at hg; simp; omega⟩
  exact World.ownsRow_lit w cs.toArray cs.length (Nat.le_refl _) hm (by simp)

theorem bit_and1 (x j : Nat) (hx : x < 65536) : bits .and .i64 ((x : Int) / 2 ^ j) 1 = ((x / 2 ^ j % 2 : Nat) : Int) := by
  rw [div_cast, band1 _ (div_lt x j (by omega))]
theorem band8 (a : Nat) (ha : a < 9223372036854775808) : bits .and .i64 (a : Int) 255 = ((a % 256 : Nat) : Int) := by
  rw [show (255 : Int) = ((255 : Nat) : Int) from rfl, i64_and_nat a 255 ha (by omega), show 255 = 2 ^ 8 - 1 from rfl, Nat.and_two_pow_sub_one_eq_mod]

set_option maxHeartbeats 1600000 in
theorem bitsOf8_any (x : Nat) (w : World) (hx : x < 65536) :
    Calls Try.prog 73 #[.int .i64 (x : Int), .int .i64 8] w fun e w' => ∃ a c, e = .returned (.slice a 8 c) ∧ Own w' w.heap.size w'.heap.size 2 1 a 8 c (ints (byteL x)) ∧ Below w.heap.size w w' := by
  have hmk : ∀ w, (Instr.makeSlice 22 (.int .i64 8) (.int .i64 8)).run Try.prog w = .ok (.slice (some ⟨w.heap.size, 0, none⟩) 8 8) (w.alloc (.cells (madeCells #[.int .i64 0] 8) 2)) := run_make_row' (P := Try.prog) 22 2 (.int .i64 0) 8 Try.underlying22 info_i64 rfl .i64 .i64 8 (by omega) (by omega)
  go_enter Try.func73, Try.ntmps73
  go_wp2
  go_loopw [11] (fun i wr => ∃ k : Nat, k ≤ 8 ∧ i = .int .i64 k ∧ Own wr w.heap.size (w.heap.size + 1) 2 1 (some ⟨w.heap.size, 0, none⟩) 8 8 (ints ((byteL x).take k) ++ List.replicate (8 - k) (.int .i64 0)) ∧ Below w.heap.size w wr ∧ w.heap.size < wr.heap.size) (fun i _ => 8 - (intOf i).toNat)
  case atStart => exact ⟨0, Nat.zero_le _, rfl, by simpa [ints] using Own.made w (.int .i64 0) (n := 8) (E := 2) (by simp only [maxLen]; omega), (Below.refl _ _).alloc (Nat.le_refl _) _, by simp⟩
  case round =>
    obtain ⟨k, hk, rfl, hown, hbel, hsz⟩ := hrel
    by_cases hlt : k < 8
    · obtain ⟨j, hj⟩ : ∃ j : Nat, 7 - k = j := ⟨_, rfl⟩
      have hfz := hown.frozenAt k
      have hst := hown.stored k (.int .i64 ((x / 2 ^ j % 2 : Nat) : Int))
      have hcell : ∃ v, wr.cell? ⟨w.heap.size, k, none⟩ = some v := by
        refine ⟨_, (hown.cellAt k (by omega)).trans (List.getElem?_eq_getElem ?_)⟩
        have := hown.len; omega
      obtain ⟨v, hcv⟩ := hcell
      rw [lset (by rw [byteL_length]) (by rw [byteL_get x hlt, hj])] at hst
      have H := Lib.hid hst; clear hst hown
      have hjI : (7 : Int) - (k : Int) = (j : Int) := by omega
      have hjI2 : (8 : Int) - 1 - (k : Int) = (j : Int) := by omega
      have hb := bit_and1 x j hx
      go_wp2
      go_roundw
      case rel => exact ⟨k + 1, by omega, by go_num, H.out.1, hbel.setCell (Nat.le_refl _) _, by simp [World.setCell]; omega⟩
      case measure => simp [intOf] <;> omega
    · obtain rfl : k = 8 := by omega
      go_wp2
      go_ret
      refine ⟨_, _, rfl, ?_, hbel⟩
      rw [List.take_of_length_le (by rw [byteL_length]; omega)] at hown
      simpa using hown.mono (Nat.le_refl _) (by omega)

theorem flag_impl (w : World) : Calls Try.prog 74 #[] w fun e w' => ∃ a c, e = .returned (.slice a 8 c) ∧ Own w' w.heap.size w'.heap.size 2 1 a 8 c (ints flagL) ∧ Below w.heap.size w w' := by
  go_enter Try.func74, Try.ntmps74
  go_wp2
  go_ret
  exact ⟨_, _, rfl, Own.litE _ (ints flagL) _ (by simp [flagL, ints]) (by simp only [maxLen]; omega), (Below.refl _ _).alloc (Nat.le_refl _) _⟩
theorem flag_spec (w : World) : Calls Try.prog 70 #[] w fun e w' => ∃ a c, e = .returned (.slice a 8 c) ∧ Own w' w.heap.size w'.heap.size 2 1 a 8 c (ints flagL) ∧ Below w.heap.size w w' := by
  go_enter Try.func70, Try.ntmps70
  go_wp2
  go_ret
  exact ⟨_, _, rfl, Own.litE _ (ints flagL) _ (by simp [flagL, ints]) (by simp only [maxLen]; omega), (Below.refl _ _).alloc (Nat.le_refl _) _⟩
end Go.Proofs.Ytmljcbfpennjkaa
