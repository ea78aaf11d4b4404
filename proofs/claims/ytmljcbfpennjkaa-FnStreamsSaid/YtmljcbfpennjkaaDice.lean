/- The laws' dice: roll, below. What is said of a number: that it lies in its range. -/
import Derived.Test.YtmljcbfpennjkaaSource
import Derived.Laws.BitsAllLaws
import Derived.Laws.BitsLemmas
import Derived.Deep.QuietTactic
import Derived.BigQuiet
import Derived.Outline
import Derived.Deep.Cut
namespace Go.Proofs.Ytmljcbfpennjkaa
open Go.RowKit
set_option maxRecDepth 100000
set_option linter.unusedVariables false

def U64 (x : Int) : Prop := 0 ≤ x ∧ x < 18446744073709551616
theorem U64.emod (x : Int) : U64 (x % 18446744073709551616) := ⟨Int.emod_nonneg _ (by omega), Int.emod_lt_of_pos _ (by omega)⟩

theorem U64.wrap (x : Int) : U64 (IntKind.u64.wrap x) := by rw [IntKind.wrap_u64]; exact U64.emod x

theorem dice_and {H : Int} (hU : U64 H) : ∃ X : Nat, wrap64 (bits .and .u64 (H / 8589934592) 16777215) = (X : Int) ∧ X < 16777216 := by
  obtain ⟨h0, h1⟩ := hU
  obtain ⟨Y, hY⟩ : ∃ Y : Nat, H / 8589934592 = (Y : Int) := ⟨(H / 8589934592).toNat, by omega⟩
  have hYb : Y < 18446744073709551616 := by omega
  have hle : Y &&& 16777215 ≤ 16777215 := Nat.and_le_right
  refine ⟨Y &&& 16777215, ?_, by omega⟩
  rw [hY, show (16777215 : Int) = ((16777215 : Nat) : Int) from rfl]
  have e : bits .and .u64 (Y : Int) ((16777215 : Nat) : Int) = ((Y &&& 16777215 : Nat) : Int) := by
    show IntKind.u64.wrap ((BitVec.ofInt 64 (Y : Int) &&& BitVec.ofInt 64 ((16777215 : Nat) : Int)).toNat : Int) = _
    rw [BitVec.toNat_and, BitVec.ofInt_natCast, BitVec.ofInt_natCast, BitVec.toNat_ofNat, BitVec.toNat_ofNat, Nat.mod_eq_of_lt (show Y < 2 ^ 64 by omega), Nat.mod_eq_of_lt (show 16777215 < 2 ^ 64 by omega), IntKind.wrap_u64]
    omega
  rw [e]
  unfold wrap64
  omega

/-- Block p holds dice over a code that lies below p. -/
def DiceOk (w : World) (p : Nat) : Prop := ∃ (a : Option Addr) (n c : Nat) (i h : Int) (bs : List Nat),
  Blk w p 75 #[.slice a n c, .int .i64 i, .int .u64 h] ∧ 0 ≤ i ∧ i ≤ n ∧ U64 h ∧ Code8 w a n bs ∧ (0 < n → ∀ b off, a = some ⟨b, off, none⟩ → b < p)
theorem DiceOk.lt {w : World} {p : Nat} (h : DiceOk w p) : p < w.heap.size := by obtain ⟨a, n, c, t, s, bs, h, _⟩ := h; exact h.lt
theorem DiceOk.keep {w w' : World} {p : Nat} (h : DiceOk w p) (hk : ∀ b, b ≤ p → w'.heap[b]? = w.heap[b]?) : DiceOk w' p := by
  obtain ⟨a, n, c, t, s, bs, h1, h2, h3, h4, ⟨h6, h6'⟩, h7⟩ := h
  refine ⟨a, n, c, t, s, bs, (hk p (Nat.le_refl _)).trans h1, h2, h3, h4, ⟨?_, h6'⟩, h7⟩
  rcases Nat.eq_zero_or_pos n with h0 | h0
  · exact ⟨h6.1, fun hn => absurd hn (by omega)⟩
  · exact h6.keep (fun b off e _ => hk b (Nat.le_of_lt (h7 h0 b off e))) (by omega)
theorem DiceOk.below {w w' : World} {p B : Nat} (h : DiceOk w p) (hb : Below B w w') (hp : p < B) : DiceOk w' p := h.keep fun b hb' => hb.block b (by omega)
theorem DiceOk.alloc {w : World} {p : Nat} (h : DiceOk w p) (o : Obj) : DiceOk (w.alloc o) p := h.below ((Below.refl _ _).alloc (Nat.le_refl _) o) h.lt

set_option maxHeartbeats 1600000 in
theorem roll_any (a : Option Addr) (n c : Nat) (bs : List Nat) (seed : Int) (w : World) (h : Code8 w a n bs) (hs : 0 ≤ seed ∧ seed ≤ 100000) :
    Calls Try.prog 36 #[.slice a n c, .int .u64 seed] w fun e w' => ∃ p, e = .returned (.pointer (some ⟨p, 0, none⟩)) ∧ p = w.heap.size ∧ DiceOk w' p ∧ Below w.heap.size w w' := by
  have HC := Lib.hid h
  have hn := h.2.1
  have hR := h.1
  clear h
  go_enter Try.func36, Try.ntmps36
  go_wp2
  go_loopw [6] (fun i wr => ∃ (k : Nat) (H : Int), k ≤ n ∧ i = .int .i64 k ∧ Hid (Blk wr w.heap.size 75 #[.slice a n c, .int .i64 0, .int .u64 H]) ∧ Hid (U64 H) ∧ Below w.heap.size w wr) (fun i _ => n - (intOf i).toNat)
  case atStart => exact ⟨0, _, Nat.zero_le _, rfl, Blk.new _ _ _, by unfold Hid U64; omega, (Below.refl _ _).alloc (Nat.le_refl _) _⟩
  case round =>
    obtain ⟨k, H, hk, rfl, hblk, hH, hbel⟩ := hrel
    by_cases hlt : k < n
    · obtain ⟨b, off, x, rfl, hc, hx⟩ := (hR.below hbel (Nat.le_refl _)).atB hlt
      have k2 : wr.cell? ⟨w.heap.size, 2, none⟩ = some (.int .u64 H) := hblk.out.cell 2
      have f2 := hblk.out.frozen 2
      have hi : (k : Int) < (n : Int) := by omega
      go_wp2_with fail
      go_region
      all_goals
        go_wp2
        go_roundw
        case rel => exact ⟨k + 1, _, by omega, by go_num, (hblk.out.set_ 2 _).drew, U64.wrap _, (hbel.setCell (p := ⟨w.heap.size, 2, none⟩) (Nat.le_refl _) _).drew⟩
        case measure => simp [intOf] <;> omega
    · have hb : 0 < n → ∀ b off, a = some ⟨b, off, none⟩ → b < w.heap.size := by
        intro h0 b off e
        obtain ⟨b', off', x, e', hc, -⟩ := hR.atB h0
        rw [e] at e'
        injection e' with e'
        injection e' with e' _ _
        subst e'
        exact World.block_lt_of_cell? w _ hc
      have HB2 := Lib.hid hb; clear hb
      have hR' := Lib.hid (HC.out.below hbel (Nat.le_refl _))
      go_wp2
      go_ret
      exact ⟨_, rfl, rfl, ⟨_, _, _, _, _, bs, hblk.out, by omega, by omega, hH.out, hR'.out, HB2.out⟩, hbel⟩

set_option maxHeartbeats 3200000 in
theorem below_any (p : Nat) (m : Int) (w : World) (h : DiceOk w p) (hm : 1 ≤ m ∧ m ≤ 1000000) :
    Calls Try.prog 37 #[.pointer (some ⟨p, 0, none⟩), .int .i64 m] w fun e w' => ∃ r : Int, e = .returned (.int .i64 r) ∧ 0 ≤ r ∧ r < m ∧ DiceOk w' p ∧ w.grownBy w' (some p) := by
  obtain ⟨a, n, c, i, hh, bs, hblk, hi0, hi1, hU, hC, hap⟩ := h
  have HC := Lib.hid hC
  have HA := Lib.hid hap
  have HB := Lib.hid hblk
  have HU := Lib.hid hU
  have k2 : w.cell? ⟨p, 2, none⟩ = some (.int .u64 hh) := hblk.cell 2
  have f2 := hblk.frozen 2
  clear hC hap hblk hU
  go_enter Try.func37, Try.ntmps37
  go_upto_region 2 with (fail)
  obtain ⟨H2, hH2⟩ : ∃ H2, IntKind.u64.wrap (IntKind.u64.wrap (hh * 6364136223846793005) + 1442695040888963407) = H2 := ⟨_, rfl⟩
  rw [hH2]
  have HU2 := Lib.hid (show U64 H2 from hH2 ▸ U64.wrap _)
  clear hH2 k2 f2 HU
  have g1 : w.grownBy (w.setCell ⟨p, 2, none⟩ (.int .u64 H2)) (some p) := gset (World.grownBy.refl w (some p)) 2 _
  obtain ⟨w1, hw1⟩ : ∃ w1, w.setCell ⟨p, 2, none⟩ (.int .u64 H2) = w1 := ⟨_, rfl⟩
  have HB1 := Lib.hid (show Blk w1 p 75 #[.slice a n c, .int .i64 i, .int .u64 H2] from hw1 ▸ HB.out.set_ 2 _)
  rw [hw1] at g1 ⊢
  clear hw1
  have hR1 : 0 < n → Row w1 1 a n (bytes bs) := fun h0 => HC.out.1.apart (by omega) g1 (fun b off e h' => by have := HA.out h0 b off e; injection h' with h'; omega)
  have k0 : w1.cell? ⟨p, 0, none⟩ = some (.slice a n c) := HB1.out.cell 0
  have k1 : w1.cell? ⟨p, 1, none⟩ = some (.int .i64 i) := HB1.out.cell 1
  have k2 : w1.cell? ⟨p, 2, none⟩ = some (.int .u64 H2) := HB1.out.cell 2
  have hR2 := Lib.hid hR1; clear hR1
  obtain ⟨X, hX, hXb⟩ := dice_and HU2.out
  go_upto_region 3 with (fail)
  rw [hX]
  clear hX
  by_cases hin : i < (n : Int)
  · obtain ⟨I, rfl⟩ := Int.eq_ofNat_of_zero_le hi0
    have hIn : I < n := by omega
    obtain ⟨b, off, x, rfl, hc, hx⟩ := (hR2.out (by omega)).atB hIn
    have hbp := HA.out (by omega) b off rfl
    have hxb := HC.out.2.2 x (List.mem_of_getElem? hx.out)
    have hIb : (I : Int) ≤ 4096 := by have := HC.out.2.1; omega
    have f1 := HB1.out.frozen 1
    have hfin : Hid (∀ k k2, DiceOk (((w1.drewN k).setCell ⟨p, 1, none⟩ (.int .i64 ((I : Int) + 1))).drewN k2) p ∧ w.grownBy (((w1.drewN k).setCell ⟨p, 1, none⟩ (.int .i64 ((I : Int) + 1))).drewN k2) (some p)) := by
      intro k k2
      have g2 := gdn (gset (gdn g1 k) 1 (.int .i64 ((I : Int) + 1))) k2
      refine ⟨⟨_, n, c, (I : Int) + 1, H2, bs, ((HB1.out.drewN k).set_ 1 (.int .i64 ((I : Int) + 1))).drewN k2, by omega, by omega, HU2.out, ⟨?_, HC.out.2⟩, HA.out⟩, g2⟩
      exact HC.out.1.apart (by omega) g2 (fun b' off' e' h' => by have := HA.out (by omega) b' off' e'; injection h' with h'; omega)
    have hwr : IntKind.i64.wrap ((X : Int) + (x : Int)) = (X : Int) + (x : Int) := by rw [IntKind.wrap_i64]; omega
    go_wp2_with fail
    go_quiet (fail)
    go_wp2_with fail
    go_quiet (fail)
    clear hwr
    go_wp2
    go_ret
    exact ⟨_, rfl, Int.emod_nonneg _ (by omega), Int.emod_lt_of_pos _ (by omega), hfin.out _ 0⟩
  · have hd : decide (i < (n : Int)) = false := by simpa using hin
    have hfin : Hid (∀ k, DiceOk (w1.drewN k) p ∧ w.grownBy (w1.drewN k) (some p)) := by
      intro k
      refine ⟨⟨a, n, c, i, H2, bs, HB1.out.drewN k, hi0, hi1, HU2.out, ⟨?_, HC.out.2⟩, HA.out⟩, gdn g1 k⟩
      rcases Nat.eq_zero_or_pos n with e | e
      · exact ⟨HC.out.1.1, fun hn => absurd hn (by omega)⟩
      · exact hR2.out e
    go_wp2_with fail
    go_quiet (fail)
    go_wp2
    go_ret
    exact ⟨_, rfl, Int.emod_nonneg _ (by omega), Int.emod_lt_of_pos _ (by omega), hfin.out _⟩
end Go.Proofs.Ytmljcbfpennjkaa
