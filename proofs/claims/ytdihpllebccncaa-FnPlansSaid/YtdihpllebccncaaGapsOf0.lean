/- IsCovered and GapsOf by both programs. -/
import Derived.Test.YtdihpllebccncaaGapsT
namespace Go.Proofs.Ytdihpllebccncaa
open Go.RowKit
set_option maxRecDepth 100000
set_option linter.unusedVariables false

def gapsOf (W : Int) (ss : List I2) : List I2 × Int := if coverC W ss = 0 then (gapsL W ss, 0) else ([], coverC W ss)
def isCovered (W : Int) (ss : List I2) : Bool × Int := if coverC W ss = 0 then (decide (gapsL W ss = []), 0) else (false, coverC W ss)
theorem unitsG_len (ss : List I2) : ∀ (n : Nat) (k : Int) (out : List I2), (unitsG ss n k out).length ≤ out.length + n
  | 0, k, out => by simp [unitsG]
  | n + 1, k, out => by
    rw [unitsG]
    have := unitsG_len ss n (k + 1) (stepG ss k out)
    have := stepG_len ss k out
    omega
theorem gapsOf_len (W : Int) (ss : List I2) : (gapsOf W ss).1.length ≤ 10000 := by
  unfold gapsOf
  rcases coverC_cases W ss with ⟨h, -, h1, h2⟩ | ⟨c, h, hc⟩
  · rw [if_pos h]
    have := unitsG_len ss W.toNat 0 []
    simp only [gapsL, List.length_nil] at *
    omega
  · rw [if_neg (by omega)]; simp
theorem gapsOf_no {W : Int} {ss : List I2} {c : Int} (h : coverC W ss = c) (hc : c ≠ 0) : gapsOf W ss = ([], c) := by rw [gapsOf, if_neg (by omega), h]
theorem gapsOf_yes {W : Int} {ss : List I2} (h : coverC W ss = 0) : gapsOf W ss = (gapsL W ss, 0) := by rw [gapsOf, if_pos h]
theorem isCovered_no {W : Int} {ss : List I2} {c : Int} (h : coverC W ss = c) (hc : c ≠ 0) : isCovered W ss = (false, c) := by rw [isCovered, if_neg (by omega), h]
theorem isCovered_yes {W : Int} {ss : List I2} (h : coverC W ss = 0) : isCovered W ss = (decide (gapsL W ss = []), 0) := by rw [isCovered, if_pos h]
theorem nil_len {ys : List I2} {n : Nat} (h : ys.length = n) : ((n : Int) == 0) = decide (ys = []) := by
  subst h
  cases ys with
  | nil => rfl
  | cons a t => simp; omega

theorem gapsOf_impl (W : Int) (a : Option Addr) (n c : Nat) (ss : List I2) (w : World) (h : Row w 2 a n (prs ss)) (hn : n ≤ 1048576) :
    Calls Try.prog 13 #[.int .i64 W, .slice a n c] w fun e w' => ∃ a' n' c', e = .returned (.tuple #[.slice a' n' c', .int .i64 (gapsOf W ss).2]) ∧ Own w' w.heap.size w'.heap.size 55 2 a' n' c' (prs (gapsOf W ss).1) ∧ Below w.heap.size w w' := by
  rcases coverC_cases W ss with ⟨hc, hs, hW⟩ | ⟨cc, hc, hne⟩
  · rw [gapsOf_yes hc]
    go_enter Try.func13, Try.ntmps13
    go_wp2_with fail
    go_at_call 36
    refine (coverCode_any _ _ _ _ _ _ h hn).mono ?_
    rintro e w1 ⟨rfl, hb⟩
    rw [hc]
    clear hc
    have B := hb
    go_wp2_with fail
    go_at_call 37
    refine (gaps_impl _ _ _ _ _ _ (h.below2 hb (Nat.le_refl _)) hs hW).mono ?_
    rintro e w2 ⟨a2, n2, c2, rfl, O, hb2⟩
    go_wp2
    go_ret2
    exact ⟨_, _, _, rfl, O.mono hb.size (Nat.le_refl _), hb.trans (hb2.mono hb.size)⟩
  · have hf : (cc != 0) = true := by simpa using hne
    rw [gapsOf_no hc hne]
    clear hne
    go_enter Try.func13, Try.ntmps13
    go_wp2_with fail
    go_at_call 36
    refine (coverCode_any _ _ _ _ _ _ h hn).mono ?_
    rintro e w1 ⟨rfl, hb⟩
    rw [hc]
    clear hc
    go_wp2
    go_ret2
    exact ⟨_, _, _, rfl, Own.nil_ _ _ _ _ _, hb⟩

theorem gapsOf_spec (W : Int) (a : Option Addr) (n c : Nat) (ss : List I2) (w : World) (h : Row w 2 a n (prs ss)) (hn : n ≤ 1048576) :
    Calls Try.prog 12 #[.int .i64 W, .slice a n c] w fun e w' => ∃ a' n' c', e = .returned (.tuple #[.slice a' n' c', .int .i64 (gapsOf W ss).2]) ∧ Own w' w.heap.size w'.heap.size 55 2 a' n' c' (prs (gapsOf W ss).1) ∧ Below w.heap.size w w' := by
  rcases coverC_cases W ss with ⟨hc, hs, hW⟩ | ⟨cc, hc, hne⟩
  · rw [gapsOf_yes hc]
    go_enter Try.func12, Try.ntmps12
    go_wp2_with fail
    go_at_call 33
    refine (l24Code_any _ _ _ _ _ _ h hn).mono ?_
    rintro e w1 ⟨rfl, hb⟩
    rw [hc]
    clear hc
    go_wp2_with fail
    go_at_call 34
    refine (l24Gaps_any _ _ _ _ _ _ (h.below2 hb (Nat.le_refl _)) hs hW).mono ?_
    rintro e w2 ⟨a2, n2, c2, rfl, O, hb2⟩
    go_wp2
    go_ret2
    exact ⟨_, _, _, rfl, O.mono hb.size (Nat.le_refl _), hb.trans (hb2.mono hb.size)⟩
  · have hf : (cc != 0) = true := by simpa using hne
    rw [gapsOf_no hc hne]
    clear hne
    go_enter Try.func12, Try.ntmps12
    go_wp2_with fail
    go_at_call 33
    refine (l24Code_any _ _ _ _ _ _ h hn).mono ?_
    rintro e w1 ⟨rfl, hb⟩
    rw [hc]
    clear hc
    go_wp2
    go_ret2
    exact ⟨_, _, _, rfl, Own.nil_ _ _ _ _ _, hb⟩

theorem isCovered_impl (W : Int) (a : Option Addr) (n c : Nat) (ss : List I2) (w : World) (h : Row w 2 a n (prs ss)) (hn : n ≤ 1048576) :
    Calls Try.prog 10 #[.int .i64 W, .slice a n c] w fun e w' => e = .returned (.tuple #[.bool (isCovered W ss).1, .int .i64 (isCovered W ss).2]) ∧ Below w.heap.size w w' := by
  rcases coverC_cases W ss with ⟨hc, hs, hW⟩ | ⟨cc, hc, hne⟩
  · rw [isCovered_yes hc]
    go_enter Try.func10, Try.ntmps10
    go_wp2_with fail
    go_at_call 36
    refine (coverCode_any _ _ _ _ _ _ h hn).mono ?_
    rintro e w1 ⟨rfl, hb⟩
    rw [hc]
    clear hc
    go_wp2_with fail
    go_at_call 37
    refine (gaps_impl _ _ _ _ _ _ (h.below2 hb (Nat.le_refl _)) hs hW).mono ?_
    rintro e w2 ⟨a2, n2, c2, rfl, O, hb2⟩
    have hL := Lib.hid (nil_len O.row.len2)
    clear O
    go_wp2
    go_ret2
    exact ⟨by rw [← hL.out]; rfl, hb.trans (hb2.mono hb.size)⟩
  · have hf : (cc != 0) = true := by simpa using hne
    rw [isCovered_no hc hne]
    clear hne
    go_enter Try.func10, Try.ntmps10
    go_wp2_with fail
    go_at_call 36
    refine (coverCode_any _ _ _ _ _ _ h hn).mono ?_
    rintro e w1 ⟨rfl, hb⟩
    rw [hc]
    clear hc
    go_wp2
    go_ret2
    exact ⟨rfl, hb⟩

theorem isCovered_spec (W : Int) (a : Option Addr) (n c : Nat) (ss : List I2) (w : World) (h : Row w 2 a n (prs ss)) (hn : n ≤ 1048576) :
    Calls Try.prog 8 #[.int .i64 W, .slice a n c] w fun e w' => e = .returned (.tuple #[.bool (isCovered W ss).1, .int .i64 (isCovered W ss).2]) ∧ Below w.heap.size w w' := by
  rcases coverC_cases W ss with ⟨hc, hs, hW⟩ | ⟨cc, hc, hne⟩
  · rw [isCovered_yes hc]
    go_enter Try.func8, Try.ntmps8
    go_wp2_with fail
    go_at_call 33
    refine (l24Code_any _ _ _ _ _ _ h hn).mono ?_
    rintro e w1 ⟨rfl, hb⟩
    rw [hc]
    clear hc
    go_wp2_with fail
    go_at_call 34
    refine (l24Gaps_any _ _ _ _ _ _ (h.below2 hb (Nat.le_refl _)) hs hW).mono ?_
    rintro e w2 ⟨a2, n2, c2, rfl, O, hb2⟩
    have hL := Lib.hid (nil_len O.row.len2)
    clear O
    go_wp2
    go_ret2
    exact ⟨by rw [← hL.out]; rfl, hb.trans (hb2.mono hb.size)⟩
  · have hf : (cc != 0) = true := by simpa using hne
    rw [isCovered_no hc hne]
    clear hne
    go_enter Try.func8, Try.ntmps8
    go_wp2_with fail
    go_at_call 33
    refine (l24Code_any _ _ _ _ _ _ h hn).mono ?_
    rintro e w1 ⟨rfl, hb⟩
    rw [hc]
    clear hc
    go_wp2
    go_ret2
    exact ⟨rfl, hb⟩
end Go.Proofs.Ytdihpllebccncaa
