/- Tables and bits that are drawn, whatever the code. -/
import Derived.Test.YtpnhfdppndcpnaaDrawBits
namespace Go.Proofs.Ytpnhfdppndcpnaa
open Go.RowKit
set_option maxRecDepth 100000
set_option linter.unusedVariables false

def TableDraw (p : Nat) (w : World) (e : Ending) (w' : World) : Prop := ∃ r c : Int, e = .returned (.tuple #[.int .i64 r, .int .i64 c]) ∧ (-1 ≤ r ∧ r ≤ 41) ∧ (-1 ≤ c ∧ c ≤ 41) ∧ SrcOk w' p ∧ w.grownBy w' (some p)
theorem mul_41 {r c : Int} (h1 : -1 ≤ r ∧ r ≤ 41) (h2 : -1 ≤ c ∧ c ≤ 41) : -1681 ≤ r * c ∧ r * c ≤ 1681 := by
  rcases Int.lt_or_le r 0 with hr | hr
  · obtain rfl : r = -1 := by omega
    omega
  · rcases Int.lt_or_le c 0 with hc | hc
    · obtain rfl : c = -1 := by omega
      omega
    · have := Int.mul_nonneg hr hc
      have := Int.mul_le_mul h1.2 h2.2 hc (by omega)
      omega

set_option maxHeartbeats 3200000 in
theorem l26DrawTable_any (p : Nat) (w : World) (h : SrcOk w p) :
    Calls Try.prog 32 #[.pointer (some ⟨p, 0, none⟩)] w (TableDraw p w) := by
  go_enter Try.func32, Try.ntmps32
  go_wp2_with fail
  go_at_call 33
  refine (l01Next_any _ _ _ h (by omega)).mono ?_
  rintro e w1 ⟨r, rfl, ⟨hr0, hr1, -⟩, hs, G⟩
  have hr9 := hr1 (by omega)
  clear hr1
  go_wp2_with fail
  go_at_call 33
  refine (l01Next_any _ _ _ hs (by omega)).mono ?_
  rintro e w2 ⟨c, rfl, ⟨hc0, hc1, -⟩, hs2, hg⟩
  have hc9 := hc1 (by omega)
  replace G := G.trans hg
  clear hc1 hs hg
  go_wp2_with fail
  go_at_call 33
  refine (l01Next_any _ _ _ hs2 (by omega)).mono ?_
  rintro e w3 ⟨t, rfl, -, hs3, hg⟩
  replace G := G.trans hg
  have HS := Lib.hid hs3
  have hl := hs3.lt
  clear hs2 hg hs3
  by_cases t0 : t = 0
  · subst t0
    go_wp2_with fail
    go_at_call 34
    refine (l01Pick_any _ _ _ _ [0, 40, 41, -1] _ (HS.out.alloc _) (by exact Row.lit _ (ints [0, 40, 41, -1]) _ _ _ (by simp) (by rfl)) (by omega) (by omega) (fun b off e => by injection e with e; injection e with e _ _; omega)).mono ?_
    rintro e w4 ⟨x, rfl, hx, hs4, hg⟩
    have hxb : -1 ≤ x ∧ x ≤ 41 := by simp at hx; omega
    replace G := (grown_alloc G (.cells #[.int .i64 0, .int .i64 40, .int .i64 41, .int .i64 (-1)] 2)).trans hg
    clear hx hg HS
    go_wp2
    go_ret2
    exact ⟨_, _, rfl, hxb, by omega, hs4, G⟩
  · have f0 : (t == 0) = false := by simpa using t0
    clear t0
    by_cases t1 : t = 1
    · subst t1
      go_wp2_with fail
      go_at_call 34
      refine (l01Pick_any _ _ _ _ [0, 40, 41] _ (HS.out.alloc _) (by exact Row.lit _ (ints [0, 40, 41]) _ _ _ (by simp) (by rfl)) (by omega) (by omega) (fun b off e => by injection e with e; injection e with e _ _; omega)).mono ?_
      rintro e w4 ⟨x, rfl, hx, hs4, hg⟩
      have hxb : -1 ≤ x ∧ x ≤ 41 := by simp at hx; omega
      replace G := (grown_alloc G (.cells #[.int .i64 0, .int .i64 40, .int .i64 41] 2)).trans hg
      clear hx hg HS
      go_wp2
      go_ret2
      exact ⟨_, _, rfl, by omega, hxb, hs4, G⟩
    · have f1 : (t == 1) = false := by simpa using t1
      clear t1
      by_cases t2 : t = 2
      · subst t2
        go_wp2_with fail
        go_at_call 34
        refine (l01Pick_any _ _ _ _ [30, 40] _ (HS.out.alloc _) (by exact Row.lit _ (ints [30, 40]) _ _ _ (by simp) (by rfl)) (by omega) (by omega) (fun b off e => by injection e with e; injection e with e _ _; omega)).mono ?_
        rintro e w4 ⟨x, rfl, hx, hs4, hg⟩
        have hxb : -1 ≤ x ∧ x ≤ 41 := by simp at hx; omega
        replace G := (grown_alloc G (.cells #[.int .i64 30, .int .i64 40] 2)).trans hg
        have hl4 := hs4.lt
        have HS4 := Lib.hid hs4
        clear hx hg HS hs4
        go_wp2_with fail
        go_at_call 34
        refine (l01Pick_any _ _ _ _ [40, 30, 31] _ (HS4.out.alloc _) (by exact Row.lit _ (ints [40, 30, 31]) _ _ _ (by simp) (by rfl)) (by omega) (by omega) (fun b off e => by injection e with e; injection e with e _ _; omega)).mono ?_
        rintro e w5 ⟨y, rfl, hy, hs5, hg⟩
        have hyb : -1 ≤ y ∧ y ≤ 41 := by simp at hy; omega
        replace G := (grown_alloc G (.cells #[.int .i64 40, .int .i64 30, .int .i64 31] 2)).trans hg
        clear hy hg HS4
        go_wp2
        go_ret2
        exact ⟨_, _, rfl, hxb, hyb, hs5, G⟩
      · have f2 : (t == 2) = false := by simpa using t2
        clear t2
        go_wp2
        go_ret2
        exact ⟨_, _, rfl, by omega, by omega, HS.out, G⟩

def InterDraw (w : World) (e : Ending) (w' : World) : Prop := ∃ (a : Option Addr) (q cp : Nat) (ys : List Int) (r c : Int), e = .returned (.tuple #[.slice a q cp, .int .i64 r, .int .i64 c]) ∧ Row w' 1 a q (ints ys) ∧ q ≤ 1300 ∧ (-1 ≤ r ∧ r ≤ 41) ∧ (-1 ≤ c ∧ c ≤ 41) ∧ Below w.heap.size w w'