/- Tables and bits that are drawn, whatever the code. -/
import Derived.Test.YtbkoahikdjbdcaaDrawBits
namespace Go.Proofs.Ytbkoahikdjbdcaa
open Go.RowKit
set_option maxRecDepth 100000
set_option linter.unusedVariables false

def TableDraw (p : Nat) (w : World) (e : Ending) (w' : World) : Prop := ∃ r c : Int, e = .returned (.tuple #[.int .i64 r, .int .i64 c]) ∧ (-1 ≤ r ∧ r ≤ 41) ∧ (-1 ≤ c ∧ c ≤ 41) ∧ SrcOk w' p ∧ w.grownBy w' (some p)
theorem mul_41 {r c : Int} (h1 : -1 ≤ r ∧ r ≤ 41) (h2 : -1 ≤ c ∧ c ≤ 41) : -1681 ≤ r * c ∧ r * c ≤ 1681 := by
  rcases Int.lt_or_le r 0 with hr | hr
  · obtain rfl : r = -1 := by omega
    omega
  · rcases Int.lt_or_le c 0 with hc | hc
    · obtain rfl : c = -1 := by omega
      omega
    · have := Int.mul_nonneg hr hc
      have := Int.mul_le_mul h1.2 h2.2 hc (by omega)
      omega

set_option maxHeartbeats 3200000 in
theorem l26DrawTable_any (p : Nat) (w : World) (h : SrcOk w p) :
    Calls Try.prog 33 #[.pointer (some ⟨p, 0, none⟩)] w (TableDraw p w) := by
  go_enter Try.func33, Try.ntmps33
  go_wp2_with fail
  go_at_call 34
  refine (l01Next_any _ _ _ h (by omega)).mono ?_
  rintro e w1 ⟨r, rfl, ⟨hr0, hr1, -⟩, hs, G⟩
  have hr9 := hr1 (by omega)
  clear hr1
  go_wp2_with fail
  go_at_call 34
  refine (l01Next_any _ _ _ hs (by omega)).mono ?_
  rintro e w2 ⟨c, rfl, ⟨hc0, hc1, -⟩, hs2, hg⟩
  have hc9 := hc1 (by omega)
  replace G := G.trans hg
  clear hc1 hs hg
  go_wp2_with fail
  go_at_call 34
  refine (l01Next_any _ _ _ hs2 (by omega)).mono ?_
  rintro e w3 ⟨t, rfl, -, hs3, hg⟩
  replace G := G.trans hg
  have HS := Lib.hid hs3
  have hl := hs3.lt
  clear hs2 hg hs3
  by_cases t0 : t = 0
  · subst t0
    go_wp2_with fail
    go_at_call 47
    refine (l01Pick_any _ _ _ _ [0, 40, 41, -1] _ (HS.out.alloc _) (by exact Row.lit _ (ints [0, 40, 41, -1]) _ _ _ (by simp) (by rfl)) (by omega) (by omega) (fun b off e => by injection e with e; injection e with e _ _; omega)).mono ?_
    rintro e w4 ⟨x, rfl, hx, hs4, hg⟩
    have hxb : -1 ≤ x ∧ x ≤ 41 := by simp at hx; omega
    replace G := (grown_alloc G (.cells #[.int .i64 0, .int .i64 40, .int .i64 41, .int .i64 (-1)] 2)).trans hg
    clear hx hg HS
    go_wp2
    go_ret2
    exact ⟨_, _, rfl, hxb, by omega, hs4, G⟩
  · have f0 : (t == 0) = false := by simpa using t0
    clear t0
    by_cases t1 : t = 1
    · subst t1
      go_wp2_with fail
      go_at_call 47
      refine (l01Pick_any _ _ _ _ [0, 40, 41] _ (HS.out.alloc _) (by exact Row.lit _ (ints [0, 40, 41]) _ _ _ (by simp) (by rfl)) (by omega) (by omega) (fun b off e => by injection e with e; injection e with e _ _; omega)).mono ?_
      rintro e w4 ⟨x, rfl, hx, hs4, hg⟩
      have hxb : -1 ≤ x ∧ x ≤ 41 := by simp at hx; omega
      replace G := (grown_alloc G (.cells #[.int .i64 0, .int .i64 40, .int .i64 41] 2)).trans hg
      clear hx hg HS
      go_wp2
      go_ret2
      exact ⟨_, _, rfl, by omega, hxb, hs4, G⟩
    · have f1 : (t == 1) = false := by simpa using t1
      clear t1
      by_cases t2 : t = 2
      · subst t2
        go_wp2_with fail
        go_at_call 47
        refine (l01Pick_any _ _ _ _ [30, 40] _ (HS.out.alloc _) (by exact Row.lit _ (ints [30, 40]) _ _ _ (by simp) (by rfl)) (by omega) (by omega) (fun b off e => by injection e with e; injection e with e _ _; omega)).mono ?_
        rintro e w4 ⟨x, rfl, hx, hs4, hg⟩
        have hxb : -1 ≤ x ∧ x ≤ 41 := by simp at hx; omega
        replace G := (grown_alloc G (.cells #[.int .i64 30, .int .i64 40] 2)).trans hg
        have hl4 := hs4.lt
        have HS4 := Lib.hid hs4
        clear hx hg HS hs4
        go_wp2_with fail
        go_at_call 47
        refine (l01Pick_any _ _ _ _ [40, 30, 31] _ (HS4.out.alloc _) (by exact Row.lit _ (ints [40, 30, 31]) _ _ _ (by simp) (by rfl)) (by omega) (by omega) (fun b off e => by injection e with e; injection e with e _ _; omega)).mono ?_
        rintro e w5 ⟨y, rfl, hy, hs5, hg⟩
        have hyb : -1 ≤ y ∧ y ≤ 41 := by simp at hy; omega
        replace G := (grown_alloc G (.cells #[.int .i64 40, .int .i64 30, .int .i64 31] 2)).trans hg
        clear hy hg HS4
        go_wp2
        go_ret2
        exact ⟨_, _, rfl, hxb, hyb, hs5, G⟩
      · have f2 : (t == 2) = false := by simpa using t2
        clear t2
        go_wp2
        go_ret2
        exact ⟨_, _, rfl, by omega, by omega, HS.out, G⟩

def InterDraw (w : World) (e : Ending) (w' : World) : Prop := ∃ (a : Option Addr) (q cp : Nat) (ys : List Int) (r c : Int), e = .returned (.tuple #[.slice a q cp, .int .i64 r, .int .i64 c]) ∧ Row w' 1 a q (ints ys) ∧ q ≤ 1300 ∧ (-1 ≤ r ∧ r ≤ 41) ∧ (-1 ≤ c ∧ c ≤ 41) ∧ Below w.heap.size w w'

set_option maxHeartbeats 3200000 in
theorem drawInterleaveBits_any (a : Option Addr) (n c : Nat) (bs : List Nat) (w : World) (h : Code8 w a n bs) :
    Calls Try.prog 7 #[.slice a n c] w (InterDraw w) := by
  go_enter Try.func7, Try.ntmps7
  go_wp2_with fail
  go_at_call 32
  refine (l01From_any _ _ _ _ _ h).mono ?_
  rintro e w1 ⟨p, rfl, hp, hs, B⟩
  have hp1 : w.heap.size ≤ p := by omega
  clear hp
  go_wp2_with fail
  go_at_call 33
  refine (l26DrawTable_any _ _ hs).mono ?_
  intro e w2 hd
  obtain ⟨r, cc, rfl, hr, hc, hs2, hg⟩ := hd
  replace B := below_next' B hp1 hg
  obtain ⟨m0, m1⟩ := mul_41 hr hc
  clear hs hg
  have HS := Lib.hid hs2; clear hs2
  have hpw := HS.out.lt
  obtain ⟨w3, hw3⟩ : ∃ w3, w2.alloc (.cells #[] 2) = w3 := ⟨_, rfl⟩
  obtain ⟨g0, hg0⟩ : ∃ g, w2.heap.size = g := ⟨_, rfl⟩
  have B3 : Below w.heap.size w w3 := hw3 ▸ B.alloc B.size _
  have HS3 := Lib.hid (show SrcOk w3 p from hw3 ▸ HS.out.alloc _)
  have O3 : Own w3 (p + 1) w3.heap.size 2 1 (some ⟨g0, 0, none⟩) 0 0 (ints []) := by
    have := (Own.lit0 w2 2 1).mono (lo' := p + 1) (hi' := (w2.alloc (.cells #[] 2)).heap.size) (by omega) (by simp)
    rw [hw3, hg0] at this; exact this
  have HW := Lib.hid hw3
  have HG := Lib.hid hg0
  clear hw3 hg0 B HS
  go_wp2_with fail
  rw [HW.out, HG.out]
  go_at_call 34
  refine (l01Next_any _ _ _ HS3.out (by omega)).mono ?_
  rintro e w4 ⟨t, rfl, ⟨ht0, ht1, -⟩, hs4, hg⟩
  have ht9 := ht1 (by omega)
  have O4 := (own_far O3 (Nat.lt_succ_self p) hg).leave
  have B4 := below_next' B3 hp1 hg
  have HS4 := Lib.hid hs4
  obtain ⟨N, hN⟩ : ∃ N : Nat, max 0 (min 1200 (r * cc)) + t / 23 = (N : Int) := ⟨(max 0 (min 1200 (r * cc)) + t / 23).toNat, by omega⟩
  have hN2 : N ≤ 1202 := by omega
  have HN := Lib.hid hN
  clear ht1 hs4 hg O3 B3 HS3 HW HG hN
  go_wp2
  go_loopw [8, 9] (fun o i wr => ∃ (k q cp : Nat) (a' : Option Addr) (ys : List Int), i = .int .i64 k ∧ o = .slice a' q cp ∧ q + k ≤ 1202 ∧ Own wr (p + 1) wr.heap.size 2 1 a' q cp (ints ys) ∧ Hid (SrcOk wr p) ∧ Below w.heap.size w wr) (fun _ i _ => (intOf i).toNat)
  case atStart => exact ⟨N, 0, 0, _, [], by rw [HN.out], rfl, by omega, O4, HS4, B4⟩
  case round =>
    clear O4 B4 HS4 HN
    obtain ⟨k, q, cp, a', ys, rfl, rfl, hqk, hown, hs, hbel⟩ := hrel
    have hsp := hs.out.lt
    by_cases hk : 0 < k
    · have hkI : (0 : Int) < (k : Int) := by omega
      obtain ⟨k', rfl⟩ : ∃ k', k = k' + 1 := ⟨k - 1, by omega⟩
      have hsub : ((k' + 1 : Nat) : Int) - 1 = (k' : Int) := by omega
      go_wp2_with fail
      go_at_call 34
      refine (l01Next_any _ _ _ hs.out (by omega)).mono ?_
      rintro e w5 ⟨x, rfl, -, hs5, hg⟩
      have O5 := (own_far hown (Nat.lt_succ_self p) hg).leave
      have B5 := below_next' hbel hp1 hg
      have HS5 := Lib.hid (hs5.alloc (.cells #[.int .i64 x] 2))
      have hs6 := hs5.lt
      clear hs5 hg hown hbel hs
      go_wp2_with (at_builtin; refine wpList_app _ rfl (.tmp 31) (.tmp 34) _ rfl Try.underlying24 info_i64 rfl (by decide) rfl (O5.alloc _) rfl (Row.one _ _ _) (ints_one [x]) (by decide) (by simp only [maxLen]; omega) (by omega) (by simp; omega) ?_; intro A2 c2 w6 hown6 hb6 _)
      go_roundw
      case rel => exact ⟨k', q + 1, c2, A2, ys ++ [x], by go_num, rfl, by omega, by rw [ints_app]; exact hown6, HS5.out.below hb6 (by omega), (B5.alloc B5.size _).trans (hb6.mono (by omega))⟩
      case measure => simp [intOf] <;> omega
    · obtain rfl : k = 0 := by omega
      clear hk
      by_cases hq : 0 < q
      · have hqI : (0 : Int) < (q : Int) := by omega
        go_wp2_with fail
        go_at_call 34
        refine (l01Next_any _ _ _ hs.out (by omega)).mono ?_
        rintro e w5 ⟨x, rfl, -, hs5, hg⟩
        have O5 := (own_far hown (Nat.lt_succ_self p) hg).leave
        have B5 := below_next' hbel hp1 hg
        clear hs5 hg hown hbel hs
        by_cases x0 : x = 0
        · subst x0
          obtain ⟨g, rfl, hg1, -, -⟩ := O5.head hq
          have hfz := O5.frozenAt 0
          have hst := O5.stored 0 (.int .i64 2)
          obtain ⟨v, hcv⟩ : ∃ v, w5.cell? ⟨g, 0, none⟩ = some v :=
            ⟨_, (O5.cellAt 0 (by omega)).trans (List.getElem?_eq_getElem (by have := O5.len; omega))⟩
          have hrow := hst.1.row
          have e : (ints ys).set 0 (.int .i64 2) = ints (ys.set 0 2) := by simp [ints, List.map_set]
          rw [e] at hrow
          have HR := Lib.hid hrow
          clear hst hrow e O5
          go_wp2
          go_ret3
          exact ⟨_, _, _, _, _, _, rfl, HR.out, by omega, hr, hc, B5.setCell (p := ⟨g, 0, none⟩) (by simp; omega) _⟩
        · have f0 : (x == 0) = false := by simpa using x0
          clear x0
          go_wp2
          go_ret3
          exact ⟨_, _, _, ys, _, _, rfl, O5.row, by omega, hr, hc, B5⟩
      · obtain rfl : q = 0 := by omega
        clear hq
        go_wp2
        go_ret3
        exact ⟨_, _, _, ys, _, _, rfl, hown.row, by omega, hr, hc, hbel⟩

theorem drawSortBits_any (a : Option Addr) (n c : Nat) (bs : List Nat) (w : World) (h : Code8 w a n bs) :
    Calls Try.prog 10 #[.slice a n c] w (InterDraw w) := by
  go_enter Try.func10, Try.ntmps10
  go_wp2_with fail
  go_at_call 7
  refine (drawInterleaveBits_any _ _ _ _ _ h).mono ?_
  intro e w1 hd
  obtain ⟨a', q, cp, ys, r, cc, rfl, hr, hq, h1, h2, B⟩ := hd
  go_wp2
  go_ret3
  exact ⟨_, _, _, ys, _, _, rfl, hr, hq, h1, h2, B⟩

theorem drawPlacesFrom_any (a : Option Addr) (n c : Nat) (bs : List Nat) (w : World) (h : Code8 w a n bs) :
    Calls Try.prog 13 #[.slice a n c] w fun e w' => (∃ r c : Int, e = .returned (.tuple #[.int .i64 r, .int .i64 c])) ∧ Below w.heap.size w w' := by
  go_enter Try.func13, Try.ntmps13
  go_wp2_with fail
  go_at_call 32
  refine (l01From_any _ _ _ _ _ h).mono ?_
  rintro e w1 ⟨p, rfl, hp, hs, B⟩
  have hp1 : w.heap.size ≤ p := by omega
  clear hp
  go_wp2_with fail
  go_at_call 33
  refine (l26DrawTable_any _ _ hs).mono ?_
  intro e w2 hd
  obtain ⟨r, cc, rfl, hr, hc, hs2, hg⟩ := hd
  replace B := below_next' B hp1 hg
  clear hs hg hs2
  go_wp2
  go_ret2
  exact ⟨⟨r, cc, rfl⟩, B⟩
end Go.Proofs.Ytbkoahikdjbdcaa
