/- What is drawn for plans: some numbers and a list, whatever the code. -/
import Derived.Test.YtdihpllebccncaaDrawBits
import Derived.Handy
namespace Go.Proofs.Ytdihpllebccncaa
open Go.RowKit
set_option maxRecDepth 100000
set_option linter.unusedVariables false

def PlanDraw (w : World) (e : Ending) (w' : World) : Prop := ∃ W h o : Int, e = .returned (.tuple #[.int .i64 W, .int .i64 h, .int .i64 o]) ∧ Below w.heap.size w w'
def DepthDraw (w : World) (e : Ending) (w' : World) : Prop := ∃ (a : Option Addr) (q c : Nat) (ys : List Int) (s u v : Int), e = .returned (.tuple #[.slice a q c, .int .i64 s, .int .i64 u, .int .i64 v]) ∧ Row w' 1 a q (ints ys) ∧ q ≤ 100 ∧ Below w.heap.size w w'

set_option maxHeartbeats 6400000 in
theorem drawEvenPlan_any (a : Option Addr) (n c : Nat) (bs : List Nat) (w : World) (h : Code8 w a n bs) :
    Calls Try.prog 19 #[.slice a n c] w (PlanDraw w) := by
  go_enter Try.func19, Try.ntmps19
  go_wp2_with fail
  go_at_call 40
  refine (l01From_any _ _ _ _ _ h).mono ?_
  rintro e w1 ⟨p, rfl, hp, hs, B⟩
  have hp1 : w.heap.size ≤ p := by omega
  have hpw := hs.lt
  have HS := Lib.hid hs
  have G := World.grownBy.refl w1 (some p)
  clear hp hs
  go_wp2_with fail
  go_at_call 41
  refine (l01Next_any _ _ _ HS.out (by omega)).mono ?_
  rintro e w2 ⟨x, rfl, ⟨hx0, hx1, -⟩, hs, hg⟩
  have hx9 := hx1 (by omega)
  replace G := G.trans hg
  replace HS := Lib.hid hs
  clear hx1 hs hg
  go_wp2_with fail
  go_at_call 41
  refine (l01Next_any _ _ _ HS.out (by omega)).mono ?_
  rintro e w3 ⟨y, rfl, ⟨hy0, hy1, -⟩, hs, hg⟩
  have hy9 := hy1 (by omega)
  replace G := G.trans hg
  replace HS := Lib.hid hs
  clear hy1 hs hg
  go_wp2_with fail
  go_at_call 41
  refine (l01Next_any _ _ _ HS.out (by omega)).mono ?_
  rintro e w4 ⟨z, rfl, ⟨hz0, hz1, -⟩, hs, hg⟩
  have hz9 := hz1 (by omega)
  replace G := G.trans hg
  replace HS := Lib.hid hs
  clear hz1 hs hg
  go_wp2_with fail
  go_at_call 41
  refine (l01Next_any _ _ _ HS.out (by omega)).mono ?_
  rintro e w5 ⟨t, rfl, ⟨ht0, ht1, -⟩, hs, hg⟩
  have ht9 := ht1 (by omega)
  replace G := G.trans hg
  replace HS := Lib.hid hs
  clear ht1 hs hg
  by_cases t0 : t = 0
  · subst t0
    go_wp2_with fail
    go_at_call 42
    refine (l01Pick_any _ _ _ _ [0, 1, 10000, 10001] _ (HS.out.alloc _) (by exact Row.lit _ (ints [0, 1, 10000, 10001]) _ _ _ (by simp) (by rfl)) (by omega) (by omega) (fun b off e => by injection e with e; injection e with e _ _; have := HS.out.lt; omega)).mono ?_
    rintro e w6 ⟨v, rfl, hx, hs, hg⟩
    replace G := (grown_alloc G (.cells #[.int .i64 (0), .int .i64 (1), .int .i64 (10000), .int .i64 (10001)] 2)).trans hg
    replace HS := Lib.hid hs
    clear hx hs hg
    go_wp2
    go_returns
    exact ⟨_, _, _, rfl, below_next' B hp1 G⟩
  · have f0 : (t == 0) = false := by simpa using t0
    clear t0
    by_cases t1 : t = 1
    · subst t1
      go_wp2_with fail
      go_at_call 42
      refine (l01Pick_any _ _ _ _ [0, 1, 10000, 10001] _ (HS.out.alloc _) (by exact Row.lit _ (ints [0, 1, 10000, 10001]) _ _ _ (by simp) (by rfl)) (by omega) (by omega) (fun b off e => by injection e with e; injection e with e _ _; have := HS.out.lt; omega)).mono ?_
      rintro e w6 ⟨v, rfl, hx, hs, hg⟩
      replace G := (grown_alloc G (.cells #[.int .i64 (0), .int .i64 (1), .int .i64 (10000), .int .i64 (10001)] 2)).trans hg
      replace HS := Lib.hid hs
      clear hx hs hg
      go_wp2
      go_returns
      exact ⟨_, _, _, rfl, below_next' B hp1 G⟩
    · have f1 : (t == 1) = false := by simpa using t1
      clear t1
      by_cases t2 : t = 2
      · subst t2
        go_wp2_with fail
        go_at_call 42
        refine (l01Pick_any _ _ _ _ [-1, 2 * (1 + y) - 1, 2 * (1 + y), 10001] _ (HS.out.alloc _) (by exact Row.lit _ (ints [-1, 2 * (1 + y) - 1, 2 * (1 + y), 10001]) _ _ _ (by simp) (by rfl)) (by omega) (by omega) (fun b off e => by injection e with e; injection e with e _ _; have := HS.out.lt; omega)).mono ?_
        rintro e w6 ⟨v, rfl, hx, hs, hg⟩
        replace G := (grown_alloc G (.cells #[.int .i64 (-1), .int .i64 (2 * (1 + y) - 1), .int .i64 (2 * (1 + y)), .int .i64 (10001)] 2)).trans hg
        replace HS := Lib.hid hs
        clear hx hs hg
        go_wp2
        go_returns
        exact ⟨_, _, _, rfl, below_next' B hp1 G⟩
      · have f2 : (t == 2) = false := by simpa using t2
        clear t2
        go_wp2
        go_returns
        exact ⟨_, _, _, rfl, below_next' B hp1 G⟩

set_option maxHeartbeats 6400000 in
theorem drawSpansOf_any (a : Option Addr) (n c : Nat) (bs : List Nat) (w : World) (h : Code8 w a n bs) :
    Calls Try.prog 22 #[.slice a n c] w (DepthDraw w) := by
  go_enter Try.func22, Try.ntmps22
  go_wp2_with fail
  go_at_call 40
  refine (l01From_any _ _ _ _ _ h).mono ?_
  rintro e w1 ⟨p, rfl, hp, hs, B⟩
  have hp1 : w.heap.size ≤ p := by omega
  have hpw := hs.lt
  have HS := Lib.hid hs
  have G := World.grownBy.refl w1 (some p)
  clear hp hs
  have O_d := (Own.lit0 w1 2 1).mono (lo' := w1.heap.size) (hi' := (w1.alloc (.cells #[] 2)).heap.size) (by have := G.size; omega) (by simp)
  replace G := grown_alloc G (.cells #[] 2)
  replace HS := Lib.hid (HS.out.alloc (.cells #[] 2))
  go_wp2_with fail
  go_at_call 41
  refine (l01Next_any _ _ _ HS.out (by omega)).mono ?_
  rintro e w2 ⟨R, rfl, ⟨hR0, hR1, -⟩, hs, hg⟩
  have hR9 := hR1 (by omega)
  replace O_d := (own_far O_d hpw hg).leave
  replace G := G.trans hg
  replace HS := Lib.hid hs
  clear hR1 hs hg
  obtain ⟨R, rfl⟩ := Int.eq_ofNat_of_zero_le hR0
  go_wp2
  go_loopw [7, 8] (fun o i wr => ∃ (k q cp : Nat) (a' : Option Addr) (ys : List Int), i = .int .i64 k ∧ o = .slice a' q cp ∧ q + k ≤ 10 ∧ Own wr w1.heap.size wr.heap.size 2 1 a' q cp (ints ys) ∧ Hid (SrcOk wr p) ∧ w1.grownBy wr (some p)) (fun _ i _ => (intOf i).toNat)
  case atStart => exact ⟨R, 0, 0, _, [], rfl, rfl, by omega, O_d, HS, G⟩
  case round =>
    clear O_d HS G
    obtain ⟨k, q, cp, a', ys, rfl, rfl, hqk, O_d, HS, G⟩ := hrel
    by_cases hk : 0 < k
    · have hkI : (0 : Int) < (k : Int) := by omega
      obtain ⟨k', rfl⟩ : ∃ k', k = k' + 1 := ⟨k - 1, by omega⟩
      have hsub : ((k' + 1 : Nat) : Int) - 1 = (k' : Int) := by omega
      go_wp2_with fail
      go_at_call 41
      refine (l01Next_any _ _ _ HS.out (by omega)).mono ?_
      rintro e w3 ⟨x, rfl, ⟨hx0, hx1, -⟩, hs, hg⟩
      have hx9 := hx1 (by omega)
      replace O_d := (own_far O_d hpw hg).leave
      replace G := G.trans hg
      replace HS := Lib.hid hs
      clear hx1 hs hg
      have hszG := G.size
      have HSa := Lib.hid (HS.out.alloc (.cells #[.int .i64 (x)] 2))
      have Ga := Lib.hid (grown_alloc G (.cells #[.int .i64 (x)] 2))
      clear HS G
      go_wp2_with (at_builtin; refine wpList_app _ rfl (.tmp 21) (.tmp 24) _ rfl Try.underlying40 info_i64 rfl (by decide) rfl (O_d.alloc _) rfl (Row.one _ _ _) (ints_one [x]) (by decide) (by simp only [maxLen]; omega) (by omega) (by simp; omega) ?_; intro A_d c_d w4 O2 hb _)
      have G := grown_below Ga.out hb
      have HS := Lib.hid (HSa.out.below hb hpw)
      go_roundw
      case rel => exact ⟨k', q + 1, c_d, A_d, ys ++ [x], by go_num, rfl, by omega, by rw [ints_app]; exact O2, HS, G⟩
      case measure => simp [intOf] <;> omega
    · obtain rfl : k = 0 := by omega
      clear hk
      go_wp2_with fail
      go_at_call 41
      refine (l01Next_any _ _ _ HS.out (by omega)).mono ?_
      rintro e w3 ⟨s, rfl, ⟨hs0, hs1, -⟩, hs, hg⟩
      have hs9 := hs1 (by omega)
      replace O_d := (own_far O_d hpw hg).leave
      replace G := G.trans hg
      replace HS := Lib.hid hs
      clear hs1 hs hg
      go_wp2_with fail
      go_at_call 41
      refine (l01Next_any _ _ _ HS.out (by omega)).mono ?_
      rintro e w4 ⟨u, rfl, ⟨hu0, hu1, -⟩, hs, hg⟩
      have hu9 := hu1 (by omega)
      replace O_d := (own_far O_d hpw hg).leave
      replace G := G.trans hg
      replace HS := Lib.hid hs
      clear hu1 hs hg
      go_wp2_with fail
      go_at_call 41
      refine (l01Next_any _ _ _ HS.out (by omega)).mono ?_
      rintro e w5 ⟨v, rfl, ⟨hv0, hv1, -⟩, hs, hg⟩
      have hv9 := hv1 (by omega)
      replace O_d := (own_far O_d hpw hg).leave
      replace G := G.trans hg
      replace HS := Lib.hid hs
      clear hv1 hs hg
      go_wp2_with fail
      go_at_call 41
      refine (l01Next_any _ _ _ HS.out (by omega)).mono ?_
      rintro e w6 ⟨t, rfl, ⟨ht0, ht1, -⟩, hs, hg⟩
      have ht9 := ht1 (by omega)
      replace O_d := (own_far O_d hpw hg).leave
      replace G := G.trans hg
      replace HS := Lib.hid hs
      clear ht1 hs hg
      by_cases t0 : t = 0
      · subst t0
        go_wp2_with fail
        go_at_call 42
        refine (l01Pick_any _ _ _ _ [0, 10000, 10001] _ (HS.out.alloc _) (by exact Row.lit _ (ints [0, 10000, 10001]) _ _ _ (by simp) (by rfl)) (by omega) (by omega) (fun b off e => by injection e with e; injection e with e _ _; have := HS.out.lt; omega)).mono ?_
        rintro e w7 ⟨x, rfl, hx, hs, hg⟩
        replace O_d := (own_far (O_d.alloc (.cells #[.int .i64 (0), .int .i64 (10000), .int .i64 (10001)] 2)) hpw hg).leave
        replace G := (grown_alloc G (.cells #[.int .i64 (0), .int .i64 (10000), .int .i64 (10001)] 2)).trans hg
        replace HS := Lib.hid hs
        clear hx hs hg
        go_wp2
        go_returns
        exact ⟨_, _, _, ys, _, _, _, rfl, O_d.row, by omega, below_next' B hp1 G⟩
      · have f0 : (t == 0) = false := by simpa using t0
        clear t0
        by_cases t1 : t = 1
        · subst t1
          go_wp2_with fail
          go_at_call 42
          refine (l01Pick_any _ _ _ _ [-1, 100, 101] _ (HS.out.alloc _) (by exact Row.lit _ (ints [-1, 100, 101]) _ _ _ (by simp) (by rfl)) (by omega) (by omega) (fun b off e => by injection e with e; injection e with e _ _; have := HS.out.lt; omega)).mono ?_
          rintro e w7 ⟨x, rfl, hx, hs, hg⟩
          replace O_d := (own_far (O_d.alloc (.cells #[.int .i64 (-1), .int .i64 (100), .int .i64 (101)] 2)) hpw hg).leave
          replace G := (grown_alloc G (.cells #[.int .i64 (-1), .int .i64 (100), .int .i64 (101)] 2)).trans hg
          replace HS := Lib.hid hs
          clear hx hs hg
          go_wp2_with fail
          go_at_call 42
          refine (l01Pick_any _ _ _ _ [0, 1, 100, 101] _ (HS.out.alloc _) (by exact Row.lit _ (ints [0, 1, 100, 101]) _ _ _ (by simp) (by rfl)) (by omega) (by omega) (fun b off e => by injection e with e; injection e with e _ _; have := HS.out.lt; omega)).mono ?_
          rintro e w8 ⟨y, rfl, hx, hs, hg⟩
          replace O_d := (own_far (O_d.alloc (.cells #[.int .i64 (0), .int .i64 (1), .int .i64 (100), .int .i64 (101)] 2)) hpw hg).leave
          replace G := (grown_alloc G (.cells #[.int .i64 (0), .int .i64 (1), .int .i64 (100), .int .i64 (101)] 2)).trans hg
          replace HS := Lib.hid hs
          clear hx hs hg
          go_wp2
          go_returns
          exact ⟨_, _, _, ys, _, _, _, rfl, O_d.row, by omega, below_next' B hp1 G⟩
        · have f1 : (t == 1) = false := by simpa using t1
          clear t1
          by_cases t2 : t = 2
          · subst t2
            go_wp2_with fail
            go_at_call 42
            refine (l01Pick_any _ _ _ _ [-1, 1000000, 1000001] _ (HS.out.alloc _) (by exact Row.lit _ (ints [-1, 1000000, 1000001]) _ _ _ (by simp) (by rfl)) (by omega) (by omega) (fun b off e => by injection e with e; injection e with e _ _; have := HS.out.lt; omega)).mono ?_
            rintro e w7 ⟨x, rfl, hx, hs, hg⟩
            replace O_d := (own_far (O_d.alloc (.cells #[.int .i64 (-1), .int .i64 (1000000), .int .i64 (1000001)] 2)) hpw hg).leave
            replace G := (grown_alloc G (.cells #[.int .i64 (-1), .int .i64 (1000000), .int .i64 (1000001)] 2)).trans hg
            replace HS := Lib.hid hs
            clear hx hs hg
            have hszG := G.size
            have HSa := Lib.hid (HS.out.alloc (.cells #[.int .i64 (x)] 2))
            have Ga := Lib.hid (grown_alloc G (.cells #[.int .i64 (x)] 2))
            clear HS G
            go_wp2_with (at_builtin; refine wpList_app _ rfl (.tmp 51) (.tmp 55) _ rfl Try.underlying40 info_i64 rfl (by decide) rfl (O_d.alloc _) rfl (Row.one _ _ _) (ints_one [x]) (by decide) (by simp only [maxLen]; omega) (by omega) (by simp; omega) ?_; intro A_d c_d w8 O2 hb _)
            have G := grown_below Ga.out hb
            have HS := Lib.hid (HSa.out.below hb hpw)
            go_wp2
            go_returns
            exact ⟨_, _, _, ys ++ [x], _, _, _, rfl, (by rw [ints_app]; exact O2.row), by omega, below_next' B hp1 G⟩
          · have f2 : (t == 2) = false := by simpa using t2
            clear t2
            go_wp2
            go_returns
            exact ⟨_, _, _, ys, _, _, _, rfl, O_d.row, by omega, below_next' B hp1 G⟩
end Go.Proofs.Ytdihpllebccncaa
