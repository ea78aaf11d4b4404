/- A list of soundings and a grid's shape that are drawn, whatever the code. -/
import Derived.Test.YtciicolknphcnaaDrawSnds
import Derived.Handy
namespace Go.Proofs.Ytciicolknphcnaa
open Go.RowKit
set_option maxRecDepth 100000
set_option linter.unusedVariables false
set_option linter.unusedVariables false

def GridDraw (w : World) (e : Ending) (w' : World) : Prop := ∃ (a : Option Addr) (q c : Nat) (ys : List I4) (s x y : Int), e = .returned (.tuple #[.int .i64 s, .int .i64 x, .int .i64 y, .slice a q c]) ∧ Row w' 4 a q (frs ys) ∧ q ≤ 201 ∧ Below w.heap.size w w'

set_option maxHeartbeats 6400000 in
theorem drawGridSoundings_any (a : Option Addr) (n c : Nat) (bs : List Nat) (w : World) (h : Code8 w a n bs) :
    Calls Try.prog 15 #[.slice a n c] w (GridDraw w) := by
  go_enter Try.func15, Try.ntmps15
  go_wp2_with fail
  go_at_call 44
  refine (l01From_any _ _ _ _ _ h).mono ?_
  rintro e w1 ⟨p, rfl, hp, hs, B⟩
  have hp1 : w.heap.size ≤ p := by omega
  have hpw := hs.lt
  have HS := Lib.hid hs
  have G := World.grownBy.refl w1 (some p)
  clear hp hs
  go_wp2_with fail
  go_at_call 45
  refine (l01Next_any _ _ _ HS.out (by omega)).mono ?_
  rintro e w2 ⟨t, rfl, ⟨ht0, ht1, -⟩, hs, hg⟩
  have ht9 := ht1 (by omega)
  replace G := G.trans hg
  replace HS := Lib.hid hs
  clear ht1 hs hg
  by_cases t0 : t = 0
  · subst t0
    go_wp2_with fail
    go_at_call 46
    refine (l01Pick_any _ _ _ _ [0, 1, 10000, 10001] _ (HS.out.alloc _) (by exact Row.lit _ (ints [0, 1, 10000, 10001]) _ _ _ (by simp) (by rfl)) (by omega) (by omega) (fun b off e => by injection e with e; injection e with e _ _; have := HS.out.lt; omega)).mono ?_
    rintro e w3 ⟨u, rfl, hx, hs, hg⟩
    replace G := (grown_alloc G (.cells #[.int .i64 (0), .int .i64 (1), .int .i64 (10000), .int .i64 (10001)] 2)).trans hg
    replace HS := Lib.hid hs
    clear hx hs hg
    go_wp2_with fail
    go_at_call 46
    refine (l01Pick_any _ _ _ _ [0, 1, 30, 31] _ (HS.out.alloc _) (by exact Row.lit _ (ints [0, 1, 30, 31]) _ _ _ (by simp) (by rfl)) (by omega) (by omega) (fun b off e => by injection e with e; injection e with e _ _; have := HS.out.lt; omega)).mono ?_
    rintro e w4 ⟨v, rfl, hx, hs, hg⟩
    replace G := (grown_alloc G (.cells #[.int .i64 (0), .int .i64 (1), .int .i64 (30), .int .i64 (31)] 2)).trans hg
    replace HS := Lib.hid hs
    clear hx hs hg
    go_wp2_with fail
    go_at_call 46
    refine (l01Pick_any _ _ _ _ [0, 1, 31] _ (HS.out.alloc _) (by exact Row.lit _ (ints [0, 1, 31]) _ _ _ (by simp) (by rfl)) (by omega) (by omega) (fun b off e => by injection e with e; injection e with e _ _; have := HS.out.lt; omega)).mono ?_
    rintro e w5 ⟨x, rfl, hx, hs, hg⟩
    replace G := (grown_alloc G (.cells #[.int .i64 (0), .int .i64 (1), .int .i64 (31)] 2)).trans hg
    replace HS := Lib.hid hs
    clear hx hs hg
    go_wp2_with fail
    go_at_call 47
    refine (l21Draw_any _ _ HS.out).mono ?_
    intro e w6 hd
    obtain ⟨aL, qL, cL, ys, rfl, O_l, hqL, hs, hg⟩ := hd
    replace G := G.trans hg
    replace HS := Lib.hid hs
    clear hs hg
    go_wp2
    go_returns
    exact ⟨_, _, _, ys, _, _, _, rfl, O_l.row, by omega, below_next' B hp1 G⟩
  · have f0 : (t == 0) = false := by simpa using t0
    clear t0
    go_wp2_with fail
    go_at_call 45
    refine (l01Next_any _ _ _ HS.out (by omega)).mono ?_
    rintro e w3 ⟨u, rfl, ⟨hu0, hu1, -⟩, hs, hg⟩
    have hu9 := hu1 (by omega)
    replace G := G.trans hg
    replace HS := Lib.hid hs
    clear hu1 hs hg
    go_wp2_with fail
    go_at_call 45
    refine (l01Next_any _ _ _ HS.out (by omega)).mono ?_
    rintro e w4 ⟨v, rfl, ⟨hv0, hv1, -⟩, hs, hg⟩
    have hv9 := hv1 (by omega)
    replace G := G.trans hg
    replace HS := Lib.hid hs
    clear hv1 hs hg
    go_wp2_with fail
    go_at_call 45
    refine (l01Next_any _ _ _ HS.out (by omega)).mono ?_
    rintro e w5 ⟨x, rfl, ⟨hx0, hx1, -⟩, hs, hg⟩
    have hx9 := hx1 (by omega)
    replace G := G.trans hg
    replace HS := Lib.hid hs
    clear hx1 hs hg
    go_wp2_with fail
    go_at_call 47
    refine (l21Draw_any _ _ HS.out).mono ?_
    intro e w6 hd
    obtain ⟨aL, qL, cL, ys, rfl, O_l, hqL, hs, hg⟩ := hd
    replace G := G.trans hg
    replace HS := Lib.hid hs
    clear hs hg
    go_wp2
    go_returns
    exact ⟨_, _, _, ys, _, _, _, rfl, O_l.row, by omega, below_next' B hp1 G⟩
end Go.Proofs.Ytciicolknphcnaa
