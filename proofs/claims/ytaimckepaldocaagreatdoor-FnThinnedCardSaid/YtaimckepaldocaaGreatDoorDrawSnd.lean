/- Soundings and rules that are drawn, whatever the code. -/
import Derived.Test.YtaimckepaldocaaGreatDoorDraw
import Derived.Test.YtaimckepaldocaaGreatDoorSounding
import Derived.Test.YtaimckepaldocaaGreatDoorSndOk
import Derived.Deep.Cut
import Derived.Outline
namespace Go.Proofs.YtaimckepaldocaaGreatDoor
open Go.RowKit
set_option maxRecDepth 100000
set_option linter.unusedVariables false

def SndDraw (p : Nat) (w : World) (e : Ending) (w' : World) : Prop := ∃ x y d r : Int, e = .returned (.agg #[.int .i64 x, .int .i64 y, .int .i64 d, .int .i64 r]) ∧ SrcOk w' p ∧ w.grownBy w' (some p)

set_option maxHeartbeats 6400000 in
theorem l21DrawOne_any (p : Nat) (w : World) (h : SrcOk w p) :
    Calls Tryz.prog 38 #[.pointer (some ⟨p, 0, none⟩)] w (SndDraw p w) := by
  have hpw := h.lt
  have HS := Lib.hid (h.alloc (.cells #[.int .i64 0, .int .i64 0, .int .i64 0, .int .i64 0] 38))
  have G := grown_alloc (World.grownBy.refl w (some p)) (.cells #[.int .i64 0, .int .i64 0, .int .i64 0, .int .i64 0] 38)
  have J := Lib.hid (Blk.new w 38 #[.int .i64 0, .int .i64 0, .int .i64 0, .int .i64 0])
  go_enter Tryz.func38, Tryz.ntmps38
  go_wp2_with fail
  go_at_call 19
  refine (l01Next_any _ _ _ HS.out (by omega)).mono ?_
  rintro e w1 ⟨x, rfl, ⟨hx0, hx1, -⟩, hs1, hg1⟩
  have hx9 := hx1 (by omega)
  replace G := G.trans hg1
  replace J := Lib.hid (J.out.grown hg1 (fun e => by injection e with e; omega))
  replace HS := Lib.hid hs1
  clear hx1 hs1 hg1
  go_wp2_with fail
  go_at_call 19
  refine (l01Next_any _ _ _ HS.out (by omega)).mono ?_
  rintro e w2 ⟨y, rfl, ⟨hy0, hy1, -⟩, hs2, hg2⟩
  have hy9 := hy1 (by omega)
  replace G := G.trans hg2
  replace J := Lib.hid (J.out.grown hg2 (fun e => by injection e with e; omega))
  replace HS := Lib.hid hs2
  clear hy1 hs2 hg2
  go_wp2_with fail
  go_at_call 19
  refine (l01Next_any _ _ _ HS.out (by omega)).mono ?_
  rintro e w3 ⟨d, rfl, ⟨hd0, hd1, -⟩, hs3, hg3⟩
  have hd9 := hd1 (by omega)
  replace G := G.trans hg3
  replace J := Lib.hid (J.out.grown hg3 (fun e => by injection e with e; omega))
  replace HS := Lib.hid hs3
  clear hd1 hs3 hg3
  go_wp2_with fail
  go_at_call 19
  refine (l01Next_any _ _ _ HS.out (by omega)).mono ?_
  rintro e w4 ⟨r, rfl, ⟨hr0, hr1, -⟩, hs4, hg4⟩
  have hr9 := hr1 (by omega)
  replace G := G.trans hg4
  replace J := Lib.hid (J.out.grown hg4 (fun e => by injection e with e; omega))
  replace HS := Lib.hid hs4
  clear hr1 hs4 hg4
  obtain ⟨X, hX⟩ : ∃ X, w4.heap.size = X := ⟨_, rfl⟩
  have HS5 := HS.out.alloc (.cells #[.int .i64 (x), .int .i64 (y), .int .i64 (1000 + d), .int .i64 (r)] 38)
  have hpX : p < X := by have := HS.out.lt; omega
  have hwX : w.heap.size < X := by have := J.out.lt; omega
  replace G := grown_alloc G (.cells #[.int .i64 (x), .int .i64 (y), .int .i64 (1000 + d), .int .i64 (r)] 38)
  replace J := Lib.hid (J.out.alloc (.cells #[.int .i64 (x), .int .i64 (y), .int .i64 (1000 + d), .int .i64 (r)] 38))
  have K := Lib.hid (Blk.new' w4 38 #[.int .i64 (x), .int .i64 (y), .int .i64 (1000 + d), .int .i64 (r)] (g := X) hX.symm)
  replace HS := Lib.hid HS5
  clear HS5
  go_wp2_with fail
  go_at_call 19
  refine (l01Next_any _ _ _ HS.out (by omega)).mono ?_
  rintro e w5 ⟨t, rfl, -, hs, hg⟩
  replace G := G.trans hg
  replace J := Lib.hid (J.out.grown hg (fun e => by injection e with e; omega))
  replace K := Lib.hid (K.out.grown hg (fun e => by injection e with e; omega))
  replace HS := Lib.hid hs
  clear hs hg
  by_cases t0 : t = 0
  · subst t0
    go_wp2_with fail
    go_at_call 20
    refine (l01Pick_any _ _ _ _ [1000000, 1000001, -2000, -2001] _ (HS.out.alloc _) (by exact Row.lit _ (ints [1000000, 1000001, -2000, -2001]) _ _ _ (by simp) (by rfl)) (by omega) (by omega) (fun b off e => by injection e with e; injection e with e _ _; have := HS.out.lt; omega)).mono ?_
    rintro e w6 ⟨v, rfl, -, hs, hg⟩
    replace G := (grown_alloc G (.cells #[.int .i64 1000000, .int .i64 1000001, .int .i64 (-2000), .int .i64 (-2001)] 2)).trans hg
    replace J := Lib.hid ((J.out.alloc (.cells #[.int .i64 1000000, .int .i64 1000001, .int .i64 (-2000), .int .i64 (-2001)] 2)).grown hg (fun e => by injection e with e; omega))
    replace K := Lib.hid ((K.out.alloc (.cells #[.int .i64 1000000, .int .i64 1000001, .int .i64 (-2000), .int .i64 (-2001)] 2)).grown hg (fun e => by injection e with e; omega))
    replace HS := Lib.hid hs
    clear hs hg
    have u2 : w6.cell? ⟨X, 2, none⟩ = some (.int .i64 (1000 + d)) := K.out.cell 2
    have g2 := K.out.frozen 2
    go_upto_region 9 with (fail)
    clear u2 g2
    obtain ⟨wz, hwz⟩ : ∃ wz, w6.setCell ⟨X, 2, none⟩ (.int .i64 v) = wz := ⟨_, rfl⟩
    have K2 := Lib.hid (show Blk wz X 38 #[.int .i64 (x), .int .i64 (y), .int .i64 (v), .int .i64 (r)] from hwz ▸ (by have h := K.out.set_ 2 (.int .i64 v); simpa using h))
    have J2 := Lib.hid (show Blk wz w.heap.size 38 #[.int .i64 0, .int .i64 0, .int .i64 0, .int .i64 0] from hwz ▸ J.out.far (by simp; omega) _)
    have G2 := Lib.hid (show w.grownBy wz (some p) from hwz ▸ grown_below G ((Below.refl _ _).setCell (p := ⟨X, 2, none⟩) (Nat.le_of_lt hwX) _))
    have HS2 := Lib.hid (show SrcOk wz p from hwz ▸ HS.out.below ((Below.refl (p + 1) w6).setCell (p := ⟨X, 2, none⟩) hpX _) (Nat.lt_succ_self p))
    rw [hwz]
    clear hwz K J G HS
    have q0 : wz.cell? ⟨X, 0, none⟩ = some (.int .i64 (x)) := K2.out.cell 0
    have q1 : wz.cell? ⟨X, 1, none⟩ = some (.int .i64 (y)) := K2.out.cell 1
    have q2 : wz.cell? ⟨X, 2, none⟩ = some (.int .i64 (v)) := K2.out.cell 2
    have q3 : wz.cell? ⟨X, 3, none⟩ = some (.int .i64 (r)) := K2.out.cell 3
    have p0 : wz.cell? ⟨w.heap.size, 0, none⟩ = some (.int .i64 0) := J2.out.cell 0
    have p1 : wz.cell? ⟨w.heap.size, 1, none⟩ = some (.int .i64 0) := J2.out.cell 1
    have p2 : wz.cell? ⟨w.heap.size, 2, none⟩ = some (.int .i64 0) := J2.out.cell 2
    have p3 : wz.cell? ⟨w.heap.size, 3, none⟩ = some (.int .i64 0) := J2.out.cell 3
    have f0 := J2.out.frozen 0
    have f1 := J2.out.frozen 1
    have f2 := J2.out.frozen 2
    have f3 := J2.out.frozen 3
    have HE := Lib.hid ((((J2.out.set_ 0 (.int .i64 (x))).set_ 1 (.int .i64 (y))).set_ 2 (.int .i64 (v))).set_ 3 (.int .i64 (r)))
    have GE := Lib.hid (grown_below G2.out (((((Below.refl w.heap.size wz).setCell (p := ⟨w.heap.size, 0, none⟩) (Nat.le_refl _) (.int .i64 (x))).setCell (p := ⟨w.heap.size, 1, none⟩) (Nat.le_refl _) (.int .i64 (y))).setCell (p := ⟨w.heap.size, 2, none⟩) (Nat.le_refl _) (.int .i64 (v))).setCell (p := ⟨w.heap.size, 3, none⟩) (Nat.le_refl _) (.int .i64 (r))))
    have SE := Lib.hid (HS2.out.below (((((Below.refl (p + 1) wz).setCell (p := ⟨w.heap.size, 0, none⟩) hpw (.int .i64 (x))).setCell (p := ⟨w.heap.size, 1, none⟩) hpw (.int .i64 (y))).setCell (p := ⟨w.heap.size, 2, none⟩) hpw (.int .i64 (v))).setCell (p := ⟨w.heap.size, 3, none⟩) hpw (.int .i64 (r))) (Nat.lt_succ_self p))
    clear K2 J2 G2 HS2
    go_wp2
    have z0 := HE.out.cell 0
    have z1 := HE.out.cell 1
    have z2 := HE.out.cell 2
    have z3 := HE.out.cell 3
    clear q0 p0 f0 q1 p1 f1 q2 p2 f2 q3 p3 f3
    exact bodyPost_ret (v := .agg #[.int .i64 (x), .int .i64 (y), .int .i64 (v), .int .i64 (r)]) (by simp only [results, Tryz.results38, Array.size]; simp [go_sem, z0, z1, z2, z3]) rfl ⟨_, _, _, _, rfl, SE.out, GE.out⟩
  · have f0 : (t == 0) = false := by simpa using t0
    clear t0
    by_cases t1 : t = 1
    · subst t1
      go_wp2_with fail
      go_at_call 20
      refine (l01Pick_any _ _ _ _ [-1, 0, 5000, 5001] _ (HS.out.alloc _) (by exact Row.lit _ (ints [-1, 0, 5000, 5001]) _ _ _ (by simp) (by rfl)) (by omega) (by omega) (fun b off e => by injection e with e; injection e with e _ _; have := HS.out.lt; omega)).mono ?_
      rintro e w6 ⟨v, rfl, -, hs, hg⟩
      replace G := (grown_alloc G (.cells #[.int .i64 (-1), .int .i64 0, .int .i64 5000, .int .i64 5001] 2)).trans hg
      replace J := Lib.hid ((J.out.alloc (.cells #[.int .i64 (-1), .int .i64 0, .int .i64 5000, .int .i64 5001] 2)).grown hg (fun e => by injection e with e; omega))
      replace K := Lib.hid ((K.out.alloc (.cells #[.int .i64 (-1), .int .i64 0, .int .i64 5000, .int .i64 5001] 2)).grown hg (fun e => by injection e with e; omega))
      replace HS := Lib.hid hs
      clear hs hg
      have u3 : w6.cell? ⟨X, 3, none⟩ = some (.int .i64 (r)) := K.out.cell 3
      have g3 := K.out.frozen 3
      go_upto_region 9 with (fail)
      clear u3 g3
      obtain ⟨wz, hwz⟩ : ∃ wz, w6.setCell ⟨X, 3, none⟩ (.int .i64 v) = wz := ⟨_, rfl⟩
      have K2 := Lib.hid (show Blk wz X 38 #[.int .i64 (x), .int .i64 (y), .int .i64 (1000 + d), .int .i64 (v)] from hwz ▸ (by have h := K.out.set_ 3 (.int .i64 v); simpa using h))
      have J2 := Lib.hid (show Blk wz w.heap.size 38 #[.int .i64 0, .int .i64 0, .int .i64 0, .int .i64 0] from hwz ▸ J.out.far (by simp; omega) _)
      have G2 := Lib.hid (show w.grownBy wz (some p) from hwz ▸ grown_below G ((Below.refl _ _).setCell (p := ⟨X, 3, none⟩) (Nat.le_of_lt hwX) _))
      have HS2 := Lib.hid (show SrcOk wz p from hwz ▸ HS.out.below ((Below.refl (p + 1) w6).setCell (p := ⟨X, 3, none⟩) hpX _) (Nat.lt_succ_self p))
      rw [hwz]
      clear hwz K J G HS
      have q0 : wz.cell? ⟨X, 0, none⟩ = some (.int .i64 (x)) := K2.out.cell 0
      have q1 : wz.cell? ⟨X, 1, none⟩ = some (.int .i64 (y)) := K2.out.cell 1
      have q2 : wz.cell? ⟨X, 2, none⟩ = some (.int .i64 (1000 + d)) := K2.out.cell 2
      have q3 : wz.cell? ⟨X, 3, none⟩ = some (.int .i64 (v)) := K2.out.cell 3
      have p0 : wz.cell? ⟨w.heap.size, 0, none⟩ = some (.int .i64 0) := J2.out.cell 0
      have p1 : wz.cell? ⟨w.heap.size, 1, none⟩ = some (.int .i64 0) := J2.out.cell 1
      have p2 : wz.cell? ⟨w.heap.size, 2, none⟩ = some (.int .i64 0) := J2.out.cell 2
      have p3 : wz.cell? ⟨w.heap.size, 3, none⟩ = some (.int .i64 0) := J2.out.cell 3
      have f0 := J2.out.frozen 0
      have f1 := J2.out.frozen 1
      have f2 := J2.out.frozen 2
      have f3 := J2.out.frozen 3
      have HE := Lib.hid ((((J2.out.set_ 0 (.int .i64 (x))).set_ 1 (.int .i64 (y))).set_ 2 (.int .i64 (1000 + d))).set_ 3 (.int .i64 (v)))
      have GE := Lib.hid (grown_below G2.out (((((Below.refl w.heap.size wz).setCell (p := ⟨w.heap.size, 0, none⟩) (Nat.le_refl _) (.int .i64 (x))).setCell (p := ⟨w.heap.size, 1, none⟩) (Nat.le_refl _) (.int .i64 (y))).setCell (p := ⟨w.heap.size, 2, none⟩) (Nat.le_refl _) (.int .i64 (1000 + d))).setCell (p := ⟨w.heap.size, 3, none⟩) (Nat.le_refl _) (.int .i64 (v))))
      have SE := Lib.hid (HS2.out.below (((((Below.refl (p + 1) wz).setCell (p := ⟨w.heap.size, 0, none⟩) hpw (.int .i64 (x))).setCell (p := ⟨w.heap.size, 1, none⟩) hpw (.int .i64 (y))).setCell (p := ⟨w.heap.size, 2, none⟩) hpw (.int .i64 (1000 + d))).setCell (p := ⟨w.heap.size, 3, none⟩) hpw (.int .i64 (v))) (Nat.lt_succ_self p))
      clear K2 J2 G2 HS2
      go_wp2
      have z0 := HE.out.cell 0
      have z1 := HE.out.cell 1
      have z2 := HE.out.cell 2
      have z3 := HE.out.cell 3
      clear q0 p0 f0 q1 p1 f1 q2 p2 f2 q3 p3 f3
      exact bodyPost_ret (v := .agg #[.int .i64 (x), .int .i64 (y), .int .i64 (1000 + d), .int .i64 (v)]) (by simp only [results, Tryz.results38, Array.size]; simp [go_sem, z0, z1, z2, z3]) rfl ⟨_, _, _, _, rfl, SE.out, GE.out⟩
    · have f1 : (t == 1) = false := by simpa using t1
      clear t1
      by_cases t2 : t = 2
      · subst t2
        go_wp2_with fail
        go_at_call 20
        refine (l01Pick_any _ _ _ _ [-1, 10000, 10001] _ (HS.out.alloc _) (by exact Row.lit _ (ints [-1, 10000, 10001]) _ _ _ (by simp) (by rfl)) (by omega) (by omega) (fun b off e => by injection e with e; injection e with e _ _; have := HS.out.lt; omega)).mono ?_
        rintro e w6 ⟨v, rfl, -, hs, hg⟩
        replace G := (grown_alloc G (.cells #[.int .i64 (-1), .int .i64 10000, .int .i64 10001] 2)).trans hg
        replace J := Lib.hid ((J.out.alloc (.cells #[.int .i64 (-1), .int .i64 10000, .int .i64 10001] 2)).grown hg (fun e => by injection e with e; omega))
        replace K := Lib.hid ((K.out.alloc (.cells #[.int .i64 (-1), .int .i64 10000, .int .i64 10001] 2)).grown hg (fun e => by injection e with e; omega))
        replace HS := Lib.hid hs
        clear hs hg
        have u0 : w6.cell? ⟨X, 0, none⟩ = some (.int .i64 (x)) := K.out.cell 0
        have g0 := K.out.frozen 0
        go_upto_region 9 with (fail)
        clear u0 g0
        obtain ⟨wz, hwz⟩ : ∃ wz, w6.setCell ⟨X, 0, none⟩ (.int .i64 v) = wz := ⟨_, rfl⟩
        have K2 := Lib.hid (show Blk wz X 38 #[.int .i64 (v), .int .i64 (y), .int .i64 (1000 + d), .int .i64 (r)] from hwz ▸ (by have h := K.out.set_ 0 (.int .i64 v); simpa using h))
        have J2 := Lib.hid (show Blk wz w.heap.size 38 #[.int .i64 0, .int .i64 0, .int .i64 0, .int .i64 0] from hwz ▸ J.out.far (by simp; omega) _)
        have G2 := Lib.hid (show w.grownBy wz (some p) from hwz ▸ grown_below G ((Below.refl _ _).setCell (p := ⟨X, 0, none⟩) (Nat.le_of_lt hwX) _))
        have HS2 := Lib.hid (show SrcOk wz p from hwz ▸ HS.out.below ((Below.refl (p + 1) w6).setCell (p := ⟨X, 0, none⟩) hpX _) (Nat.lt_succ_self p))
        rw [hwz]
        clear hwz K J G HS
        have q0 : wz.cell? ⟨X, 0, none⟩ = some (.int .i64 (v)) := K2.out.cell 0
        have q1 : wz.cell? ⟨X, 1, none⟩ = some (.int .i64 (y)) := K2.out.cell 1
        have q2 : wz.cell? ⟨X, 2, none⟩ = some (.int .i64 (1000 + d)) := K2.out.cell 2
        have q3 : wz.cell? ⟨X, 3, none⟩ = some (.int .i64 (r)) := K2.out.cell 3
        have p0 : wz.cell? ⟨w.heap.size, 0, none⟩ = some (.int .i64 0) := J2.out.cell 0
        have p1 : wz.cell? ⟨w.heap.size, 1, none⟩ = some (.int .i64 0) := J2.out.cell 1
        have p2 : wz.cell? ⟨w.heap.size, 2, none⟩ = some (.int .i64 0) := J2.out.cell 2
        have p3 : wz.cell? ⟨w.heap.size, 3, none⟩ = some (.int .i64 0) := J2.out.cell 3
        have f0 := J2.out.frozen 0
        have f1 := J2.out.frozen 1
        have f2 := J2.out.frozen 2
        have f3 := J2.out.frozen 3
        have HE := Lib.hid ((((J2.out.set_ 0 (.int .i64 (v))).set_ 1 (.int .i64 (y))).set_ 2 (.int .i64 (1000 + d))).set_ 3 (.int .i64 (r)))
        have GE := Lib.hid (grown_below G2.out (((((Below.refl w.heap.size wz).setCell (p := ⟨w.heap.size, 0, none⟩) (Nat.le_refl _) (.int .i64 (v))).setCell (p := ⟨w.heap.size, 1, none⟩) (Nat.le_refl _) (.int .i64 (y))).setCell (p := ⟨w.heap.size, 2, none⟩) (Nat.le_refl _) (.int .i64 (1000 + d))).setCell (p := ⟨w.heap.size, 3, none⟩) (Nat.le_refl _) (.int .i64 (r))))
        have SE := Lib.hid (HS2.out.below (((((Below.refl (p + 1) wz).setCell (p := ⟨w.heap.size, 0, none⟩) hpw (.int .i64 (v))).setCell (p := ⟨w.heap.size, 1, none⟩) hpw (.int .i64 (y))).setCell (p := ⟨w.heap.size, 2, none⟩) hpw (.int .i64 (1000 + d))).setCell (p := ⟨w.heap.size, 3, none⟩) hpw (.int .i64 (r))) (Nat.lt_succ_self p))
        clear K2 J2 G2 HS2
        go_wp2
        have z0 := HE.out.cell 0
        have z1 := HE.out.cell 1
        have z2 := HE.out.cell 2
        have z3 := HE.out.cell 3
        clear q0 p0 f0 q1 p1 f1 q2 p2 f2 q3 p3 f3
        exact bodyPost_ret (v := .agg #[.int .i64 (v), .int .i64 (y), .int .i64 (1000 + d), .int .i64 (r)]) (by simp only [results, Tryz.results38, Array.size]; simp [go_sem, z0, z1, z2, z3]) rfl ⟨_, _, _, _, rfl, SE.out, GE.out⟩
      · have f2 : (t == 2) = false := by simpa using t2
        clear t2
        have q0 : w5.cell? ⟨X, 0, none⟩ = some (.int .i64 (x)) := K.out.cell 0
        have q1 : w5.cell? ⟨X, 1, none⟩ = some (.int .i64 (y)) := K.out.cell 1
        have q2 : w5.cell? ⟨X, 2, none⟩ = some (.int .i64 (1000 + d)) := K.out.cell 2
        have q3 : w5.cell? ⟨X, 3, none⟩ = some (.int .i64 (r)) := K.out.cell 3
        have p0 : w5.cell? ⟨w.heap.size, 0, none⟩ = some (.int .i64 0) := J.out.cell 0
        have p1 : w5.cell? ⟨w.heap.size, 1, none⟩ = some (.int .i64 0) := J.out.cell 1
        have p2 : w5.cell? ⟨w.heap.size, 2, none⟩ = some (.int .i64 0) := J.out.cell 2
        have p3 : w5.cell? ⟨w.heap.size, 3, none⟩ = some (.int .i64 0) := J.out.cell 3
        have f0 := J.out.frozen 0
        have f1 := J.out.frozen 1
        have f2 := J.out.frozen 2
        have f3 := J.out.frozen 3
        have HE := Lib.hid ((((J.out.set_ 0 (.int .i64 (x))).set_ 1 (.int .i64 (y))).set_ 2 (.int .i64 (1000 + d))).set_ 3 (.int .i64 (r)))
        have GE := Lib.hid (grown_below G (((((Below.refl w.heap.size w5).setCell (p := ⟨w.heap.size, 0, none⟩) (Nat.le_refl _) (.int .i64 (x))).setCell (p := ⟨w.heap.size, 1, none⟩) (Nat.le_refl _) (.int .i64 (y))).setCell (p := ⟨w.heap.size, 2, none⟩) (Nat.le_refl _) (.int .i64 (1000 + d))).setCell (p := ⟨w.heap.size, 3, none⟩) (Nat.le_refl _) (.int .i64 (r))))
        have SE := Lib.hid (HS.out.below (((((Below.refl (p + 1) w5).setCell (p := ⟨w.heap.size, 0, none⟩) hpw (.int .i64 (x))).setCell (p := ⟨w.heap.size, 1, none⟩) hpw (.int .i64 (y))).setCell (p := ⟨w.heap.size, 2, none⟩) hpw (.int .i64 (1000 + d))).setCell (p := ⟨w.heap.size, 3, none⟩) hpw (.int .i64 (r))) (Nat.lt_succ_self p))
        clear K J G HS
        go_wp2
        have z0 := HE.out.cell 0
        have z1 := HE.out.cell 1
        have z2 := HE.out.cell 2
        have z3 := HE.out.cell 3
        clear q0 p0 f0 q1 p1 f1 q2 p2 f2 q3 p3 f3
        exact bodyPost_ret (v := .agg #[.int .i64 (x), .int .i64 (y), .int .i64 (1000 + d), .int .i64 (r)]) (by simp only [results, Tryz.results38, Array.size]; simp [go_sem, z0, z1, z2, z3]) rfl ⟨_, _, _, _, rfl, SE.out, GE.out⟩

def RuleDraw (p : Nat) (w : World) (e : Ending) (w' : World) : Prop := ∃ r l m : Int, e = .returned (.agg #[.int .i64 r, .int .i64 l, .int .i64 m]) ∧ SrcOk w' p ∧ w.grownBy w' (some p)

end Go.Proofs.YtaimckepaldocaaGreatDoor
