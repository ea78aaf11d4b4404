/- FnGrids' helpers: grids that are alike, an interval within another, a sounding's bounds. -/
import Derived.Test.YtciicolknphcnaaGridM
import Derived.Test.YtciicolknphcnaaPGrids
import Derived.Test.YtciicolknphcnaaLike
import Derived.Handy
namespace Go.Proofs.Ytciicolknphcnaa
open Go.RowKit
set_option maxRecDepth 100000
set_option linter.unusedVariables false
set_option linter.unusedSimpArgs false
set_option linter.unusedVariables false

theorem bdnG {w0 w : World} (h : Below w0.heap.size w0 w) (k : Nat) : Below w0.heap.size w0 (w.drewN k) := ⟨h.os, h.tape, h.output, h.size, h.block⟩
theorem likeRanges_same (a b : Option Addr) (n c d : Nat) (xs : List (Int × Int)) (w : World) (hxs : Row w 2 a n (prs xs)) (hys : Row w 2 b n (prs xs)) (hn : n ≤ 1048576) :
    Calls Try.prog 52 #[.slice a n c, .slice b n d] w fun e w' => e = .returned (.bool true) ∧ Below w.heap.size w w' := by
  go_enter Try.func52, Try.ntmps52
  go_wp2
  go_loopw [5] (fun i wr => ∃ k : Nat, k ≤ n ∧ i = .int .i64 k ∧ Below w.heap.size w wr) (fun i _ => n - (intOf i).toNat)
  case atStart => exact ⟨0, Nat.zero_le _, rfl, Below.refl _ _⟩
  case round =>
    obtain ⟨k, hk, rfl, hbel⟩ := hrel
    by_cases hlt : k < n
    · obtain ⟨b1, off1, x, y, rfl, hc0, hc1, hx⟩ := (hxs.below2 hbel (Nat.le_refl _)).at2 hlt
      obtain ⟨b2, off2, x', y', rfl, hd0, hd1, hy⟩ := (hys.below2 hbel (Nat.le_refl _)).at2 hlt
      have he := hy.out
      rw [hx.out] at he
      simp only [Option.some.injEq, Prod.mk.injEq] at he
      obtain ⟨rfl, rfl⟩ := he
      have hi : (k : Int) < (n : Int) := by omega
      clear hx hy
      go_wp2_with fail
      go_quiet (fail)
      go_wp2
      go_roundw
      case rel => exact ⟨k + 1, by omega, by go_num, bdnG hbel _⟩
      case measure => simp [intOf] <;> omega
    · go_wp2
      go_ret
      exact ⟨rfl, hbel⟩

theorem inside9_any (a b l h : Int) (w : World) (h1 : l ≤ a) (h2 : b ≤ h) : Calls Try.prog 23 #[.agg #[.int .i64 a, .int .i64 b], .agg #[.int .i64 l, .int .i64 h]] w fun e w' => e = .returned (.bool true) ∧ Below w.heap.size w w' := by
  go_enter Try.func23, Try.ntmps23
  go_wp2
  go_ret
  exact ⟨rfl, by go_grown⟩

theorem depthBounds_any (x y d e : Int) (w : World) (h : sndOk (x, y, d, e) = true) : Calls Try.prog 22 #[.agg #[.int .i64 x, .int .i64 y, .int .i64 d, .int .i64 e]] w fun e' w' => e' = .returned (.tuple #[.agg #[.int .i64 (d - e), .int .i64 (d + e)], .int .i64 0]) ∧ Below w.heap.size w w' := by
  obtain ⟨-, -, tz, tu⟩ := sndOk_bd h
  have K1 := Lib.hid ((Blk.new w 47 #[.int .i64 x, .int .i64 y, .int .i64 d, .int .i64 e]).alloc (.cells #[.int .i64 0, .int .i64 0] 49))
  have K2 := Lib.hid (Blk.new' (w.alloc (.cells #[.int .i64 x, .int .i64 y, .int .i64 d, .int .i64 e] 47)) 49 #[.int .i64 0, .int .i64 0] (g := w.heap.size + 1) (by simp))
  have B := Lib.hid (((Below.refl w.heap.size w).alloc (Nat.le_refl _) (.cells #[.int .i64 x, .int .i64 y, .int .i64 d, .int .i64 e] 47)).alloc (by simp) (.cells #[.int .i64 0, .int .i64 0] 49))
  go_enter Try.func22, Try.ntmps22
  go_wp2_with fail
  go_at_call 57
  refine (isSounding_any _ _ _ _ _).mono ?_
  rintro e' w3 ⟨rfl, hb⟩
  replace K1 := Lib.hid (K1.out.belowSelf hb)
  replace K2 := Lib.hid (K2.out.belowSelf hb)
  replace B := Lib.hid (B.out.trans (hb.mono B.out.size))
  clear hb
  have k0 : w3.cell? ⟨w.heap.size, 0, none⟩ = some (.int .i64 x) := K1.out.cell 0
  have k1 : w3.cell? ⟨w.heap.size, 1, none⟩ = some (.int .i64 y) := K1.out.cell 1
  have k2 : w3.cell? ⟨w.heap.size, 2, none⟩ = some (.int .i64 d) := K1.out.cell 2
  have k3 : w3.cell? ⟨w.heap.size, 3, none⟩ = some (.int .i64 e) := K1.out.cell 3
  rw [h]
  go_wp2_with fail
  go_at_call 36
  refine (bounds_any _ _ _ _ _ tz tu).mono ?_
  rintro e' w4 ⟨rfl, hb⟩
  replace K2 := Lib.hid (K2.out.belowSelf hb)
  replace B := Lib.hid (B.out.trans (hb.mono B.out.size))
  clear hb k0 k1 k2 k3
  have z0 : w4.cell? ⟨w.heap.size + 1, 0, none⟩ = some (.int .i64 0) := K2.out.cell 0
  have z1 : w4.cell? ⟨w.heap.size + 1, 1, none⟩ = some (.int .i64 0) := K2.out.cell 1
  have fz0 := K2.out.frozen 0; have fz1 := K2.out.frozen 1
  have hl := K2.out.lt
  go_wp2
  have K6 := (K2.out.set_ 0 (.int .i64 (d - e))).set_ 1 (.int .i64 (d + e))
  have B6 := (B.out.setCell (p := ⟨w.heap.size + 1, 0, none⟩) (by simp) (.int .i64 (d - e))).setCell (p := ⟨w.heap.size + 1, 1, none⟩) (by simp) (.int .i64 (d + e))
  obtain ⟨w6, hw6⟩ : ∃ w6, (w4.setCell ⟨w.heap.size + 1, 0, none⟩ (.int .i64 (d - e))).setCell ⟨w.heap.size + 1, 1, none⟩ (.int .i64 (d + e)) = w6 := ⟨_, rfl⟩
  rw [hw6] at K6 B6 ⊢
  clear z0 z1 fz0 fz1
  have z0 : w6.cell? ⟨w.heap.size + 1, 0, none⟩ = some (.int .i64 (d - e)) := by simpa using K6.cell 0
  have z1 : w6.cell? ⟨w.heap.size + 1, 1, none⟩ = some (.int .i64 (d + e)) := by simpa using K6.cell 1
  exact bodyPost_ret (v := .tuple #[.agg #[.int .i64 (d - e), .int .i64 (d + e)], .int .i64 0]) (by simp [results, go_sem, z0, z1]) rfl ⟨rfl, B6⟩

theorem likeGrids_same (s x y : Int) (a b a2 b2 : Option Addr) (n : Nat) (cs : List Int) (ds : List (Int × Int)) (lo hi lo2 hi2 : Nat) (w : World) (G : GR w lo hi a b n cs ds) (H : GR w lo2 hi2 a2 b2 n cs ds) (hn : n ≤ 900) :
    Calls Try.prog 19 #[.agg #[.int .i64 s, .int .i64 x, .int .i64 y, .slice a n n, .slice b n n], .agg #[.int .i64 s, .int .i64 x, .int .i64 y, .slice a2 n n, .slice b2 n n]] w fun e w' => e = .returned (.bool true) ∧ Below w.heap.size w w' := by
  have K1 := Lib.hid ((Blk.new w 27 #[.int .i64 s, .int .i64 x, .int .i64 y, .slice a n n, .slice b n n]).alloc (.cells #[.int .i64 s, .int .i64 x, .int .i64 y, .slice a2 n n, .slice b2 n n] 27))
  have K2 := Lib.hid (Blk.new' (w.alloc (.cells #[.int .i64 s, .int .i64 x, .int .i64 y, .slice a n n, .slice b n n] 27)) 27 #[.int .i64 s, .int .i64 x, .int .i64 y, .slice a2 n n, .slice b2 n n] (g := w.heap.size + 1) (by simp))
  have B := Lib.hid (((Below.refl w.heap.size w).alloc (Nat.le_refl _) (.cells #[.int .i64 s, .int .i64 x, .int .i64 y, .slice a n n, .slice b n n] 27)).alloc (by simp) (.cells #[.int .i64 s, .int .i64 x, .int .i64 y, .slice a2 n n, .slice b2 n n] 27))
  have r1 := ((G.alloc (.cells #[.int .i64 s, .int .i64 x, .int .i64 y, .slice a n n, .slice b n n] 27)).alloc (.cells #[.int .i64 s, .int .i64 x, .int .i64 y, .slice a2 n n, .slice b2 n n] 27))
  have r2 := ((H.alloc (.cells #[.int .i64 s, .int .i64 x, .int .i64 y, .slice a n n, .slice b n n] 27)).alloc (.cells #[.int .i64 s, .int .i64 x, .int .i64 y, .slice a2 n n, .slice b2 n n] 27))
  have c1 := r1.c.row; have c2 := r2.c.row; have d1 := r1.d.row; have d2 := r2.d.row
  go_enter Try.func19, Try.ntmps19
  go_wp2_with fail
  go_at_call 51
  refine (likeInts_same _ _ _ _ _ _ _ c1 c2 (by omega)).mono ?_
  rintro e w3 ⟨rfl, hb⟩
  replace K1 := Lib.hid (K1.out.belowSelf hb)
  replace K2 := Lib.hid (K2.out.belowSelf hb)
  replace B := Lib.hid (B.out.trans (hb.mono B.out.size))
  have d3 := d1.below2 hb (Nat.le_refl _)
  have d4 := d2.below2 hb (Nat.le_refl _)
  clear hb
  have k10 : w3.cell? ⟨w.heap.size, 0, none⟩ = some (.int .i64 s) := K1.out.cell 0
  have k11 : w3.cell? ⟨w.heap.size, 1, none⟩ = some (.int .i64 x) := K1.out.cell 1
  have k12 : w3.cell? ⟨w.heap.size, 2, none⟩ = some (.int .i64 y) := K1.out.cell 2
  have k13 : w3.cell? ⟨w.heap.size, 3, none⟩ = some (.slice a n n) := K1.out.cell 3
  have k14 : w3.cell? ⟨w.heap.size, 4, none⟩ = some (.slice b n n) := K1.out.cell 4
  have k20 : w3.cell? ⟨w.heap.size + 1, 0, none⟩ = some (.int .i64 s) := K2.out.cell 0
  have k21 : w3.cell? ⟨w.heap.size + 1, 1, none⟩ = some (.int .i64 x) := K2.out.cell 1
  have k22 : w3.cell? ⟨w.heap.size + 1, 2, none⟩ = some (.int .i64 y) := K2.out.cell 2
  have k23 : w3.cell? ⟨w.heap.size + 1, 3, none⟩ = some (.slice a2 n n) := K2.out.cell 3
  have k24 : w3.cell? ⟨w.heap.size + 1, 4, none⟩ = some (.slice b2 n n) := K2.out.cell 4
  go_wp2_with fail
  go_at_call 52
  refine (likeRanges_same _ _ _ _ _ _ _ d3 d4 (by omega)).mono ?_
  rintro e w4 ⟨rfl, hb⟩
  replace B := Lib.hid (B.out.trans (hb.mono B.out.size))
  go_wp2
  go_ret
  exact ⟨rfl, B.out⟩
end Go.Proofs.Ytciicolknphcnaa
