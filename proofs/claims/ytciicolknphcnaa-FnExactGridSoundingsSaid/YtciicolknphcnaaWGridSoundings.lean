/- The walk of FnExactGridSoundings: it returns true and writes nothing that was there. -/
import Derived.Test.YtciicolknphcnaaRows
import Derived.Test.YtciicolknphcnaaGridU
import Derived.Test.YtciicolknphcnaaGridM
import Derived.Test.YtciicolknphcnaaSounding
import Derived.WalkKit
import Derived.Handy
namespace Go.Proofs.Ytciicolknphcnaa.fnExactGridSoundings
open Go.RowKit
set_option maxRecDepth 100000
set_option linter.unusedVariables false
set_option linter.unusedVariables false

set_option maxRecDepth 100000 in
set_option maxHeartbeats 6400000 in
theorem walk (x0 : Int) (x1 : Int) (x2 : Int) (a0 : Option Addr) (n0 c0 : Nat) (xs0 : List (Int × Int × Int × Int)) (w : World) (_ : I64 x0) (_ : I64 x1) (_ : I64 x2) (f0 : Arr4 w a0 n0 xs0) :
    Calls Try.prog 3 #[.int .i64 x0, .int .i64 x1, .int .i64 x2, .slice a0 n0 c0] w fun e w' => e = .returned (.bool true) ∧ Below w.heap.size w w' := by
  obtain ⟨f0, g0, -⟩ := f0
  have G0 : (n0 : Int) ≤ 9223372036854775807 := by unfold maxLen at g0; omega
  by_cases L0 : 1048576 < n0
  · have Z := szOf_neg (l := 1048576) (n := n0) (by omega)
    go_enter Try.func3, Try.ntmps3
    go_wp2_with (go_at_call 5; refine (szSoundingS_any _ _ _ _ _ (by omega) (by omega) G0).mono ?_; rintro e w' ⟨rfl, rfl⟩)
    go_ret
    exact ⟨rfl, Below.refl _ _⟩
  have Z := szOf_pos (l := 1048576) (n := n0) (by omega)
  obtain ⟨r, hr⟩ : ∃ r, gridSnd x0 x1 x2 xs0 = r := ⟨_, rfl⟩
  obtain ⟨⟨S, X, Y⟩, ⟨cs, ds⟩, cd⟩ := r
  have Hspec := Lib.hid (fun (a : Option Addr) (c : Nat) (w : World) (h : Row w 4 a n0 (frs xs0)) => (gridSnd_spec x0 x1 x2 a n0 c xs0 w h (by omega)).mono (fun e w' he => RPost.of hr he))
  have Himpl := Lib.hid (fun (a : Option Addr) (c : Nat) (w : World) (h : Row w 4 a n0 (frs xs0)) => (gridSnd_impl x0 x1 x2 a n0 c xs0 w h (by omega)).mono (fun e w' he => RPost.of hr he))
  clear hr
  have B := Below.refl w.heap.size w
  have s0 : w.heap.size ≤ w.heap.size := Nat.le_refl _
  go_enter Try.func3, Try.ntmps3
  go_wp2_with fail
  go_at_call 5
  refine (szSoundingS_any _ _ _ _ _ (by omega) (by omega) G0).mono ?_
  rintro e wq ⟨rfl, rfl⟩
  rw [Z]
  have Z2 : ¬ (1048576 : Int) - n0 < 0 := by omega
  clear Z
  have r0 := f0.below4 B (Nat.le_refl _)
  go_wp2_with fail
  go_at_call 7
  refine (toSoundingS_any _ _ _ _ _ r0 (by omega)).mono ?_
  rintro e w1 ⟨a_t, c_t, rfl, o_t, b⟩
  replace B := B.trans (b.mono (by have := B.size; omega))
  have s1 := b.size
  clear b r0
  have r_t := o_t.row
  go_wp2_with fail
  go_at_call 6
  refine (Hspec.out _ _ _ r_t).mono ?_
  rintro e w2 ⟨aW, bW, nW, rfl, lW, o_W, b⟩
  replace B := B.trans (b.mono (by have := B.size; omega))
  replace o_t := o_t.below b (.inr (Nat.le_refl _))
  have s2 := b.size
  clear b
  obtain ⟨XW, hXW⟩ : ∃ X, w2.heap.size = X := ⟨_, rfl⟩
  have K_W := Lib.hid (Blk.new' w2 27 #[.int .i64 S, .int .i64 X, .int .i64 Y, .slice aW nW nW, .slice bW nW nW] (g := XW) hXW.symm)
  replace B := B.alloc (by have := B.size; omega) (.cells #[.int .i64 S, .int .i64 X, .int .i64 Y, .slice aW nW nW, .slice bW nW nW] 27)
  replace o_t := (o_t.alloc (.cells #[.int .i64 S, .int .i64 X, .int .i64 Y, .slice aW nW nW, .slice bW nW nW] 27))
  replace o_W := (o_W.alloc (.cells #[.int .i64 S, .int .i64 X, .int .i64 Y, .slice aW nW nW, .slice bW nW nW] 27))
  have zW : XW ≤ w2.heap.size := by omega
  have yW : w2.heap.size ≤ XW := by omega
  have yyW := K_W.out.lt
  have sa2 : w2.heap.size ≤ (w2.alloc (.cells #[.int .i64 S, .int .i64 X, .int .i64 Y, .slice aW nW nW, .slice bW nW nW] 27)).heap.size := by simp
  clear o_t r_t
  have r0 := f0.below4 B (Nat.le_refl _)
  go_wp2_with fail
  go_at_call 7
  refine (toSoundingS_any _ _ _ _ _ r0 (by omega)).mono ?_
  rintro e w3 ⟨a_x, c_x, rfl, o_x, b⟩
  replace B := B.trans (b.mono (by have := B.size; omega))
  replace o_W := o_W.below b (.inr (Nat.le_refl _))
  replace K_W := Lib.hid (K_W.out.belowSelf b)
  have s3 := b.size
  clear b r0
  have r_x := o_x.row
  go_wp2_with fail
  go_at_call 8
  refine (Himpl.out _ _ _ r_x).mono ?_
  rintro e w4 ⟨aG, bG, nG, rfl, lG, o_G, b⟩
  replace B := B.trans (b.mono (by have := B.size; omega))
  replace o_W := o_W.below b (.inr (Nat.le_refl _))
  replace o_x := o_x.below b (.inr (Nat.le_refl _))
  replace K_W := Lib.hid (K_W.out.belowSelf b)
  have s4 := b.size
  clear b
  obtain ⟨XG, hXG⟩ : ∃ X, w4.heap.size = X := ⟨_, rfl⟩
  have K_G := Lib.hid (Blk.new' w4 27 #[.int .i64 S, .int .i64 X, .int .i64 Y, .slice aG nG nG, .slice bG nG nG] (g := XG) hXG.symm)
  replace B := B.alloc (by have := B.size; omega) (.cells #[.int .i64 S, .int .i64 X, .int .i64 Y, .slice aG nG nG, .slice bG nG nG] 27)
  replace o_W := (o_W.alloc (.cells #[.int .i64 S, .int .i64 X, .int .i64 Y, .slice aG nG nG, .slice bG nG nG] 27))
  replace o_x := (o_x.alloc (.cells #[.int .i64 S, .int .i64 X, .int .i64 Y, .slice aG nG nG, .slice bG nG nG] 27))
  replace o_G := (o_G.alloc (.cells #[.int .i64 S, .int .i64 X, .int .i64 Y, .slice aG nG nG, .slice bG nG nG] 27))
  replace K_W := Lib.hid (K_W.out.alloc (.cells #[.int .i64 S, .int .i64 X, .int .i64 Y, .slice aG nG nG, .slice bG nG nG] 27))
  have zG : XG ≤ w4.heap.size := by omega
  have yG : w4.heap.size ≤ XG := by omega
  have yyG := K_G.out.lt
  have sa4 : w4.heap.size ≤ (w4.alloc (.cells #[.int .i64 S, .int .i64 X, .int .i64 Y, .slice aG nG nG, .slice bG nG nG] 27)).heap.size := by simp
  clear r_x
  have g0 : (w4.alloc (.cells #[.int .i64 S, .int .i64 X, .int .i64 Y, .slice aG nG nG, .slice bG nG nG] 27)).cell? ⟨XG, 0, none⟩ = some (.int .i64 S) := K_G.out.cell 0
  have g1 : (w4.alloc (.cells #[.int .i64 S, .int .i64 X, .int .i64 Y, .slice aG nG nG, .slice bG nG nG] 27)).cell? ⟨XG, 1, none⟩ = some (.int .i64 X) := K_G.out.cell 1
  have g2 : (w4.alloc (.cells #[.int .i64 S, .int .i64 X, .int .i64 Y, .slice aG nG nG, .slice bG nG nG] 27)).cell? ⟨XG, 2, none⟩ = some (.int .i64 Y) := K_G.out.cell 2
  have g3 : (w4.alloc (.cells #[.int .i64 S, .int .i64 X, .int .i64 Y, .slice aG nG nG, .slice bG nG nG] 27)).cell? ⟨XG, 3, none⟩ = some (.slice aG nG nG) := K_G.out.cell 3
  have g4 : (w4.alloc (.cells #[.int .i64 S, .int .i64 X, .int .i64 Y, .slice aG nG nG, .slice bG nG nG] 27)).cell? ⟨XG, 4, none⟩ = some (.slice bG nG nG) := K_G.out.cell 4
  have hlG := K_G.out.lt
  have w0 : (w4.alloc (.cells #[.int .i64 S, .int .i64 X, .int .i64 Y, .slice aG nG nG, .slice bG nG nG] 27)).cell? ⟨XW, 0, none⟩ = some (.int .i64 S) := K_W.out.cell 0
  have w1 : (w4.alloc (.cells #[.int .i64 S, .int .i64 X, .int .i64 Y, .slice aG nG nG, .slice bG nG nG] 27)).cell? ⟨XW, 1, none⟩ = some (.int .i64 X) := K_W.out.cell 1
  have w2 : (w4.alloc (.cells #[.int .i64 S, .int .i64 X, .int .i64 Y, .slice aG nG nG, .slice bG nG nG] 27)).cell? ⟨XW, 2, none⟩ = some (.int .i64 Y) := K_W.out.cell 2
  have w3 : (w4.alloc (.cells #[.int .i64 S, .int .i64 X, .int .i64 Y, .slice aG nG nG, .slice bG nG nG] 27)).cell? ⟨XW, 3, none⟩ = some (.slice aW nW nW) := K_W.out.cell 3
  have w4 : (w4.alloc (.cells #[.int .i64 S, .int .i64 X, .int .i64 Y, .slice aG nG nG, .slice bG nG nG] 27)).cell? ⟨XW, 4, none⟩ = some (.slice bW nW nW) := K_W.out.cell 4
  have hlW := K_W.out.lt
  have rc_G := o_G.c.row
  have rd_G := o_G.d.row
  have rc_W := o_W.c.row
  have rd_W := o_W.d.row
  go_wp2_with fail
  go_at_call 9
  refine (eqDepthGrid_any _ _ _ _ _ _ _ _ _ _ _ _ _ _ _ _ _ _ _ _ _ _ _ rc_G rd_G rc_W rd_W (by omega) (by omega) rfl rfl rfl rfl rfl).mono ?_
  rintro e w5 ⟨rfl, b⟩
  clear g0 g1 g2 g3 g4 w0 w1 w2 w3 w4
  replace B := B.trans (b.mono (by have := B.size; omega))
  replace o_W := o_W.below b (.inr (Nat.le_refl _))
  replace o_x := o_x.below b (.inr (Nat.le_refl _))
  replace o_G := o_G.below b (.inr (Nat.le_refl _))
  replace K_W := Lib.hid (K_W.out.belowSelf b)
  replace K_G := Lib.hid (K_G.out.belowSelf b)
  have s5 := b.size
  clear b rc_G rc_W rd_G rd_W
  have r0 := f0.below4 B (Nat.le_refl _)
  go_wp2_with fail
  go_at_call 7
  refine (toSoundingS_any _ _ _ _ _ r0 (by omega)).mono ?_
  rintro e w6 ⟨a_u, c_u, rfl, o_u, b⟩
  replace B := B.trans (b.mono (by have := B.size; omega))
  replace o_W := o_W.below b (.inr (Nat.le_refl _))
  replace o_x := o_x.below b (.inr (Nat.le_refl _))
  replace o_G := o_G.below b (.inr (Nat.le_refl _))
  replace K_W := Lib.hid (K_W.out.belowSelf b)
  replace K_G := Lib.hid (K_G.out.belowSelf b)
  have s6 := b.size
  clear b r0
  have r_u := o_u.row
  have r_x := o_x.row
  go_wp2_with fail
  go_at_call 10
  refine (eqSoundingS_any _ _ _ _ _ _ _ _ _ r_x r_u (by omega)).mono ?_
  rintro e w7 ⟨rfl, b⟩
  rw [decide_eq_true rfl]
  replace B := B.trans (b.mono (by have := B.size; omega))
  replace o_W := o_W.below b (.inr (Nat.le_refl _))
  replace o_x := o_x.below b (.inr (Nat.le_refl _))
  replace o_G := o_G.below b (.inr (Nat.le_refl _))
  replace o_u := o_u.below b (.inr (Nat.le_refl _))
  replace K_W := Lib.hid (K_W.out.belowSelf b)
  replace K_G := Lib.hid (K_G.out.belowSelf b)
  have s7 := b.size
  clear b r_x
  clear o_u r_u
  go_wp2_with fail
  go_at_call 11
  refine (markSoundingS_any _ _ _ _ _ _ _ _ o_x (by omega) (by omega) (by omega)).mono ?_
  rintro e w8 ⟨rfl, -, hg⟩
  have lx := o_x.lt
  replace B := B.grown hg (by have := B.size; omega) (fun g hg => by have := lx g hg; omega)
  replace o_W := o_W.apart hg (fun g hg => by have := lx g hg; omega)
  replace o_G := o_G.apart hg (fun g hg => by have := lx g hg; omega)
  replace K_W := Lib.hid (K_W.out.grown hg (fun e => by have := lx _ e.symm; omega))
  replace K_G := Lib.hid (K_G.out.grown hg (fun e => by have := lx _ e.symm; omega))
  have s8 := hg.size
  clear hg lx o_x
  have g0 : w8.cell? ⟨XG, 0, none⟩ = some (.int .i64 S) := K_G.out.cell 0
  have g1 : w8.cell? ⟨XG, 1, none⟩ = some (.int .i64 X) := K_G.out.cell 1
  have g2 : w8.cell? ⟨XG, 2, none⟩ = some (.int .i64 Y) := K_G.out.cell 2
  have g3 : w8.cell? ⟨XG, 3, none⟩ = some (.slice aG nG nG) := K_G.out.cell 3
  have g4 : w8.cell? ⟨XG, 4, none⟩ = some (.slice bG nG nG) := K_G.out.cell 4
  have hlG := K_G.out.lt
  have w0 : w8.cell? ⟨XW, 0, none⟩ = some (.int .i64 S) := K_W.out.cell 0
  have w1 : w8.cell? ⟨XW, 1, none⟩ = some (.int .i64 X) := K_W.out.cell 1
  have w2 : w8.cell? ⟨XW, 2, none⟩ = some (.int .i64 Y) := K_W.out.cell 2
  have w3 : w8.cell? ⟨XW, 3, none⟩ = some (.slice aW nW nW) := K_W.out.cell 3
  have w4 : w8.cell? ⟨XW, 4, none⟩ = some (.slice bW nW nW) := K_W.out.cell 4
  have hlW := K_W.out.lt
  have rc_G := o_G.c.row
  have rd_G := o_G.d.row
  have rc_W := o_W.c.row
  have rd_W := o_W.d.row
  go_wp2_with fail
  go_at_call 9
  refine (eqDepthGrid_any _ _ _ _ _ _ _ _ _ _ _ _ _ _ _ _ _ _ _ _ _ _ _ rc_G rd_G rc_W rd_W (by omega) (by omega) rfl rfl rfl rfl rfl).mono ?_
  rintro e w9 ⟨rfl, b⟩
  clear g0 g1 g2 g3 g4 w0 w1 w2 w3 w4
  replace B := B.trans (b.mono (by have := B.size; omega))
  replace o_W := o_W.below b (.inr (Nat.le_refl _))
  replace o_G := o_G.below b (.inr (Nat.le_refl _))
  replace K_W := Lib.hid (K_W.out.belowSelf b)
  replace K_G := Lib.hid (K_G.out.belowSelf b)
  have s9 := b.size
  clear b rc_G rc_W rd_G rd_W
  have g0 : w9.cell? ⟨XG, 0, none⟩ = some (.int .i64 S) := K_G.out.cell 0
  have g1 : w9.cell? ⟨XG, 1, none⟩ = some (.int .i64 X) := K_G.out.cell 1
  have g2 : w9.cell? ⟨XG, 2, none⟩ = some (.int .i64 Y) := K_G.out.cell 2
  have g3 : w9.cell? ⟨XG, 3, none⟩ = some (.slice aG nG nG) := K_G.out.cell 3
  have g4 : w9.cell? ⟨XG, 4, none⟩ = some (.slice bG nG nG) := K_G.out.cell 4
  have hlG := K_G.out.lt
  go_wp2_with fail
  go_at_call 12
  refine (markGrid_any _ _ _ _ _ _ _ _ _ _ _ o_G lG).mono ?_
  rintro e w10 ⟨rfl, q, wm, hg, hg2⟩
  have lg := o_G.c.lt
  have lg2 := o_G.d.lt
  replace B := ((B.alloc (by have := B.size; omega) (.cells #[.int .i64 S, .int .i64 X, .int .i64 Y, .slice aG nG nG, .slice bG nG nG] 27)).grown hg (by have := B.size; simp; omega) (fun g hg => by have := lg g hg; omega)).grown hg2 (by have := B.size; have := hg.size; simp at this; omega) (fun g hg => by have := lg2 g hg; omega)
  replace o_W := ((o_W.alloc (.cells #[.int .i64 S, .int .i64 X, .int .i64 Y, .slice aG nG nG, .slice bG nG nG] 27)).apart hg (fun g hg => by have := lg g hg; omega)).apart hg2 (fun g hg => by have := lg2 g hg; omega)
  replace K_W := Lib.hid (((K_W.out.alloc (.cells #[.int .i64 S, .int .i64 X, .int .i64 Y, .slice aG nG nG, .slice bG nG nG] 27)).grown hg (fun e => by have := lg _ e.symm; omega)).grown hg2 (fun e => by have := lg2 _ e.symm; omega))
  replace K_G := Lib.hid (((K_G.out.alloc (.cells #[.int .i64 S, .int .i64 X, .int .i64 Y, .slice aG nG nG, .slice bG nG nG] 27)).grown hg (fun e => by have := lg _ e.symm; omega)).grown hg2 (fun e => by have := lg2 _ e.symm; omega))
  have s10 := Nat.le_trans hg.size hg2.size
  simp at s10
  replace o_G := q
  clear hg hg2 lg lg2 q
  clear g0 g1 g2 g3 g4
  have g0 : w10.cell? ⟨XG, 0, none⟩ = some (.int .i64 S) := K_G.out.cell 0
  have g1 : w10.cell? ⟨XG, 1, none⟩ = some (.int .i64 X) := K_G.out.cell 1
  have g2 : w10.cell? ⟨XG, 2, none⟩ = some (.int .i64 Y) := K_G.out.cell 2
  have g3 : w10.cell? ⟨XG, 3, none⟩ = some (.slice aG nG nG) := K_G.out.cell 3
  have g4 : w10.cell? ⟨XG, 4, none⟩ = some (.slice bG nG nG) := K_G.out.cell 4
  have hlG := K_G.out.lt
  go_wp2_with fail
  go_at_call 13
  refine (heldGrid_any _ _ _ _ _ _ _ _ _ o_G lG).mono ?_
  rintro e w11 ⟨rfl, b⟩
  clear g0 g1 g2 g3 g4
  replace B := B.trans (b.mono (by have := B.size; omega))
  replace o_W := o_W.below b (.inr (Nat.le_refl _))
  replace o_G := o_G.below b (.inr (Nat.le_refl _))
  replace K_W := Lib.hid (K_W.out.belowSelf b)
  replace K_G := Lib.hid (K_G.out.belowSelf b)
  have s11 := b.size
  clear b
  have r0 := f0.below4 B (Nat.le_refl _)
  go_wp2_with fail
  go_at_call 7
  refine (toSoundingS_any _ _ _ _ _ r0 (by omega)).mono ?_
  rintro e w12 ⟨a_v, c_v, rfl, o_v, b⟩
  replace B := B.trans (b.mono (by have := B.size; omega))
  replace o_W := o_W.below b (.inr (Nat.le_refl _))
  replace o_G := o_G.below b (.inr (Nat.le_refl _))
  replace K_W := Lib.hid (K_W.out.belowSelf b)
  replace K_G := Lib.hid (K_G.out.belowSelf b)
  have s12 := b.size
  clear b r0
  have r_v := o_v.row
  go_wp2_with fail
  go_at_call 8
  refine (Himpl.out _ _ _ r_v).mono ?_
  rintro e w13 ⟨aZ, bZ, nZ, rfl, lZ, o_Z, b⟩
  replace B := B.trans (b.mono (by have := B.size; omega))
  replace o_W := o_W.below b (.inr (Nat.le_refl _))
  replace o_G := o_G.below b (.inr (Nat.le_refl _))
  replace o_v := o_v.below b (.inr (Nat.le_refl _))
  replace K_W := Lib.hid (K_W.out.belowSelf b)
  replace K_G := Lib.hid (K_G.out.belowSelf b)
  have s13 := b.size
  clear b
  obtain ⟨XZ, hXZ⟩ : ∃ X, w13.heap.size = X := ⟨_, rfl⟩
  have K_Z := Lib.hid (Blk.new' w13 27 #[.int .i64 S, .int .i64 X, .int .i64 Y, .slice aZ nZ nZ, .slice bZ nZ nZ] (g := XZ) hXZ.symm)
  replace B := B.alloc (by have := B.size; omega) (.cells #[.int .i64 S, .int .i64 X, .int .i64 Y, .slice aZ nZ nZ, .slice bZ nZ nZ] 27)
  replace o_W := (o_W.alloc (.cells #[.int .i64 S, .int .i64 X, .int .i64 Y, .slice aZ nZ nZ, .slice bZ nZ nZ] 27))
  replace o_G := (o_G.alloc (.cells #[.int .i64 S, .int .i64 X, .int .i64 Y, .slice aZ nZ nZ, .slice bZ nZ nZ] 27))
  replace o_v := (o_v.alloc (.cells #[.int .i64 S, .int .i64 X, .int .i64 Y, .slice aZ nZ nZ, .slice bZ nZ nZ] 27))
  replace o_Z := (o_Z.alloc (.cells #[.int .i64 S, .int .i64 X, .int .i64 Y, .slice aZ nZ nZ, .slice bZ nZ nZ] 27))
  replace K_W := Lib.hid (K_W.out.alloc (.cells #[.int .i64 S, .int .i64 X, .int .i64 Y, .slice aZ nZ nZ, .slice bZ nZ nZ] 27))
  replace K_G := Lib.hid (K_G.out.alloc (.cells #[.int .i64 S, .int .i64 X, .int .i64 Y, .slice aZ nZ nZ, .slice bZ nZ nZ] 27))
  have zZ : XZ ≤ w13.heap.size := by omega
  have yZ : w13.heap.size ≤ XZ := by omega
  have yyZ := K_Z.out.lt
  have sa13 : w13.heap.size ≤ (w13.alloc (.cells #[.int .i64 S, .int .i64 X, .int .i64 Y, .slice aZ nZ nZ, .slice bZ nZ nZ] 27)).heap.size := by simp
  clear o_v r_v
  have z0 : (w13.alloc (.cells #[.int .i64 S, .int .i64 X, .int .i64 Y, .slice aZ nZ nZ, .slice bZ nZ nZ] 27)).cell? ⟨XZ, 0, none⟩ = some (.int .i64 S) := K_Z.out.cell 0
  have z1 : (w13.alloc (.cells #[.int .i64 S, .int .i64 X, .int .i64 Y, .slice aZ nZ nZ, .slice bZ nZ nZ] 27)).cell? ⟨XZ, 1, none⟩ = some (.int .i64 X) := K_Z.out.cell 1
  have z2 : (w13.alloc (.cells #[.int .i64 S, .int .i64 X, .int .i64 Y, .slice aZ nZ nZ, .slice bZ nZ nZ] 27)).cell? ⟨XZ, 2, none⟩ = some (.int .i64 Y) := K_Z.out.cell 2
  have z3 : (w13.alloc (.cells #[.int .i64 S, .int .i64 X, .int .i64 Y, .slice aZ nZ nZ, .slice bZ nZ nZ] 27)).cell? ⟨XZ, 3, none⟩ = some (.slice aZ nZ nZ) := K_Z.out.cell 3
  have z4 : (w13.alloc (.cells #[.int .i64 S, .int .i64 X, .int .i64 Y, .slice aZ nZ nZ, .slice bZ nZ nZ] 27)).cell? ⟨XZ, 4, none⟩ = some (.slice bZ nZ nZ) := K_Z.out.cell 4
  have hlZ := K_Z.out.lt
  have w0 : (w13.alloc (.cells #[.int .i64 S, .int .i64 X, .int .i64 Y, .slice aZ nZ nZ, .slice bZ nZ nZ] 27)).cell? ⟨XW, 0, none⟩ = some (.int .i64 S) := K_W.out.cell 0
  have w1 : (w13.alloc (.cells #[.int .i64 S, .int .i64 X, .int .i64 Y, .slice aZ nZ nZ, .slice bZ nZ nZ] 27)).cell? ⟨XW, 1, none⟩ = some (.int .i64 X) := K_W.out.cell 1
  have w2 : (w13.alloc (.cells #[.int .i64 S, .int .i64 X, .int .i64 Y, .slice aZ nZ nZ, .slice bZ nZ nZ] 27)).cell? ⟨XW, 2, none⟩ = some (.int .i64 Y) := K_W.out.cell 2
  have w3 : (w13.alloc (.cells #[.int .i64 S, .int .i64 X, .int .i64 Y, .slice aZ nZ nZ, .slice bZ nZ nZ] 27)).cell? ⟨XW, 3, none⟩ = some (.slice aW nW nW) := K_W.out.cell 3
  have w4 : (w13.alloc (.cells #[.int .i64 S, .int .i64 X, .int .i64 Y, .slice aZ nZ nZ, .slice bZ nZ nZ] 27)).cell? ⟨XW, 4, none⟩ = some (.slice bW nW nW) := K_W.out.cell 4
  have hlW := K_W.out.lt
  have rc_Z := o_Z.c.row
  have rd_Z := o_Z.d.row
  have rc_W := o_W.c.row
  have rd_W := o_W.d.row
  go_wp2_with fail
  go_at_call 9
  refine (eqDepthGrid_any _ _ _ _ _ _ _ _ _ _ _ _ _ _ _ _ _ _ _ _ _ _ _ rc_Z rd_Z rc_W rd_W (by omega) (by omega) rfl rfl rfl rfl rfl).mono ?_
  rintro e w14 ⟨rfl, b⟩
  clear z0 z1 z2 z3 z4 w0 w1 w2 w3 w4
  replace B := B.trans (b.mono (by have := B.size; omega))
  replace o_W := o_W.below b (.inr (Nat.le_refl _))
  replace o_G := o_G.below b (.inr (Nat.le_refl _))
  replace o_Z := o_Z.below b (.inr (Nat.le_refl _))
  replace K_W := Lib.hid (K_W.out.belowSelf b)
  replace K_G := Lib.hid (K_G.out.belowSelf b)
  replace K_Z := Lib.hid (K_Z.out.belowSelf b)
  have s14 := b.size
  clear b rc_Z rc_W rd_Z rd_W
  have g0 : w14.cell? ⟨XG, 0, none⟩ = some (.int .i64 S) := K_G.out.cell 0
  have g1 : w14.cell? ⟨XG, 1, none⟩ = some (.int .i64 X) := K_G.out.cell 1
  have g2 : w14.cell? ⟨XG, 2, none⟩ = some (.int .i64 Y) := K_G.out.cell 2
  have g3 : w14.cell? ⟨XG, 3, none⟩ = some (.slice aG nG nG) := K_G.out.cell 3
  have g4 : w14.cell? ⟨XG, 4, none⟩ = some (.slice bG nG nG) := K_G.out.cell 4
  have hlG := K_G.out.lt
  go_wp2_with fail
  go_at_call 13
  refine (heldGrid_any _ _ _ _ _ _ _ _ _ o_G lG).mono ?_
  rintro e w15 ⟨rfl, b⟩
  clear g0 g1 g2 g3 g4
  replace B := B.trans (b.mono (by have := B.size; omega))
  replace o_W := o_W.below b (.inr (Nat.le_refl _))
  replace o_G := o_G.below b (.inr (Nat.le_refl _))
  replace o_Z := o_Z.below b (.inr (Nat.le_refl _))
  replace K_W := Lib.hid (K_W.out.belowSelf b)
  replace K_G := Lib.hid (K_G.out.belowSelf b)
  replace K_Z := Lib.hid (K_Z.out.belowSelf b)
  have s15 := b.size
  clear b
  go_wp2
  go_ret
  exact ⟨rfl, B⟩

end Go.Proofs.Ytciicolknphcnaa.fnExactGridSoundings
