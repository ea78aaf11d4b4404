/- The walk of FnExactReadFrame: it returns true and writes nothing that was there. -/
import Derived.Test.YtmljcbfpennjkaaRows
import Derived.Test.YtmljcbfpennjkaaReadF
import Derived.WalkKit
import Derived.Handy
namespace Go.Proofs.Ytmljcbfpennjkaa.fnExactReadFrame
open Go.RowKit
set_option maxRecDepth 100000
set_option linter.unusedVariables false
set_option linter.unusedVariables false

set_option maxRecDepth 100000 in
set_option maxHeartbeats 6400000 in
theorem walk (a0 : Option Addr) (n0 c0 : Nat) (xs0 : List Int) (w : World) (f0 : Arr w a0 n0 xs0) :
    Calls Try.prog 4 #[.slice a0 n0 c0] w fun e w' => e = .returned (.bool true) ∧ Below w.heap.size w w' := by
  obtain ⟨f0, g0, -⟩ := f0
  have G0 : (n0 : Int) ≤ 9223372036854775807 := by unfold maxLen at g0; omega
  by_cases L0 : 1048576 < n0
  · go_enter Try.func4, Try.ntmps4
    go_wp2
    go_ret
    exact ⟨rfl, Below.refl _ _⟩
  obtain ⟨r, hr⟩ : ∃ r, readFrame xs0 = r := ⟨_, rfl⟩
  obtain ⟨⟨k, m, ys⟩, cd⟩ := r
  have HLEN := Lib.hid (show ys.length ≤ 24 by have := readFrame_len xs0; rw [hr] at this; exact this)
  have Hspec := Lib.hid (fun (a : Option Addr) (c : Nat) (w : World) (h : Row w 1 a n0 (ints xs0)) (h1 : n0 ≤ c) (h2 : c ≤ maxLen) => hr ▸ readFrame_spec a n0 c xs0 w h (by omega) h1 h2)
  have Himpl := Lib.hid (fun (a : Option Addr) (c : Nat) (w : World) (h : Row w 1 a n0 (ints xs0)) (h1 : n0 ≤ c) (h2 : c ≤ maxLen) => hr ▸ readFrame_impl a n0 c xs0 w h (by omega) h1 h2)
  clear hr
  have B := Below.refl w.heap.size w
  have s0 : w.heap.size ≤ w.heap.size := Nat.le_refl _
  go_enter Try.func4, Try.ntmps4
  have r0 := f0.below B (Nat.le_refl _)
  go_wp2_with fail
  go_at_call 18
  refine (toInt64S_any _ _ _ _ _ r0 (by omega)).mono ?_
  rintro e w1 ⟨a_t, c_t, rfl, o_t, b⟩
  replace B := B.trans (b.mono (by have := B.size; omega))
  have s1 := b.size
  clear b r0
  have r_t := o_t.row
  obtain ⟨h1_W, h2_W⟩ := o1cap o_t
  go_wp2_with fail
  go_at_call 17
  refine (Hspec.out _ _ _ r_t h1_W h2_W).mono ?_
  rintro e w2 ⟨aW, nW, cW, rfl, o_W, b⟩
  dsimp only at o_W ⊢
  replace B := B.trans (b.mono (by have := B.size; omega))
  replace o_t := o_t.below b (.inr (Nat.le_refl _))
  have s2 := b.size
  clear b
  have lW : nW ≤ 1048576 := by have h1 := o_W.row.len; have h2 := HLEN.out; omega
  obtain ⟨XW, hXW⟩ : ∃ X, w2.heap.size = X := ⟨_, rfl⟩
  have K_W := Lib.hid (Blk.new' w2 28 #[.int .i64 k, .int .i64 m, .slice aW nW cW] (g := XW) hXW.symm)
  replace B := B.alloc (by have := B.size; omega) (.cells #[.int .i64 k, .int .i64 m, .slice aW nW cW] 28)
  replace o_t := (o_t.alloc (.cells #[.int .i64 k, .int .i64 m, .slice aW nW cW] 28))
  replace o_W := (o_W.alloc (.cells #[.int .i64 k, .int .i64 m, .slice aW nW cW] 28))
  have zW : XW ≤ w2.heap.size := by omega
  have yW : w2.heap.size ≤ XW := by omega
  have yyW := K_W.out.lt
  have sa2 : w2.heap.size ≤ (w2.alloc (.cells #[.int .i64 k, .int .i64 m, .slice aW nW cW] 28)).heap.size := by simp
  clear o_t r_t
  have r0 := f0.below B (Nat.le_refl _)
  go_wp2_with fail
  go_at_call 18
  refine (toInt64S_any _ _ _ _ _ r0 (by omega)).mono ?_
  rintro e w3 ⟨a_x, c_x, rfl, o_x, b⟩
  replace B := B.trans (b.mono (by have := B.size; omega))
  replace o_W := o_W.below b (.inr (Nat.le_refl _))
  replace K_W := Lib.hid (K_W.out.belowSelf b)
  have s3 := b.size
  clear b r0
  have r_x := o_x.row
  obtain ⟨h1_G, h2_G⟩ := o1cap o_x
  go_wp2_with fail
  go_at_call 19
  refine (Himpl.out _ _ _ r_x h1_G h2_G).mono ?_
  rintro e w4 ⟨aG, nG, cG, rfl, o_G, b⟩
  dsimp only at o_G ⊢
  replace B := B.trans (b.mono (by have := B.size; omega))
  replace o_W := o_W.below b (.inr (Nat.le_refl _))
  replace o_x := o_x.below b (.inr (Nat.le_refl _))
  replace K_W := Lib.hid (K_W.out.belowSelf b)
  have s4 := b.size
  clear b
  have lG : nG ≤ 1048576 := by have h1 := o_G.row.len; have h2 := HLEN.out; omega
  obtain ⟨XG, hXG⟩ : ∃ X, w4.heap.size = X := ⟨_, rfl⟩
  have K_G := Lib.hid (Blk.new' w4 28 #[.int .i64 k, .int .i64 m, .slice aG nG cG] (g := XG) hXG.symm)
  replace B := B.alloc (by have := B.size; omega) (.cells #[.int .i64 k, .int .i64 m, .slice aG nG cG] 28)
  replace o_W := (o_W.alloc (.cells #[.int .i64 k, .int .i64 m, .slice aG nG cG] 28))
  replace o_x := (o_x.alloc (.cells #[.int .i64 k, .int .i64 m, .slice aG nG cG] 28))
  replace o_G := (o_G.alloc (.cells #[.int .i64 k, .int .i64 m, .slice aG nG cG] 28))
  replace K_W := Lib.hid (K_W.out.alloc (.cells #[.int .i64 k, .int .i64 m, .slice aG nG cG] 28))
  have zG : XG ≤ w4.heap.size := by omega
  have yG : w4.heap.size ≤ XG := by omega
  have yyG := K_G.out.lt
  have sa4 : w4.heap.size ≤ (w4.alloc (.cells #[.int .i64 k, .int .i64 m, .slice aG nG cG] 28)).heap.size := by simp
  clear r_x
  have g0 : (w4.alloc (.cells #[.int .i64 k, .int .i64 m, .slice aG nG cG] 28)).cell? ⟨XG, 0, none⟩ = some (.int .i64 k) := K_G.out.cell 0
  have g1 : (w4.alloc (.cells #[.int .i64 k, .int .i64 m, .slice aG nG cG] 28)).cell? ⟨XG, 1, none⟩ = some (.int .i64 m) := K_G.out.cell 1
  have g2 : (w4.alloc (.cells #[.int .i64 k, .int .i64 m, .slice aG nG cG] 28)).cell? ⟨XG, 2, none⟩ = some (.slice aG nG cG) := K_G.out.cell 2
  have hlG := K_G.out.lt
  have w0 : (w4.alloc (.cells #[.int .i64 k, .int .i64 m, .slice aG nG cG] 28)).cell? ⟨XW, 0, none⟩ = some (.int .i64 k) := K_W.out.cell 0
  have w1 : (w4.alloc (.cells #[.int .i64 k, .int .i64 m, .slice aG nG cG] 28)).cell? ⟨XW, 1, none⟩ = some (.int .i64 m) := K_W.out.cell 1
  have w2 : (w4.alloc (.cells #[.int .i64 k, .int .i64 m, .slice aG nG cG] 28)).cell? ⟨XW, 2, none⟩ = some (.slice aW nW cW) := K_W.out.cell 2
  have hlW := K_W.out.lt
  have r_G := o_G.row
  have r_W := o_W.row
  go_wp2_with fail
  go_at_call 13
  refine (eqFrame_any _ _ _ _ _ _ _ _ _ _ _ _ _ r_G r_W lG).mono ?_
  rintro e w5 ⟨rfl, b⟩
  rw [decide_eq_true rfl]
  clear g0 g1 g2 w0 w1 w2
  replace B := B.trans (b.mono (by have := B.size; omega))
  replace o_W := o_W.below b (.inr (Nat.le_refl _))
  replace o_x := o_x.below b (.inr (Nat.le_refl _))
  replace o_G := o_G.below b (.inr (Nat.le_refl _))
  replace K_W := Lib.hid (K_W.out.belowSelf b)
  replace K_G := Lib.hid (K_G.out.belowSelf b)
  have s5 := b.size
  clear b r_G r_W
  have r0 := f0.below B (Nat.le_refl _)
  go_wp2_with fail
  go_at_call 18
  refine (toInt64S_any _ _ _ _ _ r0 (by omega)).mono ?_
  rintro e w6 ⟨a_u, c_u, rfl, o_u, b⟩
  replace B := B.trans (b.mono (by have := B.size; omega))
  replace o_W := o_W.below b (.inr (Nat.le_refl _))
  replace o_x := o_x.below b (.inr (Nat.le_refl _))
  replace o_G := o_G.below b (.inr (Nat.le_refl _))
  replace K_W := Lib.hid (K_W.out.belowSelf b)
  replace K_G := Lib.hid (K_G.out.belowSelf b)
  have s6 := b.size
  clear b r0
  have r_u := o_u.row
  have r_x := o_x.row
  go_wp2_with fail
  go_at_call 12
  refine (eqInt64S_any _ _ _ _ _ _ _ _ _ r_x r_u (by omega)).mono ?_
  rintro e w7 ⟨rfl, b⟩
  rw [decide_eq_true rfl]
  replace B := B.trans (b.mono (by have := B.size; omega))
  replace o_W := o_W.below b (.inr (Nat.le_refl _))
  replace o_x := o_x.below b (.inr (Nat.le_refl _))
  replace o_G := o_G.below b (.inr (Nat.le_refl _))
  replace o_u := o_u.below b (.inr (Nat.le_refl _))
  replace K_W := Lib.hid (K_W.out.belowSelf b)
  replace K_G := Lib.hid (K_G.out.belowSelf b)
  have s7 := b.size
  clear b r_x
  clear o_u r_u
  go_wp2_with fail
  go_at_call 15
  refine (markInt64S_any _ _ _ _ _ _ _ _ o_x (by omega) (by omega) (by omega)).mono ?_
  rintro e w8 ⟨rfl, -, hg⟩
  have lx := o_x.lt
  replace B := B.grown hg (by have := B.size; omega) (fun g hg => by have := lx g hg; omega)
  replace o_W := o_W.apart hg (fun g hg => by have := lx g hg; omega)
  replace o_G := o_G.apart hg (fun g hg => by have := lx g hg; omega)
  replace K_W := Lib.hid (K_W.out.grown hg (fun e => by have := lx _ e.symm; omega))
  replace K_G := Lib.hid (K_G.out.grown hg (fun e => by have := lx _ e.symm; omega))
  have s8 := hg.size
  clear hg lx o_x
  have g0 : w8.cell? ⟨XG, 0, none⟩ = some (.int .i64 k) := K_G.out.cell 0
  have g1 : w8.cell? ⟨XG, 1, none⟩ = some (.int .i64 m) := K_G.out.cell 1
  have g2 : w8.cell? ⟨XG, 2, none⟩ = some (.slice aG nG cG) := K_G.out.cell 2
  have hlG := K_G.out.lt
  have w0 : w8.cell? ⟨XW, 0, none⟩ = some (.int .i64 k) := K_W.out.cell 0
  have w1 : w8.cell? ⟨XW, 1, none⟩ = some (.int .i64 m) := K_W.out.cell 1
  have w2 : w8.cell? ⟨XW, 2, none⟩ = some (.slice aW nW cW) := K_W.out.cell 2
  have hlW := K_W.out.lt
  have r_G := o_G.row
  have r_W := o_W.row
  go_wp2_with fail
  go_at_call 13
  refine (eqFrame_any _ _ _ _ _ _ _ _ _ _ _ _ _ r_G r_W lG).mono ?_
  rintro e w9 ⟨rfl, b⟩
  rw [decide_eq_true rfl]
  clear g0 g1 g2 w0 w1 w2
  replace B := B.trans (b.mono (by have := B.size; omega))
  replace o_W := o_W.below b (.inr (Nat.le_refl _))
  replace o_G := o_G.below b (.inr (Nat.le_refl _))
  replace K_W := Lib.hid (K_W.out.belowSelf b)
  replace K_G := Lib.hid (K_G.out.belowSelf b)
  have s9 := b.size
  clear b r_G r_W
  have g0 : w9.cell? ⟨XG, 0, none⟩ = some (.int .i64 k) := K_G.out.cell 0
  have g1 : w9.cell? ⟨XG, 1, none⟩ = some (.int .i64 m) := K_G.out.cell 1
  have g2 : w9.cell? ⟨XG, 2, none⟩ = some (.slice aG nG cG) := K_G.out.cell 2
  have hlG := K_G.out.lt
  go_wp2_with fail
  go_at_call 14
  refine (markFrame_any _ _ _ _ _ _ _ _ _ _ o_G lG (by omega) (by omega)).mono ?_
  rintro e w10 ⟨rfl, q, hg⟩
  have lg := o_G.lt
  replace B := (B.alloc (by have := B.size; omega) (.cells #[.int .i64 k, .int .i64 m, .slice aG nG cG] 28)).grown hg (by have := B.size; simp; omega) (fun g hg => by have := lg g hg; omega)
  replace o_W := (o_W.alloc (.cells #[.int .i64 k, .int .i64 m, .slice aG nG cG] 28)).apart hg (fun g hg => by have := lg g hg; omega)
  replace K_W := Lib.hid ((K_W.out.alloc (.cells #[.int .i64 k, .int .i64 m, .slice aG nG cG] 28)).grown hg (fun e => by have := lg _ e.symm; omega))
  replace K_G := Lib.hid ((K_G.out.alloc (.cells #[.int .i64 k, .int .i64 m, .slice aG nG cG] 28)).grown hg (fun e => by have := lg _ e.symm; omega))
  have s10 := hg.size
  simp at s10
  replace o_G := q
  clear hg lg q
  clear g0 g1 g2
  have g0 : w10.cell? ⟨XG, 0, none⟩ = some (.int .i64 k) := K_G.out.cell 0
  have g1 : w10.cell? ⟨XG, 1, none⟩ = some (.int .i64 m) := K_G.out.cell 1
  have g2 : w10.cell? ⟨XG, 2, none⟩ = some (.slice aG nG cG) := K_G.out.cell 2
  have hlG := K_G.out.lt
  have r_G := o_G.row
  go_wp2_with fail
  go_at_call 20
  refine (heldFrame_any _ _ _ _ _ _ _ r_G lG (by omega) (by omega)).mono ?_
  rintro e w11 ⟨rfl, b⟩
  clear g0 g1 g2
  replace B := B.trans (b.mono (by have := B.size; omega))
  replace o_W := o_W.below b (.inr (Nat.le_refl _))
  replace o_G := o_G.below b (.inr (Nat.le_refl _))
  replace K_W := Lib.hid (K_W.out.belowSelf b)
  replace K_G := Lib.hid (K_G.out.belowSelf b)
  have s11 := b.size
  clear b r_G
  have r0 := f0.below B (Nat.le_refl _)
  go_wp2_with fail
  go_at_call 18
  refine (toInt64S_any _ _ _ _ _ r0 (by omega)).mono ?_
  rintro e w12 ⟨a_v, c_v, rfl, o_v, b⟩
  replace B := B.trans (b.mono (by have := B.size; omega))
  replace o_W := o_W.below b (.inr (Nat.le_refl _))
  replace o_G := o_G.below b (.inr (Nat.le_refl _))
  replace K_W := Lib.hid (K_W.out.belowSelf b)
  replace K_G := Lib.hid (K_G.out.belowSelf b)
  have s12 := b.size
  clear b r0
  have r_v := o_v.row
  obtain ⟨h1_Z, h2_Z⟩ := o1cap o_v
  go_wp2_with fail
  go_at_call 19
  refine (Himpl.out _ _ _ r_v h1_Z h2_Z).mono ?_
  rintro e w13 ⟨aZ, nZ, cZ, rfl, o_Z, b⟩
  dsimp only at o_Z ⊢
  replace B := B.trans (b.mono (by have := B.size; omega))
  replace o_W := o_W.below b (.inr (Nat.le_refl _))
  replace o_G := o_G.below b (.inr (Nat.le_refl _))
  replace o_v := o_v.below b (.inr (Nat.le_refl _))
  replace K_W := Lib.hid (K_W.out.belowSelf b)
  replace K_G := Lib.hid (K_G.out.belowSelf b)
  have s13 := b.size
  clear b
  have lZ : nZ ≤ 1048576 := by have h1 := o_Z.row.len; have h2 := HLEN.out; omega
  obtain ⟨XZ, hXZ⟩ : ∃ X, w13.heap.size = X := ⟨_, rfl⟩
  have K_Z := Lib.hid (Blk.new' w13 28 #[.int .i64 k, .int .i64 m, .slice aZ nZ cZ] (g := XZ) hXZ.symm)
  replace B := B.alloc (by have := B.size; omega) (.cells #[.int .i64 k, .int .i64 m, .slice aZ nZ cZ] 28)
  replace o_W := (o_W.alloc (.cells #[.int .i64 k, .int .i64 m, .slice aZ nZ cZ] 28))
  replace o_G := (o_G.alloc (.cells #[.int .i64 k, .int .i64 m, .slice aZ nZ cZ] 28))
  replace o_v := (o_v.alloc (.cells #[.int .i64 k, .int .i64 m, .slice aZ nZ cZ] 28))
  replace o_Z := (o_Z.alloc (.cells #[.int .i64 k, .int .i64 m, .slice aZ nZ cZ] 28))
  replace K_W := Lib.hid (K_W.out.alloc (.cells #[.int .i64 k, .int .i64 m, .slice aZ nZ cZ] 28))
  replace K_G := Lib.hid (K_G.out.alloc (.cells #[.int .i64 k, .int .i64 m, .slice aZ nZ cZ] 28))
  have zZ : XZ ≤ w13.heap.size := by omega
  have yZ : w13.heap.size ≤ XZ := by omega
  have yyZ := K_Z.out.lt
  have sa13 : w13.heap.size ≤ (w13.alloc (.cells #[.int .i64 k, .int .i64 m, .slice aZ nZ cZ] 28)).heap.size := by simp
  clear o_v r_v
  have z0 : (w13.alloc (.cells #[.int .i64 k, .int .i64 m, .slice aZ nZ cZ] 28)).cell? ⟨XZ, 0, none⟩ = some (.int .i64 k) := K_Z.out.cell 0
  have z1 : (w13.alloc (.cells #[.int .i64 k, .int .i64 m, .slice aZ nZ cZ] 28)).cell? ⟨XZ, 1, none⟩ = some (.int .i64 m) := K_Z.out.cell 1
  have z2 : (w13.alloc (.cells #[.int .i64 k, .int .i64 m, .slice aZ nZ cZ] 28)).cell? ⟨XZ, 2, none⟩ = some (.slice aZ nZ cZ) := K_Z.out.cell 2
  have hlZ := K_Z.out.lt
  have w0 : (w13.alloc (.cells #[.int .i64 k, .int .i64 m, .slice aZ nZ cZ] 28)).cell? ⟨XW, 0, none⟩ = some (.int .i64 k) := K_W.out.cell 0
  have w1 : (w13.alloc (.cells #[.int .i64 k, .int .i64 m, .slice aZ nZ cZ] 28)).cell? ⟨XW, 1, none⟩ = some (.int .i64 m) := K_W.out.cell 1
  have w2 : (w13.alloc (.cells #[.int .i64 k, .int .i64 m, .slice aZ nZ cZ] 28)).cell? ⟨XW, 2, none⟩ = some (.slice aW nW cW) := K_W.out.cell 2
  have hlW := K_W.out.lt
  have r_Z := o_Z.row
  have r_W := o_W.row
  go_wp2_with fail
  go_at_call 13
  refine (eqFrame_any _ _ _ _ _ _ _ _ _ _ _ _ _ r_Z r_W lZ).mono ?_
  rintro e w14 ⟨rfl, b⟩
  rw [decide_eq_true rfl]
  clear z0 z1 z2 w0 w1 w2
  replace B := B.trans (b.mono (by have := B.size; omega))
  replace o_W := o_W.below b (.inr (Nat.le_refl _))
  replace o_G := o_G.below b (.inr (Nat.le_refl _))
  replace o_Z := o_Z.below b (.inr (Nat.le_refl _))
  replace K_W := Lib.hid (K_W.out.belowSelf b)
  replace K_G := Lib.hid (K_G.out.belowSelf b)
  replace K_Z := Lib.hid (K_Z.out.belowSelf b)
  have s14 := b.size
  clear b r_Z r_W
  have g0 : w14.cell? ⟨XG, 0, none⟩ = some (.int .i64 k) := K_G.out.cell 0
  have g1 : w14.cell? ⟨XG, 1, none⟩ = some (.int .i64 m) := K_G.out.cell 1
  have g2 : w14.cell? ⟨XG, 2, none⟩ = some (.slice aG nG cG) := K_G.out.cell 2
  have hlG := K_G.out.lt
  have r_G := o_G.row
  go_wp2_with fail
  go_at_call 20
  refine (heldFrame_any _ _ _ _ _ _ _ r_G lG (by omega) (by omega)).mono ?_
  rintro e w15 ⟨rfl, b⟩
  clear g0 g1 g2
  replace B := B.trans (b.mono (by have := B.size; omega))
  replace o_W := o_W.below b (.inr (Nat.le_refl _))
  replace o_G := o_G.below b (.inr (Nat.le_refl _))
  replace o_Z := o_Z.below b (.inr (Nat.le_refl _))
  replace K_W := Lib.hid (K_W.out.belowSelf b)
  replace K_G := Lib.hid (K_G.out.belowSelf b)
  replace K_Z := Lib.hid (K_Z.out.belowSelf b)
  have s15 := b.size
  clear b r_G
  go_wp2
  go_ret
  exact ⟨rfl, B⟩

end Go.Proofs.Ytmljcbfpennjkaa.fnExactReadFrame
