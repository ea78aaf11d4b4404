/- The walk of FnExactFramesIn: it returns true and writes nothing that was there. -/
import Derived.Test.YtmljcbfpennjkaaRows
import Derived.Test.YtmljcbfpennjkaaFramesP
import Derived.WalkKit
import Derived.Handy
namespace Go.Proofs.Ytmljcbfpennjkaa.fnExactFramesIn
open Go.RowKit
set_option maxRecDepth 100000
set_option linter.unusedVariables false
set_option linter.unusedVariables false

set_option maxRecDepth 100000 in
set_option maxHeartbeats 6400000 in
theorem walk (a0 : Option Addr) (n0 c0 : Nat) (xs0 : List Int) (w : World) (f0 : Arr w a0 n0 xs0) :
    Calls Try.prog 5 #[.slice a0 n0 c0] w fun e w' => e = .returned (.bool true) ∧ Below w.heap.size w w' := by
  obtain ⟨f0, g0, -⟩ := f0
  have G0 : (n0 : Int) ≤ 9223372036854775807 := by unfold maxLen at g0; omega
  by_cases L0 : 1048576 < n0
  · go_enter Try.func5, Try.ntmps5
    go_wp2
    go_ret
    exact ⟨rfl, Below.refl _ _⟩
  have B := Below.refl w.heap.size w
  have s0 : w.heap.size ≤ w.heap.size := Nat.le_refl _
  go_enter Try.func5, Try.ntmps5
  have r0 := f0.below B (Nat.le_refl _)
  go_wp2_with fail
  go_at_call 18
  refine (toInt64S_any _ _ _ _ _ r0 (by omega)).mono ?_
  rintro e w1 ⟨a_t, c_t, rfl, o_t, b⟩
  replace B := B.trans (b.mono (by have := B.size; omega))
  have s1 := b.size
  clear b r0
  have r_t := o_t.row
  obtain ⟨h1_W, h2_W⟩ := o1cap o_t
  go_wp2_with fail
  go_at_call 21
  refine (framesIn_spec _ _ _ xs0 _ r_t (by omega) h1_W h2_W).mono ?_
  rintro e w2 ⟨aW, nW, cW, fsW, rfl, F_W, b, vW, zW, lW⟩
  replace F_W := Lib.hid F_W
  replace B := B.trans (b.mono (by have := B.size; omega))
  replace o_t := o_t.below b (.inr (Nat.le_refl _))
  have s2 := b.size
  clear b
  clear o_t r_t
  have r0 := f0.below B (Nat.le_refl _)
  go_wp2_with fail
  go_at_call 18
  refine (toInt64S_any _ _ _ _ _ r0 (by omega)).mono ?_
  rintro e w3 ⟨a_x, c_x, rfl, o_x, b⟩
  replace B := B.trans (b.mono (by have := B.size; omega))
  replace F_W := Lib.hid (F_W.out.below b (.inr (Nat.le_refl _)))
  have s3 := b.size
  clear b r0
  have r_x := o_x.row
  obtain ⟨h1_G, h2_G⟩ := o1cap o_x
  go_wp2_with fail
  go_at_call 22
  refine (framesIn_impl _ _ _ xs0 _ r_x (by omega) h1_G h2_G).mono ?_
  rintro e w4 ⟨aG, nG, cG, fsG, rfl, F_G, b, vG, zG, lG⟩
  replace F_G := Lib.hid F_G
  replace B := B.trans (b.mono (by have := B.size; omega))
  replace o_x := o_x.below b (.inr (Nat.le_refl _))
  replace F_W := Lib.hid (F_W.out.below b (.inr (Nat.le_refl _)))
  have s4 := b.size
  clear b
  obtain rfl : nG = nW := by have h1 := F_G.out.len; have h2 := F_W.out.len; have h3 := congrArg List.length (vG.out.trans vW.out.symm); simp only [List.length_map] at h3; omega
  clear r_x
  go_wp2_with fail
  go_at_call 23
  refine (eqFrameS_same _ _ _ _ _ _ _ _ F_G.out.row F_W.out.row (vG.out.trans vW.out.symm) (by omega) (fun f hf => by have := zG.out f hf; omega)).mono ?_
  rintro e w5 ⟨rfl, b⟩
  replace B := B.trans (b.mono (by have := B.size; omega))
  replace o_x := o_x.below b (.inr (Nat.le_refl _))
  replace F_W := Lib.hid (F_W.out.below b (.inr (Nat.le_refl _)))
  replace F_G := Lib.hid (F_G.out.below b (.inr (Nat.le_refl _)))
  have s5 := b.size
  clear b
  have r0 := f0.below B (Nat.le_refl _)
  go_wp2_with fail
  go_at_call 18
  refine (toInt64S_any _ _ _ _ _ r0 (by omega)).mono ?_
  rintro e w6 ⟨a_u, c_u, rfl, o_u, b⟩
  replace B := B.trans (b.mono (by have := B.size; omega))
  replace o_x := o_x.below b (.inr (Nat.le_refl _))
  replace F_W := Lib.hid (F_W.out.below b (.inr (Nat.le_refl _)))
  replace F_G := Lib.hid (F_G.out.below b (.inr (Nat.le_refl _)))
  have s6 := b.size
  clear b r0
  have r_u := o_u.row
  have r_x := o_x.row
  go_wp2_with fail
  go_at_call 12
  refine (eqInt64S_any _ _ _ _ _ _ _ _ _ r_x r_u (by omega)).mono ?_
  rintro e w7 ⟨rfl, b⟩
  rw [decide_eq_true rfl]
  replace B := B.trans (b.mono (by have := B.size; omega))
  replace o_x := o_x.below b (.inr (Nat.le_refl _))
  replace o_u := o_u.below b (.inr (Nat.le_refl _))
  replace F_W := Lib.hid (F_W.out.below b (.inr (Nat.le_refl _)))
  replace F_G := Lib.hid (F_G.out.below b (.inr (Nat.le_refl _)))
  have s7 := b.size
  clear b r_x
  clear o_u r_u
  go_wp2_with fail
  go_at_call 15
  refine (markInt64S_any _ _ _ _ _ _ _ _ o_x (by omega) (by omega) (by omega)).mono ?_
  rintro e w8 ⟨rfl, -, hg⟩
  have lx := o_x.lt
  replace B := B.grown hg (by have := B.size; omega) (fun g hg => by have := lx g hg; omega)
  replace F_W := Lib.hid (F_W.out.keep (fun b h1 h2 h3 => hg.block b h3 (fun e => by have := lx b e.symm; omega)))
  replace F_G := Lib.hid (F_G.out.keep (fun b h1 h2 h3 => hg.block b h3 (fun e => by have := lx b e.symm; omega)))
  have s8 := hg.size
  clear hg lx o_x
  go_wp2_with fail
  go_at_call 23
  refine (eqFrameS_same _ _ _ _ _ _ _ _ F_G.out.row F_W.out.row (vG.out.trans vW.out.symm) (by omega) (fun f hf => by have := zG.out f hf; omega)).mono ?_
  rintro e w9 ⟨rfl, b⟩
  replace B := B.trans (b.mono (by have := B.size; omega))
  replace F_W := Lib.hid (F_W.out.below b (.inr (Nat.le_refl _)))
  replace F_G := Lib.hid (F_G.out.below b (.inr (Nat.le_refl _)))
  have s9 := b.size
  clear b
  have hoff := offF_bd zG.out nG
  have hzb : nG * (200 + 2) ≤ 1200 * 202 := Nat.mul_le_mul_right _ lG
  go_wp2_with fail
  go_at_call 24
  refine (markFrameS_any _ _ _ _ _ fsG _ _ F_G.out (by omega) (by omega) (fun f hf => by have := zG.out f hf; omega) (by omega) (by omega)).mono ?_
  rintro e w10 ⟨rfl, q, hg⟩
  replace B := B.trans (hg.1.mono (by have := B.size; omega))
  replace F_W := Lib.hid (F_W.out.outR hg (.inl (by omega)))
  have s10 := hg.1.size
  replace F_G := Lib.hid q
  clear hg q
  have hlG : fsG.length = nG := by have h3 := F_G.out.len; simpa [markTo] using h3
  have HLG := Lib.hid hlG
  clear hlG
  go_wp2_with fail
  go_at_call 25
  refine (heldFrameS_any _ _ _ fsG _ _ F_G.out.row HLG.out (by omega) (fun f hf => by have := zG.out f hf; omega) (by omega) (by omega)).mono ?_
  rintro e w11 ⟨rfl, b⟩
  replace B := B.trans (b.mono (by have := B.size; omega))
  replace F_W := Lib.hid (F_W.out.below b (.inr (Nat.le_refl _)))
  replace F_G := Lib.hid (F_G.out.below b (.inr (Nat.le_refl _)))
  have s11 := b.size
  clear b
  have r0 := f0.below B (Nat.le_refl _)
  go_wp2_with fail
  go_at_call 18
  refine (toInt64S_any _ _ _ _ _ r0 (by omega)).mono ?_
  rintro e w12 ⟨a_v, c_v, rfl, o_v, b⟩
  replace B := B.trans (b.mono (by have := B.size; omega))
  replace F_W := Lib.hid (F_W.out.below b (.inr (Nat.le_refl _)))
  replace F_G := Lib.hid (F_G.out.below b (.inr (Nat.le_refl _)))
  have s12 := b.size
  clear b r0
  have r_v := o_v.row
  obtain ⟨h1_Z, h2_Z⟩ := o1cap o_v
  go_wp2_with fail
  go_at_call 22
  refine (framesIn_impl _ _ _ xs0 _ r_v (by omega) h1_Z h2_Z).mono ?_
  rintro e w13 ⟨aZ, nZ, cZ, fsZ, rfl, F_Z, b, vZ, zZ, lZ⟩
  replace F_Z := Lib.hid F_Z
  replace B := B.trans (b.mono (by have := B.size; omega))
  replace o_v := o_v.below b (.inr (Nat.le_refl _))
  replace F_W := Lib.hid (F_W.out.below b (.inr (Nat.le_refl _)))
  replace F_G := Lib.hid (F_G.out.below b (.inr (Nat.le_refl _)))
  have s13 := b.size
  clear b
  obtain rfl : nZ = nG := by have h1 := F_Z.out.len; have h2 := F_W.out.len; have h3 := congrArg List.length (vZ.out.trans vW.out.symm); simp only [List.length_map] at h3; omega
  clear o_v r_v
  go_wp2_with fail
  go_at_call 23
  refine (eqFrameS_same _ _ _ _ _ _ _ _ F_Z.out.row F_W.out.row (vZ.out.trans vW.out.symm) (by omega) (fun f hf => by have := zZ.out f hf; omega)).mono ?_
  rintro e w14 ⟨rfl, b⟩
  replace B := B.trans (b.mono (by have := B.size; omega))
  replace F_W := Lib.hid (F_W.out.below b (.inr (Nat.le_refl _)))
  replace F_G := Lib.hid (F_G.out.below b (.inr (Nat.le_refl _)))
  replace F_Z := Lib.hid (F_Z.out.below b (.inr (Nat.le_refl _)))
  have s14 := b.size
  clear b
  go_wp2_with fail
  go_at_call 25
  refine (heldFrameS_any _ _ _ fsG _ _ F_G.out.row HLG.out (by omega) (fun f hf => by have := zG.out f hf; omega) (by omega) (by omega)).mono ?_
  rintro e w15 ⟨rfl, b⟩
  replace B := B.trans (b.mono (by have := B.size; omega))
  replace F_W := Lib.hid (F_W.out.below b (.inr (Nat.le_refl _)))
  replace F_G := Lib.hid (F_G.out.below b (.inr (Nat.le_refl _)))
  replace F_Z := Lib.hid (F_Z.out.below b (.inr (Nat.le_refl _)))
  have s15 := b.size
  clear b
  go_wp2
  go_ret
  exact ⟨rfl, B⟩

end Go.Proofs.Ytmljcbfpennjkaa.fnExactFramesIn
