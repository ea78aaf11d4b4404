/- The walk of FnStreams: it returns true and writes nothing that was there. -/
import Derived.Test.YtmljcbfpennjkaaRows
import Derived.Test.YtmljcbfpennjkaaPStream
import Derived.Test.YtmljcbfpennjkaaLikeO
import Derived.Test.YtmljcbfpennjkaaDrawFIn
import Derived.Test.YtmljcbfpennjkaaReadF
import Derived.Test.YtmljcbfpennjkaaFrameC
import Derived.Test.YtmljcbfpennjkaaOpenY
import Derived.WalkKit
import Derived.Handy
namespace Go.Proofs.Ytmljcbfpennjkaa.fnStreams
open Go.RowKit
set_option maxRecDepth 100000
set_option linter.unusedVariables false
set_option linter.unusedVariables false
set_option linter.unusedSimpArgs false

set_option maxRecDepth 100000 in
set_option maxHeartbeats 1500000 in
theorem walk (a0 : Option Addr) (n0 c0 : Nat) (bs : List Nat) (w : World) (f0 : Bytes w a0 n0 bs) :
    Calls Try.prog 7 #[.slice a0 n0 c0] w fun e w' => e = .returned (.bool true) ∧ Below w.heap.size w w' := by
  by_cases hbig : (4096 : Int) < (n0 : Int)
  · go_enter Try.func7, Try.ntmps7
    go_wp2_with (go_at_call 26; refine (big_any _ _ _ _ f0.2.1).mono ?_; rintro e w' ⟨rfl, rfl⟩)
    go_ret
    exact ⟨rfl, Below.refl _ _⟩
  have HC := Lib.hid (f0.code (by omega))
  have hbg := f0.2.1
  clear f0
  go_enter Try.func7, Try.ntmps7
  go_wp2_with (go_at_call 26; refine (big_any _ _ _ _ hbg).mono ?_; rintro e w' ⟨rfl, rfl⟩)
  clear hbig hbg
  have B := Below.refl w.heap.size w
  go_at_call 38
  refine (drawFramesIn_any _ _ _ _ _ (HC.out.below B (Nat.le_refl _))).mono ?_
  intro e w1 hd
  obtain ⟨aB, nB, cB, bits, rfl, rB, hB, hB2, hB3, hb⟩ := hd
  replace B := B.trans (hb.mono B.size)
  clear hb
  go_wp2_with fail
  go_at_call 22
  refine (framesIn_impl _ _ _ _ _ rB (by omega) hB2 hB3).mono ?_
  intro e w2 hd
  obtain ⟨a_L, n_L, c_L, lL, rfl, o_L, hb, hmL, hsL, hnL⟩ := hd
  replace B := B.trans (hb.mono B.size)
  replace rB := rB.below hb (Nat.le_refl _)
  have r_L := o_L.row
  clear hb o_L
  go_wp2_with fail
  go_at_call 21
  refine (framesIn_spec _ _ _ _ _ rB (by omega) hB2 hB3).mono ?_
  intro e w3 hd
  obtain ⟨a_O, n_O, c_O, lO, rfl, o_O, hb, hmO, hsO, hnO⟩ := hd
  replace B := B.trans (hb.mono B.size)
  replace rB := rB.below hb (Nat.le_refl _)
  replace r_L := r_L.below hb (Nat.le_refl _)
  have r_O := o_O.row
  clear hb o_O
  obtain rfl : n_O = n_L := by have h1 := congrArg List.length (hmL.out.trans hmO.out.symm); have h2 := r_L.len; have h3 := r_O.len; simp only [List.length_map] at h1; omega
  have e0 : ((framesIn bits).2 != (framesIn bits).2) = false := by simp
  go_wp2_with fail
  go_at_call 39
  refine (likeOwnFrame_same _ _ _ _ _ _ _ _ r_L r_O (hmL.out.trans hmO.out.symm) (by omega) hsL.out).mono ?_
  rintro e w4 ⟨rfl, hb⟩
  replace B := B.trans (hb.mono B.size)
  replace rB := rB.below hb (Nat.le_refl _)
  replace r_L := r_L.below hb (Nat.le_refl _)
  replace r_O := r_O.below hb (Nat.le_refl _)
  clear hb
  clear r_O
  clear hmO hsO
  go_wp2_with fail
  go_at_call 21
  refine (framesIn_spec _ _ _ _ _ rB (by omega) hB2 hB3).mono ?_
  intro e w5 hd
  obtain ⟨a_M, n_M, c_M, lM, rfl, o_M, hb, hmM, hsM, hnM⟩ := hd
  replace B := B.trans (hb.mono B.size)
  replace rB := rB.below hb (Nat.le_refl _)
  replace r_L := r_L.below hb (Nat.le_refl _)
  have r_M := o_M.row
  clear hb o_M
  obtain rfl : n_M = n_O := by have h1 := congrArg List.length (hmL.out.trans hmM.out.symm); have h2 := r_L.len; have h3 := r_M.len; simp only [List.length_map] at h1; omega
  go_wp2_with fail
  go_at_call 40
  refine (drawDamageBits_any _ _ _ _ _ (HC.out.below B (Nat.le_refl _))).mono ?_
  intro e w6 hd
  obtain ⟨aX, nX, cX, xs, aP, nP, cP, ps, rfl, rX, rP, hX, hP, hb⟩ := hd
  replace B := B.trans (hb.mono B.size)
  replace rB := rB.below hb (Nat.le_refl _)
  replace r_L := r_L.below hb (Nat.le_refl _)
  replace r_M := r_M.below hb (Nat.le_refl _)
  clear hb
  go_wp2_with fail
  go_at_call 41
  refine (damageBits_impl _ _ _ _ _ _ _ _ _ rX rP (by omega) (by omega)).mono ?_
  rintro e w7 ⟨a_D, n_D, c_D, rfl, o_D, hb⟩
  replace B := B.trans (hb.mono B.size)
  replace rB := rB.below hb (Nat.le_refl _)
  replace r_L := r_L.below hb (Nat.le_refl _)
  replace r_M := r_M.below hb (Nat.le_refl _)
  replace rX := rX.below hb (Nat.le_refl _)
  replace rP := rP.below hb (Nat.le_refl _)
  have r_D := o_D.row
  clear hb o_D
  go_wp2_with fail
  go_at_call 42
  refine (damageBits_spec _ _ _ _ _ _ _ _ _ rX rP (by omega) (by omega)).mono ?_
  rintro e w8 ⟨a_E, n_E, c_E, rfl, o_E, hb⟩
  replace B := B.trans (hb.mono B.size)
  replace rB := rB.below hb (Nat.le_refl _)
  replace r_L := r_L.below hb (Nat.le_refl _)
  replace r_M := r_M.below hb (Nat.le_refl _)
  replace rX := rX.below hb (Nat.le_refl _)
  replace rP := rP.below hb (Nat.le_refl _)
  replace r_D := r_D.below hb (Nat.le_refl _)
  have r_E := o_E.row
  clear hb o_E
  obtain rfl : n_E = n_D := by have := r_D.len; have := r_E.len; omega
  have hnE : n_E ≤ 1200 := by have := r_E.len; have := damageBits_len xs ps; omega
  go_wp2_with fail
  go_at_call 27
  refine (drawFrameBits_any _ _ _ _ _ (HC.out.below B (Nat.le_refl _))).mono ?_
  intro e w9 hd
  obtain ⟨k, m, aF, nF, cF, fs, rfl, rF, hF, hb⟩ := hd
  replace B := B.trans (hb.mono B.size)
  replace rB := rB.below hb (Nat.le_refl _)
  replace r_L := r_L.below hb (Nat.le_refl _)
  replace r_M := r_M.below hb (Nat.le_refl _)
  replace rX := rX.below hb (Nat.le_refl _)
  replace rP := rP.below hb (Nat.le_refl _)
  replace r_D := r_D.below hb (Nat.le_refl _)
  replace r_E := r_E.below hb (Nat.le_refl _)
  clear hb
  obtain ⟨XK, hXK⟩ : ∃ X, w9.heap.size = X := ⟨_, rfl⟩
  replace B := B.alloc B.size (.cells #[.int .i64 k, .int .i64 m, .slice aF nF cF] 28)
  replace rB := rB.alloc (.cells #[.int .i64 k, .int .i64 m, .slice aF nF cF] 28)
  replace r_L := r_L.alloc (.cells #[.int .i64 k, .int .i64 m, .slice aF nF cF] 28)
  replace r_M := r_M.alloc (.cells #[.int .i64 k, .int .i64 m, .slice aF nF cF] 28)
  replace rX := rX.alloc (.cells #[.int .i64 k, .int .i64 m, .slice aF nF cF] 28)
  replace rP := rP.alloc (.cells #[.int .i64 k, .int .i64 m, .slice aF nF cF] 28)
  replace r_D := r_D.alloc (.cells #[.int .i64 k, .int .i64 m, .slice aF nF cF] 28)
  replace r_E := r_E.alloc (.cells #[.int .i64 k, .int .i64 m, .slice aF nF cF] 28)
  replace rF := rF.alloc (.cells #[.int .i64 k, .int .i64 m, .slice aF nF cF] 28)
  have K := Lib.hid (Blk.new' w9 28 #[.int .i64 k, .int .i64 m, .slice aF nF cF] (g := XK) hXK.symm)
  have e1 : ((damageBits xs ps).2 != (damageBits xs ps).2) = false := by simp
  have e2 : ((n_M : Int) != (n_M : Int)) = false := by simp
  go_wp2_with fail
  go_at_call 32
  refine (likeInts_same _ _ _ _ _ _ _ r_D r_E (by omega)).mono ?_
  rintro e w10 ⟨rfl, hb⟩
  replace B := B.trans (hb.mono B.size)
  replace rB := rB.below hb (Nat.le_refl _)
  replace r_L := r_L.below hb (Nat.le_refl _)
  replace r_M := r_M.below hb (Nat.le_refl _)
  replace rX := rX.below hb (Nat.le_refl _)
  replace rP := rP.below hb (Nat.le_refl _)
  replace r_D := r_D.below hb (Nat.le_refl _)
  replace r_E := r_E.below hb (Nat.le_refl _)
  replace rF := rF.below hb (Nat.le_refl _)
  replace K := Lib.hid (K.out.belowSelf hb)
  clear hb
  clear r_E
  clear e0 e1 e2
  have HLM := Lib.hid (hmL.out.trans hmM.out.symm)
  clear hmL hmM hsM
  go_wp2_with fail
  clear hXK
  go_loopw [17] (fun i wr => ∃ j : Nat, j ≤ n_M ∧ i = .int .i64 j ∧ Below w.heap.size w wr ∧ Hid (Row wr 1 aB nB (ints bits)) ∧ Hid (FRow wr a_L n_M lL) ∧ Hid (FRow wr a_M n_M lM) ∧ Hid (Row wr 1 aX nX (ints xs)) ∧ Hid (Row wr 1 aP nP (ints ps)) ∧ Hid (Row wr 1 a_D n_E (ints ((damageBits xs ps).1))) ∧ Hid (Row wr 1 aF nF (ints fs)) ∧ Hid (Blk wr XK 28 #[.int .i64 k, .int .i64 m, .slice aF nF cF])) (fun i _ => n_M - (intOf i).toNat)
  case atStart => exact ⟨0, Nat.zero_le _, rfl, B, Lib.hid rB, Lib.hid r_L, Lib.hid r_M, Lib.hid rX, Lib.hid rP, Lib.hid r_D, Lib.hid rF, K⟩
  case round => as_aux_lemma =>
    clear B rB r_L r_M rX rP r_D rF K
    obtain ⟨j, hj, rfl, B, rB, r_L, r_M, rX, rP, r_D, rF, K⟩ := hrel
    replace rB := rB.out
    replace r_L := r_L.out
    replace r_M := r_M.out
    replace rX := rX.out
    replace rP := rP.out
    replace r_D := r_D.out
    replace rF := rF.out
    obtain ⟨w11, rfl⟩ : ∃ w11 : World, w11 = wr := ⟨_, rfl⟩
    by_cases hlt : j < n_M
    · have hjI : (j : Int) < (n_M : Int) := by omega
      obtain ⟨b1, off1, f, hab1, c0, c1, c2, hx, hr⟩ := r_L.at_ hlt
      subst hab1
      obtain ⟨b2, off2, g, hab2, d0, d1, d2, hy, hs⟩ := r_M.at_ hlt
      subst hab2
      obtain ⟨e1, e2, e3⟩ := same_at HLM.out hx.out hy.out
      have hfn := hsL.out f (List.mem_of_getElem? hx.out)
      rw [← e1] at d0
      rw [← e2] at d1
      rw [← e3] at hs
      have hgn : g.n = f.n := by have q1 := hr.len; have q2 := hs.len; omega
      rw [hgn] at d2 hs
      clear e1 e2 e3 hx hy hgn
      have x0 := Lib.hid c0
      have y0 := Lib.hid d0
      have x1 := Lib.hid c1
      have y1 := Lib.hid d1
      have x2 := Lib.hid c2
      have y2 := Lib.hid d2
      clear c0 c1 c2 d0 d1 d2
      go_wp2_with fail
      replace B := B.drew
      replace rB := rB.drew
      replace r_L := r_L.drew
      replace r_M := r_M.drew
      replace rX := rX.drew
      replace rP := rP.drew
      replace r_D := r_D.drew
      replace rF := rF.drew
      replace K := Lib.hid K.out.drew
      replace hr := hr.drew
      replace hs := hs.drew
      replace x0 := Lib.hid (cell_drew x0.out)
      replace y0 := Lib.hid (cell_drew y0.out)
      replace x1 := Lib.hid (cell_drew x1.out)
      replace y1 := Lib.hid (cell_drew y1.out)
      replace x2 := Lib.hid (cell_drew x2.out)
      replace y2 := Lib.hid (cell_drew y2.out)
      go_region_held3 (fun w' => w'.cell? ⟨b1, off1 + j * 3, none⟩ = some (.int .i64 f.k) ∧ w'.cell? ⟨b1, off1 + j * 3 + 1, none⟩ = some (.int .i64 f.m) ∧ w'.cell? ⟨b1, off1 + j * 3 + 2, none⟩ = some (.slice f.a f.n f.c) ∧ w'.cell? ⟨b2, off2 + j * 3, none⟩ = some (.int .i64 f.k) ∧ w'.cell? ⟨b2, off2 + j * 3 + 1, none⟩ = some (.int .i64 f.m) ∧ w'.cell? ⟨b2, off2 + j * 3 + 2, none⟩ = some (.slice g.a f.n g.c)) (exact ⟨x0.out, x1.out, x2.out, y0.out, y1.out, y2.out⟩) (first | (go_at_call 33; refine (likeFrames_same _ _ _ _ _ _ _ _ _ hr hs (by omega)).mono ?_; rintro e w12 ⟨rfl, hb⟩; replace B := B.trans (hb.mono B.size); replace rB := rB.below hb (Nat.le_refl _); replace r_L := r_L.below hb (Nat.le_refl _); replace r_M := r_M.below hb (Nat.le_refl _); replace rX := rX.below hb (Nat.le_refl _); replace rP := rP.below hb (Nat.le_refl _); replace r_D := r_D.below hb (Nat.le_refl _); replace rF := rF.below hb (Nat.le_refl _); replace K := Lib.hid (K.out.belowSelf hb); replace hr := hr.below hb (Nat.le_refl _); replace hs := hs.below hb (Nat.le_refl _); replace x0 := Lib.hid (Below.cellSelf hb x0.out); replace y0 := Lib.hid (Below.cellSelf hb y0.out); replace x1 := Lib.hid (Below.cellSelf hb x1.out); replace y1 := Lib.hid (Below.cellSelf hb y1.out); replace x2 := Lib.hid (Below.cellSelf hb x2.out); replace y2 := Lib.hid (Below.cellSelf hb y2.out); clear hb))
      all_goals
        go_wp2
        go_roundw
        case rel => exact ⟨j + 1, by omega, by go_num, B, Lib.hid rB, Lib.hid r_L, Lib.hid r_M, Lib.hid rX, Lib.hid rP, Lib.hid r_D, Lib.hid rF, K⟩
        case measure => simp [intOf] <;> omega
    · have hjI : ¬ (j : Int) < (n_M : Int) := by omega
      clear hlt
      clear r_L r_M
      clear HLM hsL
      go_upto_if 111 with (fail)
      go_cut [13, 15, 18, 19] (fun _ _ _ _ wx => Below w.heap.size w wx ∧ Hid (Row wx 1 aB nB (ints bits)) ∧ Hid (Row wx 1 aF nF (ints fs)) ∧ Hid (Blk wx XK 28 #[.int .i64 k, .int .i64 m, .slice aF nF cF]))
      case first => as_aux_lemma =>
        by_cases hz : (damageBits xs ps).2 = 0
        · have hdb := damage_back hz
          rw [hz]
          clear hz
          go_wp2_with fail
          go_at_call 41
          refine (damageBits_impl _ _ _ _ _ _ _ _ _ r_D rP (by omega) (by omega)).mono ?_
          rintro e w12 ⟨a_G, n_G, c_G, rfl, o_G, hb⟩
          replace B := B.trans (hb.mono B.size)
          replace rB := rB.below hb (Nat.le_refl _)
          replace rX := rX.below hb (Nat.le_refl _)
          replace rP := rP.below hb (Nat.le_refl _)
          replace r_D := r_D.below hb (Nat.le_refl _)
          replace rF := rF.below hb (Nat.le_refl _)
          replace K := Lib.hid (K.out.belowSelf hb)
          have r_G := o_G.row
          clear hb o_G
          rw [hdb] at r_G ⊢
          clear hdb
          replace r_G : Row w12 1 a_G n_G (ints xs) := r_G
          obtain rfl : n_G = nX := by have h1 := r_G.len; have h2 := rX.len; omega
          go_wp2_with fail
          go_at_call 32
          refine (likeInts_same _ _ _ _ _ _ _ r_G rX (by omega)).mono ?_
          rintro e w13 ⟨rfl, hb⟩
          replace B := B.trans (hb.mono B.size)
          replace rB := rB.below hb (Nat.le_refl _)
          replace rX := rX.below hb (Nat.le_refl _)
          replace rP := rP.below hb (Nat.le_refl _)
          replace r_D := r_D.below hb (Nat.le_refl _)
          replace rF := rF.below hb (Nat.le_refl _)
          replace K := Lib.hid (K.out.belowSelf hb)
          replace r_G := r_G.below hb (Nat.le_refl _)
          clear hb
          go_wp2_with fail
          go_meet
          exact ⟨B, Lib.hid rB, Lib.hid rF, K⟩
        · have hzf : ((damageBits xs ps).2 == 0) = false := by simpa using hz
          clear hz
          go_wp2_with fail
          go_meet
          exact ⟨B, Lib.hid rB, Lib.hid rF, K⟩
      case rest => as_aux_lemma =>
        clear B rB rF K
        obtain ⟨B, rB, rF, K⟩ := hcut
        replace rB := rB.out
        replace rF := rF.out
        obtain ⟨w12, rfl⟩ : ∃ w12 : World, w12 = wc := ⟨_, rfl⟩
        clear hnE hX hP hj
        by_cases hbad : (framesIn bits).2 = 0
        rotate_left
        · have hf2 : ((framesIn bits).2 != 0) = true := by simpa using hbad
          clear hbad
          go_wp2
          go_ret
          exact ⟨rfl, B⟩
        have hok : listOk 1200 0 1 bits = true := by
          cases h : listOk 1200 0 1 bits
          · rw [framesIn_no h] at hbad; simp at hbad
          · rfl
        have HOK := Lib.hid hok
        rw [hbad]
        clear hbad hok
        have q0 : w12.cell? ⟨XK, 0, none⟩ = some (.int .i64 k) := K.out.cell 0
        have q1 : w12.cell? ⟨XK, 1, none⟩ = some (.int .i64 m) := K.out.cell 1
        have q2 : w12.cell? ⟨XK, 2, none⟩ = some (.slice aF nF cF) := K.out.cell 2
        cases hf : frameOk k m fs
        · skip
          go_wp2_with fail
          go_at_call 34
          refine (isFrame_impl _ _ _ _ _ _ _ rF (by omega)).mono ?_
          rintro e w13 ⟨rfl, hb⟩
          replace B := B.trans (hb.mono B.size)
          replace rB := rB.below hb (Nat.le_refl _)
          replace rF := rF.below hb (Nat.le_refl _)
          replace K := Lib.hid (K.out.belowSelf hb)
          clear hb q0 q1 q2
          rw [hf]
          clear hf
          go_wp2
          go_ret
          exact ⟨rfl, B⟩
        go_wp2_with fail
        go_at_call 34
        refine (isFrame_impl _ _ _ _ _ _ _ rF (by omega)).mono ?_
        rintro e w13 ⟨rfl, hb⟩
        replace B := B.trans (hb.mono B.size)
        replace rB := rB.below hb (Nat.le_refl _)
        replace rF := rF.below hb (Nat.le_refl _)
        replace K := Lib.hid (K.out.belowSelf hb)
        clear hb q0 q1 q2
        rw [hf]
        have q0 : w13.cell? ⟨XK, 0, none⟩ = some (.int .i64 k) := K.out.cell 0
        have q1 : w13.cell? ⟨XK, 1, none⟩ = some (.int .i64 m) := K.out.cell 1
        have q2 : w13.cell? ⟨XK, 2, none⟩ = some (.slice aF nF cF) := K.out.cell 2
        go_wp2_with fail
        go_at_call 11
        refine (frameBits_impl _ _ _ _ _ _ _ rF (by omega)).mono ?_
        rintro e w14 ⟨a_A, n_A, c_A, rfl, o_A, hb⟩
        replace B := B.trans (hb.mono B.size)
        replace rB := rB.below hb (Nat.le_refl _)
        replace rF := rF.below hb (Nat.le_refl _)
        replace K := Lib.hid (K.out.belowSelf hb)
        have r_A := o_A.row
        clear hb o_A
        clear q0 q1 q2
        have hfb := frameBits_yes hf
        rw [hfb] at r_A ⊢
        clear hfb
        replace r_A : Row w14 1 a_A n_A (ints (frameL k m fs)) := r_A
        have HF := Lib.hid hf
        clear hf
        have hnA : n_A ≤ 464 := by have := r_A.len; have := frameL_le (k := k) (m := m) (frameOk_len HF.out); omega
        by_cases hsz : 1200 < (nB : Int) + (n_A : Int)
        · go_wp2
          go_ret
          exact ⟨rfl, B⟩
        have HLA := Lib.hid (stream_last HOK.out HF.out (by have := r_A.len; have := rB.len; omega))
        have hszN : nB + n_A ≤ 1200 := by omega
        clear HOK
        have hBz := B.size
        go_wp2_with (first | (at_builtin; refine wpList_app0 _ rfl (.tmp 151) (.tmp 152) _ rfl Try.underlying22 info_i64 rfl (by decide) (by rfl) (Own.lit0 _ _ _) (by simp) (by rfl) (rB.alloc _) (ints_one _) (by simp only [maxLen]; omega) (by omega) (by simp) ?_; intro aOQ cOQ w15 oO hbO hgO; have hz1 := hbO.size; have bO := ((Below.refl _ w14).alloc (Nat.le_refl _) (.cells #[] 2)).trans hbO; have rA1 := Lib.hid (r_A.below bO (Nat.le_refl _)); rw [Nat.zero_add, List.nil_append] at oO) | (at_builtin; refine wpList_app0 _ rfl (.tmp 153) (.tmp 154) _ rfl Try.underlying22 info_i64 rfl (by decide) (by rfl) oO (by first | omega | simp | (simp at hz1 ⊢; omega)) (by rfl) rA1.out (ints_one _) (by simp only [maxLen]; omega) (by omega) (by first | omega | simp | (simp at hz1 ⊢; omega)) ?_; intro aQ cQ w16 oQ hbQ hgQ))
        have hb := bO.trans hbQ
        replace B := B.trans (hb.mono B.size)
        replace rB := rB.below hb (Nat.le_refl _)
        replace rF := rF.below hb (Nat.le_refl _)
        replace K := Lib.hid (K.out.belowSelf hb)
        replace r_A := r_A.below hb (Nat.le_refl _)
        rw [← ints_app] at oQ
        obtain ⟨q1, q2⟩ := ocap oQ
        have rQ := oQ.row
        clear hb bO hbQ hgQ hgO hbO hz1 rA1 oO oQ
        go_at_call 22
        refine (framesIn_impl _ _ _ _ _ rQ (by omega) q1 q2).mono ?_
        intro e w17 hd
        obtain ⟨a_P, n_P, c_P, lP, rfl, o_P, hb, hmP, hsP, hnP⟩ := hd
        replace B := B.trans (hb.mono B.size)
        replace rB := rB.below hb (Nat.le_refl _)
        replace rF := rF.below hb (Nat.le_refl _)
        replace K := Lib.hid (K.out.belowSelf hb)
        replace r_A := r_A.below hb (Nat.le_refl _)
        replace rQ := rQ.below hb (Nat.le_refl _)
        have r_P := o_P.row
        clear hb o_P q1 q2
        clear rQ
        obtain ⟨acc, hac⟩ := HLA.out
        rw [hac] at hmP ⊢
        replace hmP : Hid (lP.map FrV.val = acc ++ [(k, m, fs)]) := hmP
        have HAC := Lib.hid hac
        clear HLA hac
        have hBz := B.size
        go_wp2_with (first | (at_builtin; refine wpList_app0 _ rfl (.tmp 160) (.tmp 161) _ rfl Try.underlying22 info_i64 rfl (by decide) (by rfl) (Own.lit0 _ _ _) (by simp) (by rfl) (rB.alloc _) (ints_one _) (by simp only [maxLen]; omega) (by omega) (by simp) ?_; intro aOS cOS w18 oO hbO hgO; have hz1 := hbO.size; have bO := ((Below.refl _ w17).alloc (Nat.le_refl _) (.cells #[] 2)).trans hbO; have rA1 := Lib.hid (r_A.below bO (Nat.le_refl _)); rw [Nat.zero_add, List.nil_append] at oO) | (at_builtin; refine wpList_app0 _ rfl (.tmp 162) (.tmp 163) _ rfl Try.underlying22 info_i64 rfl (by decide) (by rfl) oO (by first | omega | simp | (simp at hz1 ⊢; omega)) (by rfl) rA1.out (ints_one _) (by simp only [maxLen]; omega) (by omega) (by first | omega | simp | (simp at hz1 ⊢; omega)) ?_; intro aS cS w19 oQ hbQ hgQ))
        have hb := bO.trans hbQ
        replace B := B.trans (hb.mono B.size)
        replace rB := rB.below hb (Nat.le_refl _)
        replace rF := rF.below hb (Nat.le_refl _)
        replace K := Lib.hid (K.out.belowSelf hb)
        replace r_A := r_A.below hb (Nat.le_refl _)
        replace r_P := r_P.below hb (Nat.le_refl _)
        rw [← ints_app] at oQ
        obtain ⟨q1, q2⟩ := ocap oQ
        have rS := oQ.row
        clear hb bO hbQ hgQ hgO hbO hz1 rA1 oO oQ
        go_at_call 21
        refine (framesIn_spec _ _ _ _ _ rS (by omega) q1 q2).mono ?_
        intro e w20 hd
        obtain ⟨a_R, n_R, c_R, lR, rfl, o_R, hb, hmR, hsR, hnR⟩ := hd
        replace B := B.trans (hb.mono B.size)
        replace rB := rB.below hb (Nat.le_refl _)
        replace rF := rF.below hb (Nat.le_refl _)
        replace K := Lib.hid (K.out.belowSelf hb)
        replace r_A := r_A.below hb (Nat.le_refl _)
        replace r_P := r_P.below hb (Nat.le_refl _)
        replace rS := rS.below hb (Nat.le_refl _)
        have r_R := o_R.row
        clear hb o_R q1 q2
        clear rS rB r_A
        rw [HAC.out] at hmR ⊢
        replace hmR : Hid (lR.map FrV.val = acc ++ [(k, m, fs)]) := hmR
        clear HAC
        obtain rfl : n_R = n_P := by have h1 := congrArg List.length (hmP.out.trans hmR.out.symm); have h2 := r_P.len; have h3 := r_R.len; simp only [List.length_map] at h1; omega
        have hN : acc.length + 1 = n_R := by have h1 := congrArg List.length hmP.out; have h2 := r_P.len; simp at h1; omega
        obtain ⟨N, hNN⟩ : ∃ N, acc.length = N := ⟨_, rfl⟩
        rw [hNN] at hN
        go_wp2_with fail
        go_at_call 39
        refine (likeOwnFrame_same _ _ _ _ _ _ _ _ r_P r_R (hmP.out.trans hmR.out.symm) (by omega) hsP.out).mono ?_
        rintro e w21 ⟨rfl, hb⟩
        replace B := B.trans (hb.mono B.size)
        replace rF := rF.below hb (Nat.le_refl _)
        replace K := Lib.hid (K.out.belowSelf hb)
        replace r_P := r_P.below hb (Nat.le_refl _)
        replace r_R := r_R.below hb (Nat.le_refl _)
        clear hb
        clear r_R
        obtain ⟨b1, off1, f, hab1, c0, c1, c2, hx, hr⟩ := r_P.at_ (show N < n_R by omega)
        subst hab1
        obtain ⟨v1, v2, v3⟩ : f.k = k ∧ f.m = m ∧ f.xs = fs := by
          have h1 := congrArg (·[N]?) hmP.out
          simp only [List.getElem?_map, hx.out, Option.map_some] at h1
          rw [List.getElem?_append_right (by omega), show N - acc.length = 0 by omega] at h1
          simpa [FrV.val] using h1
        rw [v1] at c0
        rw [v2] at c1
        rw [v3] at hr
        obtain ⟨fa, hfa⟩ : ∃ fa, f.a = fa := ⟨_, rfl⟩
        obtain ⟨fn, hfn⟩ : ∃ fn, f.n = fn := ⟨_, rfl⟩
        obtain ⟨fc, hfc⟩ : ∃ fc, f.c = fc := ⟨_, rfl⟩
        rw [hfa, hfn] at hr
        rw [hfa, hfn, hfc] at c2
        clear hfa hfn hfc v1 v2 v3 hx hmP hmR hsP hsR
        obtain rfl : nF = fn := by have h1 := hr.len; have h2 := rF.len; omega
        clear r_P
        have x0 := Lib.hid c0
        have x1 := Lib.hid c1
        have x2 := Lib.hid c2
        clear c0 c1 c2
        have hsub : (n_R : Int) - 1 = (N : Int) := by omega
        have hpos : (0 : Int) < (n_R : Int) := by omega
        have hlt1 : (N : Int) < (n_R : Int) := by omega
        have hposN : 0 < n_R := by omega
        have hwr : IntKind.i64.wrap ((n_R : Int) - 1) = (N : Int) := by rw [IntKind.wrap_i64]; omega
        have hwN : IntKind.i64.wrap (N : Int) = (N : Int) := by rw [IntKind.wrap_i64]; omega
        have hN0 : (0 : Int) ≤ (N : Int) := by omega
        clear hN hNN
        go_wp2_with fail
        replace B := B.drew
        replace rF := rF.drew
        replace K := Lib.hid K.out.drew
        replace hr := hr.drew
        replace x0 := Lib.hid (cell_drew x0.out)
        replace x1 := Lib.hid (cell_drew x1.out)
        replace x2 := Lib.hid (cell_drew x2.out)
        go_region_held3 (fun w' => w'.cell? ⟨XK, 0, none⟩ = some (.int .i64 k) ∧ w'.cell? ⟨XK, 1, none⟩ = some (.int .i64 m) ∧ w'.cell? ⟨XK, 2, none⟩ = some (.slice aF nF cF) ∧ w'.cell? ⟨b1, off1 + N * 3, none⟩ = some (.int .i64 k) ∧ w'.cell? ⟨b1, off1 + N * 3 + 1, none⟩ = some (.int .i64 m) ∧ w'.cell? ⟨b1, off1 + N * 3 + 2, none⟩ = some (.slice fa nF fc)) (exact ⟨K.out.cell 0, K.out.cell 1, K.out.cell 2, x0.out, x1.out, x2.out⟩) (first | (go_at_call 33; refine (likeFrames_same _ _ _ _ _ _ _ _ _ hr rF (by omega)).mono ?_; rintro e w22 ⟨rfl, hb⟩; replace B := B.trans (hb.mono B.size); replace rF := rF.below hb (Nat.le_refl _); replace K := Lib.hid (K.out.belowSelf hb); replace hr := hr.below hb (Nat.le_refl _); replace x0 := Lib.hid (Below.cellSelf hb x0.out); replace x1 := Lib.hid (Below.cellSelf hb x1.out); replace x2 := Lib.hid (Below.cellSelf hb x2.out); clear hb))
        all_goals (go_wp2; go_ret; exact ⟨rfl, B⟩)

end Go.Proofs.Ytmljcbfpennjkaa.fnStreams
