/- The walk of FnEncoded: it returns true and writes nothing that was there. -/
import Derived.Test.YtkbcolhdhojdfaaRows
import Derived.Test.YtkbcolhdhojdfaaOpenY
import Derived.Test.YtkbcolhdhojdfaaDrawCode
import Derived.Test.YtkbcolhdhojdfaaConv
import Derived.Test.YtkbcolhdhojdfaaTwo
import Derived.WalkKit
import Derived.Handy
namespace Go.Proofs.Ytkbcolhdhojdfaa.fnEncoded
open Go.RowKit
set_option maxRecDepth 100000
set_option linter.unusedVariables false
set_option linter.unusedVariables false

set_option maxRecDepth 100000 in
set_option maxHeartbeats 12800000 in
theorem walk (a0 : Option Addr) (n0 c0 : Nat) (bs : List Nat) (w : World) (f0 : Bytes w a0 n0 bs) :
    Calls Try.prog 4 #[.slice a0 n0 c0] w fun e w' => e = .returned (.bool true) ∧ Below w.heap.size w w' := by
  by_cases hbig : (4096 : Int) < (n0 : Int)
  · go_enter Try.func4, Try.ntmps4
    go_wp2_with (go_at_call 11; refine (big_any _ _ _ _ f0.2.1).mono ?_; rintro e w' ⟨rfl, rfl⟩)
    go_ret
    exact ⟨rfl, Below.refl _ _⟩
  have HC := Lib.hid (f0.code (by omega))
  have hbg := f0.2.1
  clear f0
  go_enter Try.func4, Try.ntmps4
  go_wp2_with (go_at_call 11; refine (big_any _ _ _ _ hbg).mono ?_; rintro e w' ⟨rfl, rfl⟩)
  clear hbig hbg
  go_at_call 12
  refine (drawEncodeBits_any _ _ _ _ _ (HC.out)).mono ?_
  intro e w1 hd
  obtain ⟨aM, nM, cM, ms, rfl, rM, hM, hb⟩ := hd
  have B := hb
  clear hb
  go_wp2_with fail
  go_at_call 13
  refine (encodeBits_impl _ _ _ _ _ rM (by omega)).mono ?_
  rintro e w2 ⟨a_C, n_C, c_C, rfl, o_C, hb⟩
  replace B := B.trans (hb.mono B.size)
  replace rM := rM.below hb (Nat.le_refl _)
  have r_C := o_C.row
  clear hb o_C
  go_wp2_with fail
  go_at_call 14
  refine (encodeBits_spec _ _ _ _ _ rM (by omega)).mono ?_
  rintro e w3 ⟨a_D, n_D, c_D, rfl, o_D, hb⟩
  replace B := B.trans (hb.mono B.size)
  replace rM := rM.below hb (Nat.le_refl _)
  replace r_C := r_C.below hb (Nat.le_refl _)
  have r_D := o_D.row
  clear hb o_D
  obtain rfl : n_D = n_C := by have := r_C.len; have := r_D.len; omega
  have hnC : n_D ≤ 604 := by have := r_C.len; have := encodeBits_len ms; simp [ints] at *; omega
  go_wp2_with fail
  go_at_call 15
  refine (stateBehind_impl _ _ _ _ _ rM (by omega)).mono ?_
  rintro e w4 ⟨rfl, hb⟩
  replace B := B.trans (hb.mono B.size)
  replace rM := rM.below hb (Nat.le_refl _)
  replace r_C := r_C.below hb (Nat.le_refl _)
  replace r_D := r_D.below hb (Nat.le_refl _)
  clear hb
  go_wp2_with fail
  go_at_call 16
  refine (stateBehind_spec _ _ _ _ _ rM (by omega)).mono ?_
  rintro e w5 ⟨rfl, hb⟩
  replace B := B.trans (hb.mono B.size)
  replace rM := rM.below hb (Nat.le_refl _)
  replace r_C := r_C.below hb (Nat.le_refl _)
  replace r_D := r_D.below hb (Nat.le_refl _)
  clear hb
  go_wp2_with fail
  go_at_call 17
  refine (drawMessageOf_any _ _ _ _ _ (HC.out.below B (Nat.le_refl _))).mono ?_
  intro e w6 hd
  obtain ⟨aL, nL, cL, ls, rfl, rL, hL, hb⟩ := hd
  replace B := B.trans (hb.mono B.size)
  replace rM := rM.below hb (Nat.le_refl _)
  replace r_C := r_C.below hb (Nat.le_refl _)
  replace r_D := r_D.below hb (Nat.le_refl _)
  clear hb
  go_wp2_with fail
  go_at_call 18
  refine (messageOf_impl _ _ _ _ _ rL (by omega)).mono ?_
  rintro e w7 ⟨a_X, n_X, c_X, rfl, o_X, hb⟩
  replace B := B.trans (hb.mono B.size)
  replace rM := rM.below hb (Nat.le_refl _)
  replace r_C := r_C.below hb (Nat.le_refl _)
  replace r_D := r_D.below hb (Nat.le_refl _)
  replace rL := rL.below hb (Nat.le_refl _)
  have r_X := o_X.row
  clear hb o_X
  go_wp2_with fail
  go_at_call 19
  refine (messageOf_spec _ _ _ _ _ rL (by omega)).mono ?_
  rintro e w8 ⟨a_Y, n_Y, c_Y, rfl, o_Y, hb⟩
  replace B := B.trans (hb.mono B.size)
  replace rM := rM.below hb (Nat.le_refl _)
  replace r_C := r_C.below hb (Nat.le_refl _)
  replace r_D := r_D.below hb (Nat.le_refl _)
  replace rL := rL.below hb (Nat.le_refl _)
  replace r_X := r_X.below hb (Nat.le_refl _)
  have r_Y := o_Y.row
  clear hb o_Y
  obtain rfl : n_Y = n_X := by have := r_X.len; have := r_Y.len; omega
  have hnX : n_Y ≤ 302 := by have := r_X.len; have := messageOf_len ls; simp [ints] at *; omega
  have e1 : ((encodeBits ms).2 != (encodeBits ms).2) = false := by simp
  have e2 : ((stateBehind ms).2 != (stateBehind ms).2) = false := by simp
  have e2b : ((stateBehind ms).1 != (stateBehind ms).1) = false := by simp
  have e3 : ((messageOf ls).2 != (messageOf ls).2) = false := by simp
  go_wp2_with fail
  go_at_call 20
  refine (likeInts_same _ _ _ _ _ _ _ r_C r_D (by omega)).mono ?_
  rintro e w9 ⟨rfl, hb⟩
  replace B := B.trans (hb.mono B.size)
  replace rM := rM.below hb (Nat.le_refl _)
  replace r_C := r_C.below hb (Nat.le_refl _)
  replace r_D := r_D.below hb (Nat.le_refl _)
  replace rL := rL.below hb (Nat.le_refl _)
  replace r_X := r_X.below hb (Nat.le_refl _)
  replace r_Y := r_Y.below hb (Nat.le_refl _)
  clear hb
  clear r_D
  go_wp2_with fail
  go_at_call 20
  refine (likeInts_same _ _ _ _ _ _ _ r_X r_Y (by omega)).mono ?_
  rintro e w10 ⟨rfl, hb⟩
  replace B := B.trans (hb.mono B.size)
  replace rM := rM.below hb (Nat.le_refl _)
  replace r_C := r_C.below hb (Nat.le_refl _)
  replace rL := rL.below hb (Nat.le_refl _)
  replace r_X := r_X.below hb (Nat.le_refl _)
  replace r_Y := r_Y.below hb (Nat.le_refl _)
  clear hb
  clear r_Y
  clear e1 e2 e2b e3
  by_cases hz : (messageOf ls).2 = 0
  · have hcode := Lib.hid (messageOf_code hz)
    rw [hz]
    clear hz
    go_wp2_with fail
    go_at_call 13
    refine (encodeBits_impl _ _ _ _ _ r_X (by omega)).mono ?_
    rintro e w11 ⟨a_Q, n_Q, c_Q, rfl, o_Q, hb⟩
    replace B := B.trans (hb.mono B.size)
    replace rM := rM.below hb (Nat.le_refl _)
    replace r_C := r_C.below hb (Nat.le_refl _)
    replace rL := rL.below hb (Nat.le_refl _)
    replace r_X := r_X.below hb (Nat.le_refl _)
    have r_Q := o_Q.row
    clear hb o_Q
    rw [hcode.out] at r_Q ⊢
    replace r_Q : Row w11 1 a_Q n_Q (ints ls) := r_Q
    obtain rfl : n_Q = nL := by have := r_Q.len; have := rL.len; omega
    go_wp2_with fail
    go_at_call 20
    refine (likeInts_same _ _ _ _ _ _ _ r_Q rL (by omega)).mono ?_
    rintro e w12 ⟨rfl, hb⟩
    replace B := B.trans (hb.mono B.size)
    replace rM := rM.below hb (Nat.le_refl _)
    replace r_C := r_C.below hb (Nat.le_refl _)
    replace rL := rL.below hb (Nat.le_refl _)
    replace r_X := r_X.below hb (Nat.le_refl _)
    replace r_Q := r_Q.below hb (Nat.le_refl _)
    clear hb
    clear r_Q rL r_X
    clear hcode hnX
    rcases encodeBits_cases ms with he | ⟨hok, he⟩
    · have hc : (encodeBits ms).2 = 1 := by rw [he]
      rw [hc]
      clear he
      go_wp2
      go_ret
      exact ⟨rfl, B⟩
    · have hc : (encodeBits ms).2 = 0 := by rw [he]
      have hcl : (encodeBits ms).1 = encL ms := by rw [he]
      rw [hc]
      rw [hcl] at r_C
      clear he hc hcl
      have hbm := Lib.hid (Bits.of hok)
      have hml := Lib.hid (show ms.length = nM by have := rM.len; simpa [ints] using this)
      have hM3 : nM ≤ 300 := by have : (nM : Int) ≤ 300 := listOk_le hok rM.len; omega
      obtain rfl : n_D = 2 * (nM + 2) := by have := r_C.len; have := encL_len ms; have := hml.out; simp [ints] at *; omega
      have hme := Lib.hid (messageOf_enc hok)
      clear hok
      go_wp2_with fail
      go_at_call 18
      refine (messageOf_impl _ _ _ _ _ r_C (by omega)).mono ?_
      rintro e w13 ⟨a_K, n_K, c_K, rfl, o_K, hb⟩
      replace B := B.trans (hb.mono B.size)
      replace rM := rM.below hb (Nat.le_refl _)
      replace r_C := r_C.below hb (Nat.le_refl _)
      have r_K := o_K.row
      clear hb o_K
      rw [hme.out] at r_K ⊢
      replace r_K : Row w13 1 a_K n_K (ints ms) := r_K
      obtain rfl : n_K = nM := by have := r_K.len; have := hml.out; simp [ints] at *; omega
      clear hme
      go_wp2_with fail
      go_at_call 21
      refine (roll_any _ _ _ _ 2701 _ (HC.out.below B (Nat.le_refl _)) (by omega)).mono ?_
      rintro e w14 ⟨p, rfl, hp, hd, hb⟩
      have hpV : w13.heap.size ≤ p := by omega
      clear hp
      have hpU := hd.lt
      have hd1 := Lib.hid ((hd.alloc (.cells #[] 2)).alloc (.cells #[] 2))
      have hb1 := Lib.hid ((hb.alloc hb.size (.cells #[] 2)).alloc (Nat.le_trans hb.size (by simp)) (.cells #[] 2))
      have sa := Lib.hid ((Own.lit0 w14 2 1).sol.alloc (.cells #[] 2))
      have sb := Lib.hid ((Own.lit0 (w14.alloc (.cells #[] 2)) 2 1).sol)
      have hb0 := hb.size
      clear hb hd
      go_wp2
      go_loopw [22, 23, 24] (fun o b i wr => ∃ (k ga gb ca cb : Nat) (ys : List Int), k ≤ n_K ∧ i = .int .i64 k ∧ o = .slice (some ⟨ga, 0, none⟩) k ca ∧ b = .slice (some ⟨gb, 0, none⟩) k cb ∧ Hid (Sol wr 2 1 ga k ca (ints ys)) ∧ Hid (Sol wr 2 1 gb k cb (ints (List.zipWith xorI (ms.take k) ys))) ∧ ga ≠ gb ∧ p < ga ∧ p < gb ∧ Hid (Bits ys) ∧ Hid (DiceOk wr p) ∧ Hid (Below w13.heap.size w13 wr)) (fun _ _ i _ => n_K - (intOf i).toNat)
      case atStart => exact ⟨0, w14.heap.size, w14.heap.size + 1, 0, 0, [], Nat.zero_le _, rfl, rfl, by go_num, sa, Lib.hid (by have h := sb.out; simpa [ints] using h), by omega, by omega, by omega, Lib.hid (by intro x hx; simp at hx), hd1, hb1⟩
      case round =>
        clear sa sb hd1 hb1
        obtain ⟨k, ga, gb, ca, cb, ys, hk, rfl, rfl, rfl, sa, sb, hab, hpa, hpb, hby, hd, hbel⟩ := hrel
        by_cases hlt : k < n_K
        · obtain ⟨b, off, x, rfl, -, hx⟩ := (rM.below hbel.out (Nat.le_refl _)).at_ hlt
          have hxb := hbm.out.get hx.out
          have hkI : (k : Int) < (n_K : Int) := by omega
          go_wp2_with fail
          go_at_call 22
          refine (below_any _ _ _ hd.out (by omega)).mono ?_
          rintro e w91 ⟨r, rfl, hr0, hr1, hd2, hg⟩
          have sa2 := Lib.hid ((sa.out.apart hg (by omega)).alloc (.cells #[.int .i64 r] 2))
          have sb2 := Lib.hid ((sb.out.apart hg (by omega)).alloc (.cells #[.int .i64 r] 2))
          have hb2 := Lib.hid ((below_next' hbel.out hpV hg).alloc (below_next' hbel.out hpV hg).size (.cells #[.int .i64 r] 2))
          have hd3 := Lib.hid (hd2.alloc (.cells #[.int .i64 r] 2))
          clear sa sb hbel hd hd2 hg
          have hxr := Lib.hid (xor_two hxb ⟨hr0, by omega⟩)
          go_wp2_with (first | (at_builtin; refine wpList_sol rfl (.tmp 135) (.tmp 137) _ rfl Try.underlying22 info_i64 rfl (by decide) rfl sa2.out rfl (Row.one _ _ _) (ints_one [r]) (by decide) (by simp only [maxLen]; omega) (by omega) ?_; intro g2 c2 w92 hs5 hg5 ho5; have hlt2 := sb2.out.lt; have hsa3 := Lib.hid hs5; have hsb3 := Lib.hid (sb2.out.apart hg5 (by omega)); have hb3 := Lib.hid (below_next' hb2.out (by omega) hg5); have hd4 := Lib.hid (dice_grown hd3.out hg5 hpa); have hg2 : g2 ≠ gb ∧ p < g2 := (by have := hd3.out.lt; rcases ho5 with h | h <;> omega); have hc5 := (rM.below hb3.out (Nat.le_refl _)).get_ hx.out; clear hs5 hg5 ho5 sa2 sb2 hb2 hd3 hlt2) | (at_builtin; rw [hxr.out]; have hsa4 := Lib.hid (hsa3.out.alloc (.cells #[.int .i64 (xorI x r)] 2)); have hsb4 := Lib.hid (hsb3.out.alloc (.cells #[.int .i64 (xorI x r)] 2)); have hb4 := Lib.hid (hb3.out.alloc hb3.out.size (.cells #[.int .i64 (xorI x r)] 2)); have hd5 := Lib.hid (hd4.out.alloc (.cells #[.int .i64 (xorI x r)] 2)); clear hsa3 hsb3 hb3 hd4 hc5; refine wpList_sol rfl (.tmp 139) (.tmp 146) _ rfl Try.underlying22 info_i64 rfl (by decide) rfl hsb4.out rfl (Row.one _ _ _) (ints_one [xorI x r]) (by decide) (by simp only [maxLen]; omega) (by omega) ?_; intro g3 c3 w93 hs6 hg6 ho6; have hlt3 := hsa4.out.lt; have hsb5 := Lib.hid hs6; have hsa5 := Lib.hid (hsa4.out.apart hg6 hg2.1); have hb5 := Lib.hid (below_next' hb4.out (by omega) hg6); have hd6 := Lib.hid (dice_grown hd5.out hg6 hpb); have hg3 : g2 ≠ g3 ∧ p < g3 := (by have := hd5.out.lt; rcases ho6 with h | h <;> omega); clear hs6 hg6 ho6 hsa4 hsb4 hb4 hd5 hlt3))
          go_roundw
          case rel =>
            have hyl : ys.length = k := by have := hsa5.out.row.1; simp [ints] at this; omega
            exact ⟨k + 1, g2, g3, c2, c3, ys ++ [r], by omega, by go_num, rfl, rfl, Lib.hid (by rw [ints_app]; exact hsa5.out), Lib.hid (by rw [zip_snoc hx.out hyl, ints_app]; exact hsb5.out), hg3.1, hg2.2, hg3.2, Lib.hid (bits_snoc hby.out ⟨hr0, by omega⟩), hd6, hb5⟩
          case measure => simp [intOf] <;> omega
        · obtain rfl : k = n_K := by omega
          clear hlt hk
          have hyl : ys.length = k := sa.out.row.len
          rw [List.take_of_length_le (by have := hml.out; omega)] at sb
          have hzl : (List.zipWith xorI ms ys).length = k := by have := hml.out; simp [List.length_zipWith]; omega
          replace rM := rM.below hbel.out (Nat.le_refl _)
          replace r_C := r_C.below hbel.out (Nat.le_refl _)
          replace r_K := r_K.below hbel.out (Nat.le_refl _)
          replace B := B.trans (hbel.out.mono B.size)
          have r_O := sa.out.row
          have r_Z := sb.out.row
          have hy := Lib.hid (encodeBits_yes (listOk_mk (most := 300) hby.out (by omega)))
          have hz2 := Lib.hid (encodeBits_yes (listOk_mk (most := 300) (xor_bits (xs := ms) (ys := ys)) (by omega)))
          have hsum := Lib.hid (encL_sum2 (xs := ms) (ys := ys) (by have := hml.out; omega) hbm.out hby.out)
          have hyl2 := Lib.hid (encL_len ys)
          have hzl2 := Lib.hid (encL_len (List.zipWith xorI ms ys))
          have hml2 := Lib.hid (encL_len ms)
          have hbc := Lib.hid (enc_bits' (ms ++ [0, 0]) 0)
          have hba := Lib.hid (enc_bits' (ys ++ [0, 0]) 0)
          clear sa sb hbel hd hby hbm hab hpa hpb
          go_wp2_with fail
          go_at_call 13
          refine (encodeBits_impl _ _ _ _ _ r_O (by omega)).mono ?_
          rintro e w15 ⟨a_A, n_A, c_A, rfl, o_A, hb⟩
          replace B := B.trans (hb.mono B.size)
          replace rM := rM.below hb (Nat.le_refl _)
          replace r_C := r_C.below hb (Nat.le_refl _)
          replace r_K := r_K.below hb (Nat.le_refl _)
          replace r_O := r_O.below hb (Nat.le_refl _)
          replace r_Z := r_Z.below hb (Nat.le_refl _)
          have r_A := o_A.row
          clear hb o_A
          rw [hy.out] at r_A ⊢
          replace r_A : Row w15 1 a_A n_A (ints (encL ys)) := r_A
          obtain rfl : n_A = 2 * (k + 2) := by have := r_A.len; have := hyl2.out; simp only [ints] at *; omega
          go_wp2_with fail
          go_at_call 14
          refine (encodeBits_spec _ _ _ _ _ r_O (by omega)).mono ?_
          rintro e w16 ⟨a_E, n_E, c_E, rfl, o_E, hb⟩
          replace B := B.trans (hb.mono B.size)
          replace rM := rM.below hb (Nat.le_refl _)
          replace r_C := r_C.below hb (Nat.le_refl _)
          replace r_K := r_K.below hb (Nat.le_refl _)
          replace r_O := r_O.below hb (Nat.le_refl _)
          replace r_Z := r_Z.below hb (Nat.le_refl _)
          replace r_A := r_A.below hb (Nat.le_refl _)
          have r_E := o_E.row
          clear hb o_E
          rw [hy.out] at r_E ⊢
          replace r_E : Row w16 1 a_E n_E (ints (encL ys)) := r_E
          obtain rfl : n_E = 2 * (k + 2) := by have := r_E.len; have := hyl2.out; simp only [ints] at *; omega
          go_wp2_with fail
          go_at_call 20
          refine (likeInts_same _ _ _ _ _ _ _ r_A r_E (by omega)).mono ?_
          rintro e w17 ⟨rfl, hb⟩
          replace B := B.trans (hb.mono B.size)
          replace rM := rM.below hb (Nat.le_refl _)
          replace r_C := r_C.below hb (Nat.le_refl _)
          replace r_K := r_K.below hb (Nat.le_refl _)
          replace r_O := r_O.below hb (Nat.le_refl _)
          replace r_Z := r_Z.below hb (Nat.le_refl _)
          replace r_A := r_A.below hb (Nat.le_refl _)
          replace r_E := r_E.below hb (Nat.le_refl _)
          clear hb
          clear r_E r_O
          go_wp2_with fail
          go_at_call 13
          refine (encodeBits_impl _ _ _ _ _ r_Z (by omega)).mono ?_
          rintro e w18 ⟨a_F, n_F, c_F, rfl, o_F, hb⟩
          replace B := B.trans (hb.mono B.size)
          replace rM := rM.below hb (Nat.le_refl _)
          replace r_C := r_C.below hb (Nat.le_refl _)
          replace r_K := r_K.below hb (Nat.le_refl _)
          replace r_Z := r_Z.below hb (Nat.le_refl _)
          replace r_A := r_A.below hb (Nat.le_refl _)
          have r_F := o_F.row
          clear hb o_F
          rw [hz2.out] at r_F ⊢
          replace r_F : Row w18 1 a_F n_F (ints (encL (List.zipWith xorI ms ys))) := r_F
          obtain rfl : n_F = 2 * (k + 2) := by have := r_F.len; have := hzl2.out; simp only [ints] at *; omega
          go_wp2_with fail
          go_at_call 14
          refine (encodeBits_spec _ _ _ _ _ r_Z (by omega)).mono ?_
          rintro e w19 ⟨a_G, n_G, c_G, rfl, o_G, hb⟩
          replace B := B.trans (hb.mono B.size)
          replace rM := rM.below hb (Nat.le_refl _)
          replace r_C := r_C.below hb (Nat.le_refl _)
          replace r_K := r_K.below hb (Nat.le_refl _)
          replace r_Z := r_Z.below hb (Nat.le_refl _)
          replace r_A := r_A.below hb (Nat.le_refl _)
          replace r_F := r_F.below hb (Nat.le_refl _)
          have r_G := o_G.row
          clear hb o_G
          rw [hz2.out] at r_G ⊢
          replace r_G : Row w19 1 a_G n_G (ints (encL (List.zipWith xorI ms ys))) := r_G
          obtain rfl : n_G = 2 * (k + 2) := by have := r_G.len; have := hzl2.out; simp only [ints] at *; omega
          go_wp2_with fail
          go_at_call 20
          refine (likeInts_same _ _ _ _ _ _ _ r_F r_G (by omega)).mono ?_
          rintro e w20 ⟨rfl, hb⟩
          replace B := B.trans (hb.mono B.size)
          replace rM := rM.below hb (Nat.le_refl _)
          replace r_C := r_C.below hb (Nat.le_refl _)
          replace r_K := r_K.below hb (Nat.le_refl _)
          replace r_Z := r_Z.below hb (Nat.le_refl _)
          replace r_A := r_A.below hb (Nat.le_refl _)
          replace r_F := r_F.below hb (Nat.le_refl _)
          replace r_G := r_G.below hb (Nat.le_refl _)
          clear hb
          clear r_G r_Z
          obtain ⟨N, hN⟩ : ∃ N, 2 * (k + 2) = N := ⟨_, rfl⟩
          have hN6 : N ≤ 604 := by omega
          rw [hN] at r_A r_F r_C ⊢
          clear hN
          have e5 : ((N : Int) != (N : Int)) = false := by simp
          go_wp2_with fail
          go_at_call 20
          refine (likeInts_same _ _ _ _ _ _ _ r_K rM (by omega)).mono ?_
          rintro e w21 ⟨rfl, hb⟩
          replace B := B.trans (hb.mono B.size)
          replace rM := rM.below hb (Nat.le_refl _)
          replace r_C := r_C.below hb (Nat.le_refl _)
          replace r_K := r_K.below hb (Nat.le_refl _)
          replace r_A := r_A.below hb (Nat.le_refl _)
          replace r_F := r_F.below hb (Nat.le_refl _)
          clear hb
          clear r_K rM
          clear e5
          go_wp2
          go_loopw [34] (fun i wr => ∃ j : Nat, j ≤ N ∧ i = .int .i64 j ∧ Below w21.heap.size w21 wr) (fun i _ => N - (intOf i).toNat)
          case atStart => exact ⟨0, Nat.zero_le _, rfl, Below.refl _ _⟩
          case round =>
            obtain ⟨j, hj, rfl, hbel⟩ := hrel
            by_cases hlt : j < N
            · obtain ⟨b1, off1, x1, rfl, hc1, hx1⟩ := (r_A.below hbel (Nat.le_refl _)).at_ hlt
              obtain ⟨b2, off2, x2, rfl, hc2, hx2⟩ := (r_C.below hbel (Nat.le_refl _)).at_ hlt
              obtain ⟨b3, off3, x3, rfl, hc3, hx3⟩ := (r_F.below hbel (Nat.le_refl _)).at_ hlt
              obtain rfl : x3 = bits .xor .i64 x1 x2 := by
                have h1 := hx3.out
                rw [hsum.out, xor_get hx2.out hx1.out] at h1
                injection h1 with h1
                rw [xor_two (hba.out.get hx1.out) (hbc.out.get hx2.out), ← h1]
                unfold xorI; omega
              have hjI : (j : Int) < (N : Int) := by omega
              clear hx1 hx2 hx3
              go_wp2_with fail
              go_quiet (fail)
              go_wp2
              go_roundw
              case rel => exact ⟨j + 1, by omega, by go_num, bdn hbel _⟩
              case measure => simp [intOf] <;> omega
            · go_wp2
              go_ret
              exact ⟨rfl, B.trans (hbel.mono B.size)⟩
  · have hzf : ((messageOf ls).2 == 0) = false := by simpa using hz
    clear hz
    clear rL r_X
    clear hnX
    generalize (messageOf ls).2 = zz at hzf ⊢
    rcases encodeBits_cases ms with he | ⟨hok, he⟩
    · have hc : (encodeBits ms).2 = 1 := by rw [he]
      rw [hc]
      clear he
      go_wp2
      go_ret
      exact ⟨rfl, B⟩
    · have hc : (encodeBits ms).2 = 0 := by rw [he]
      have hcl : (encodeBits ms).1 = encL ms := by rw [he]
      rw [hc]
      rw [hcl] at r_C
      clear he hc hcl
      have hbm := Lib.hid (Bits.of hok)
      have hml := Lib.hid (show ms.length = nM by have := rM.len; simpa [ints] using this)
      have hM3 : nM ≤ 300 := by have : (nM : Int) ≤ 300 := listOk_le hok rM.len; omega
      obtain rfl : n_D = 2 * (nM + 2) := by have := r_C.len; have := encL_len ms; have := hml.out; simp [ints] at *; omega
      have hme := Lib.hid (messageOf_enc hok)
      clear hok
      go_wp2_with fail
      go_at_call 18
      refine (messageOf_impl _ _ _ _ _ r_C (by omega)).mono ?_
      rintro e w11 ⟨a_K, n_K, c_K, rfl, o_K, hb⟩
      replace B := B.trans (hb.mono B.size)
      replace rM := rM.below hb (Nat.le_refl _)
      replace r_C := r_C.below hb (Nat.le_refl _)
      have r_K := o_K.row
      clear hb o_K
      rw [hme.out] at r_K ⊢
      replace r_K : Row w11 1 a_K n_K (ints ms) := r_K
      obtain rfl : n_K = nM := by have := r_K.len; have := hml.out; simp [ints] at *; omega
      clear hme
      go_wp2_with fail
      go_at_call 21
      refine (roll_any _ _ _ _ 2701 _ (HC.out.below B (Nat.le_refl _)) (by omega)).mono ?_
      rintro e w12 ⟨p, rfl, hp, hd, hb⟩
      have hpV : w11.heap.size ≤ p := by omega
      clear hp
      have hpU := hd.lt
      have hd1 := Lib.hid ((hd.alloc (.cells #[] 2)).alloc (.cells #[] 2))
      have hb1 := Lib.hid ((hb.alloc hb.size (.cells #[] 2)).alloc (Nat.le_trans hb.size (by simp)) (.cells #[] 2))
      have sa := Lib.hid ((Own.lit0 w12 2 1).sol.alloc (.cells #[] 2))
      have sb := Lib.hid ((Own.lit0 (w12.alloc (.cells #[] 2)) 2 1).sol)
      have hb0 := hb.size
      clear hb hd
      go_wp2
      go_loopw [22, 23, 24] (fun o b i wr => ∃ (k ga gb ca cb : Nat) (ys : List Int), k ≤ n_K ∧ i = .int .i64 k ∧ o = .slice (some ⟨ga, 0, none⟩) k ca ∧ b = .slice (some ⟨gb, 0, none⟩) k cb ∧ Hid (Sol wr 2 1 ga k ca (ints ys)) ∧ Hid (Sol wr 2 1 gb k cb (ints (List.zipWith xorI (ms.take k) ys))) ∧ ga ≠ gb ∧ p < ga ∧ p < gb ∧ Hid (Bits ys) ∧ Hid (DiceOk wr p) ∧ Hid (Below w11.heap.size w11 wr)) (fun _ _ i _ => n_K - (intOf i).toNat)
      case atStart => exact ⟨0, w12.heap.size, w12.heap.size + 1, 0, 0, [], Nat.zero_le _, rfl, rfl, by go_num, sa, Lib.hid (by have h := sb.out; simpa [ints] using h), by omega, by omega, by omega, Lib.hid (by intro x hx; simp at hx), hd1, hb1⟩
      case round =>
        clear sa sb hd1 hb1
        obtain ⟨k, ga, gb, ca, cb, ys, hk, rfl, rfl, rfl, sa, sb, hab, hpa, hpb, hby, hd, hbel⟩ := hrel
        by_cases hlt : k < n_K
        · obtain ⟨b, off, x, rfl, -, hx⟩ := (rM.below hbel.out (Nat.le_refl _)).at_ hlt
          have hxb := hbm.out.get hx.out
          have hkI : (k : Int) < (n_K : Int) := by omega
          go_wp2_with fail
          go_at_call 22
          refine (below_any _ _ _ hd.out (by omega)).mono ?_
          rintro e w91 ⟨r, rfl, hr0, hr1, hd2, hg⟩
          have sa2 := Lib.hid ((sa.out.apart hg (by omega)).alloc (.cells #[.int .i64 r] 2))
          have sb2 := Lib.hid ((sb.out.apart hg (by omega)).alloc (.cells #[.int .i64 r] 2))
          have hb2 := Lib.hid ((below_next' hbel.out hpV hg).alloc (below_next' hbel.out hpV hg).size (.cells #[.int .i64 r] 2))
          have hd3 := Lib.hid (hd2.alloc (.cells #[.int .i64 r] 2))
          clear sa sb hbel hd hd2 hg
          have hxr := Lib.hid (xor_two hxb ⟨hr0, by omega⟩)
          go_wp2_with (first | (at_builtin; refine wpList_sol rfl (.tmp 135) (.tmp 137) _ rfl Try.underlying22 info_i64 rfl (by decide) rfl sa2.out rfl (Row.one _ _ _) (ints_one [r]) (by decide) (by simp only [maxLen]; omega) (by omega) ?_; intro g2 c2 w92 hs5 hg5 ho5; have hlt2 := sb2.out.lt; have hsa3 := Lib.hid hs5; have hsb3 := Lib.hid (sb2.out.apart hg5 (by omega)); have hb3 := Lib.hid (below_next' hb2.out (by omega) hg5); have hd4 := Lib.hid (dice_grown hd3.out hg5 hpa); have hg2 : g2 ≠ gb ∧ p < g2 := (by have := hd3.out.lt; rcases ho5 with h | h <;> omega); have hc5 := (rM.below hb3.out (Nat.le_refl _)).get_ hx.out; clear hs5 hg5 ho5 sa2 sb2 hb2 hd3 hlt2) | (at_builtin; rw [hxr.out]; have hsa4 := Lib.hid (hsa3.out.alloc (.cells #[.int .i64 (xorI x r)] 2)); have hsb4 := Lib.hid (hsb3.out.alloc (.cells #[.int .i64 (xorI x r)] 2)); have hb4 := Lib.hid (hb3.out.alloc hb3.out.size (.cells #[.int .i64 (xorI x r)] 2)); have hd5 := Lib.hid (hd4.out.alloc (.cells #[.int .i64 (xorI x r)] 2)); clear hsa3 hsb3 hb3 hd4 hc5; refine wpList_sol rfl (.tmp 139) (.tmp 146) _ rfl Try.underlying22 info_i64 rfl (by decide) rfl hsb4.out rfl (Row.one _ _ _) (ints_one [xorI x r]) (by decide) (by simp only [maxLen]; omega) (by omega) ?_; intro g3 c3 w93 hs6 hg6 ho6; have hlt3 := hsa4.out.lt; have hsb5 := Lib.hid hs6; have hsa5 := Lib.hid (hsa4.out.apart hg6 hg2.1); have hb5 := Lib.hid (below_next' hb4.out (by omega) hg6); have hd6 := Lib.hid (dice_grown hd5.out hg6 hpb); have hg3 : g2 ≠ g3 ∧ p < g3 := (by have := hd5.out.lt; rcases ho6 with h | h <;> omega); clear hs6 hg6 ho6 hsa4 hsb4 hb4 hd5 hlt3))
          go_roundw
          case rel =>
            have hyl : ys.length = k := by have := hsa5.out.row.1; simp [ints] at this; omega
            exact ⟨k + 1, g2, g3, c2, c3, ys ++ [r], by omega, by go_num, rfl, rfl, Lib.hid (by rw [ints_app]; exact hsa5.out), Lib.hid (by rw [zip_snoc hx.out hyl, ints_app]; exact hsb5.out), hg3.1, hg2.2, hg3.2, Lib.hid (bits_snoc hby.out ⟨hr0, by omega⟩), hd6, hb5⟩
          case measure => simp [intOf] <;> omega
        · obtain rfl : k = n_K := by omega
          clear hlt hk
          have hyl : ys.length = k := sa.out.row.len
          rw [List.take_of_length_le (by have := hml.out; omega)] at sb
          have hzl : (List.zipWith xorI ms ys).length = k := by have := hml.out; simp [List.length_zipWith]; omega
          replace rM := rM.below hbel.out (Nat.le_refl _)
          replace r_C := r_C.below hbel.out (Nat.le_refl _)
          replace r_K := r_K.below hbel.out (Nat.le_refl _)
          replace B := B.trans (hbel.out.mono B.size)
          have r_O := sa.out.row
          have r_Z := sb.out.row
          have hy := Lib.hid (encodeBits_yes (listOk_mk (most := 300) hby.out (by omega)))
          have hz2 := Lib.hid (encodeBits_yes (listOk_mk (most := 300) (xor_bits (xs := ms) (ys := ys)) (by omega)))
          have hsum := Lib.hid (encL_sum2 (xs := ms) (ys := ys) (by have := hml.out; omega) hbm.out hby.out)
          have hyl2 := Lib.hid (encL_len ys)
          have hzl2 := Lib.hid (encL_len (List.zipWith xorI ms ys))
          have hml2 := Lib.hid (encL_len ms)
          have hbc := Lib.hid (enc_bits' (ms ++ [0, 0]) 0)
          have hba := Lib.hid (enc_bits' (ys ++ [0, 0]) 0)
          clear sa sb hbel hd hby hbm hab hpa hpb
          go_wp2_with fail
          go_at_call 13
          refine (encodeBits_impl _ _ _ _ _ r_O (by omega)).mono ?_
          rintro e w13 ⟨a_A, n_A, c_A, rfl, o_A, hb⟩
          replace B := B.trans (hb.mono B.size)
          replace rM := rM.below hb (Nat.le_refl _)
          replace r_C := r_C.below hb (Nat.le_refl _)
          replace r_K := r_K.below hb (Nat.le_refl _)
          replace r_O := r_O.below hb (Nat.le_refl _)
          replace r_Z := r_Z.below hb (Nat.le_refl _)
          have r_A := o_A.row
          clear hb o_A
          rw [hy.out] at r_A ⊢
          replace r_A : Row w13 1 a_A n_A (ints (encL ys)) := r_A
          obtain rfl : n_A = 2 * (k + 2) := by have := r_A.len; have := hyl2.out; simp only [ints] at *; omega
          go_wp2_with fail
          go_at_call 14
          refine (encodeBits_spec _ _ _ _ _ r_O (by omega)).mono ?_
          rintro e w14 ⟨a_E, n_E, c_E, rfl, o_E, hb⟩
          replace B := B.trans (hb.mono B.size)
          replace rM := rM.below hb (Nat.le_refl _)
          replace r_C := r_C.below hb (Nat.le_refl _)
          replace r_K := r_K.below hb (Nat.le_refl _)
          replace r_O := r_O.below hb (Nat.le_refl _)
          replace r_Z := r_Z.below hb (Nat.le_refl _)
          replace r_A := r_A.below hb (Nat.le_refl _)
          have r_E := o_E.row
          clear hb o_E
          rw [hy.out] at r_E ⊢
          replace r_E : Row w14 1 a_E n_E (ints (encL ys)) := r_E
          obtain rfl : n_E = 2 * (k + 2) := by have := r_E.len; have := hyl2.out; simp only [ints] at *; omega
          go_wp2_with fail
          go_at_call 20
          refine (likeInts_same _ _ _ _ _ _ _ r_A r_E (by omega)).mono ?_
          rintro e w15 ⟨rfl, hb⟩
          replace B := B.trans (hb.mono B.size)
          replace rM := rM.below hb (Nat.le_refl _)
          replace r_C := r_C.below hb (Nat.le_refl _)
          replace r_K := r_K.below hb (Nat.le_refl _)
          replace r_O := r_O.below hb (Nat.le_refl _)
          replace r_Z := r_Z.below hb (Nat.le_refl _)
          replace r_A := r_A.below hb (Nat.le_refl _)
          replace r_E := r_E.below hb (Nat.le_refl _)
          clear hb
          clear r_E r_O
          go_wp2_with fail
          go_at_call 13
          refine (encodeBits_impl _ _ _ _ _ r_Z (by omega)).mono ?_
          rintro e w16 ⟨a_F, n_F, c_F, rfl, o_F, hb⟩
          replace B := B.trans (hb.mono B.size)
          replace rM := rM.below hb (Nat.le_refl _)
          replace r_C := r_C.below hb (Nat.le_refl _)
          replace r_K := r_K.below hb (Nat.le_refl _)
          replace r_Z := r_Z.below hb (Nat.le_refl _)
          replace r_A := r_A.below hb (Nat.le_refl _)
          have r_F := o_F.row
          clear hb o_F
          rw [hz2.out] at r_F ⊢
          replace r_F : Row w16 1 a_F n_F (ints (encL (List.zipWith xorI ms ys))) := r_F
          obtain rfl : n_F = 2 * (k + 2) := by have := r_F.len; have := hzl2.out; simp only [ints] at *; omega
          go_wp2_with fail
          go_at_call 14
          refine (encodeBits_spec _ _ _ _ _ r_Z (by omega)).mono ?_
          rintro e w17 ⟨a_G, n_G, c_G, rfl, o_G, hb⟩
          replace B := B.trans (hb.mono B.size)
          replace rM := rM.below hb (Nat.le_refl _)
          replace r_C := r_C.below hb (Nat.le_refl _)
          replace r_K := r_K.below hb (Nat.le_refl _)
          replace r_Z := r_Z.below hb (Nat.le_refl _)
          replace r_A := r_A.below hb (Nat.le_refl _)
          replace r_F := r_F.below hb (Nat.le_refl _)
          have r_G := o_G.row
          clear hb o_G
          rw [hz2.out] at r_G ⊢
          replace r_G : Row w17 1 a_G n_G (ints (encL (List.zipWith xorI ms ys))) := r_G
          obtain rfl : n_G = 2 * (k + 2) := by have := r_G.len; have := hzl2.out; simp only [ints] at *; omega
          go_wp2_with fail
          go_at_call 20
          refine (likeInts_same _ _ _ _ _ _ _ r_F r_G (by omega)).mono ?_
          rintro e w18 ⟨rfl, hb⟩
          replace B := B.trans (hb.mono B.size)
          replace rM := rM.below hb (Nat.le_refl _)
          replace r_C := r_C.below hb (Nat.le_refl _)
          replace r_K := r_K.below hb (Nat.le_refl _)
          replace r_Z := r_Z.below hb (Nat.le_refl _)
          replace r_A := r_A.below hb (Nat.le_refl _)
          replace r_F := r_F.below hb (Nat.le_refl _)
          replace r_G := r_G.below hb (Nat.le_refl _)
          clear hb
          clear r_G r_Z
          obtain ⟨N, hN⟩ : ∃ N, 2 * (k + 2) = N := ⟨_, rfl⟩
          have hN6 : N ≤ 604 := by omega
          rw [hN] at r_A r_F r_C ⊢
          clear hN
          have e5 : ((N : Int) != (N : Int)) = false := by simp
          go_wp2_with fail
          go_at_call 20
          refine (likeInts_same _ _ _ _ _ _ _ r_K rM (by omega)).mono ?_
          rintro e w19 ⟨rfl, hb⟩
          replace B := B.trans (hb.mono B.size)
          replace rM := rM.below hb (Nat.le_refl _)
          replace r_C := r_C.below hb (Nat.le_refl _)
          replace r_K := r_K.below hb (Nat.le_refl _)
          replace r_A := r_A.below hb (Nat.le_refl _)
          replace r_F := r_F.below hb (Nat.le_refl _)
          clear hb
          clear r_K rM
          clear e5
          go_wp2
          go_loopw [34] (fun i wr => ∃ j : Nat, j ≤ N ∧ i = .int .i64 j ∧ Below w19.heap.size w19 wr) (fun i _ => N - (intOf i).toNat)
          case atStart => exact ⟨0, Nat.zero_le _, rfl, Below.refl _ _⟩
          case round =>
            obtain ⟨j, hj, rfl, hbel⟩ := hrel
            by_cases hlt : j < N
            · obtain ⟨b1, off1, x1, rfl, hc1, hx1⟩ := (r_A.below hbel (Nat.le_refl _)).at_ hlt
              obtain ⟨b2, off2, x2, rfl, hc2, hx2⟩ := (r_C.below hbel (Nat.le_refl _)).at_ hlt
              obtain ⟨b3, off3, x3, rfl, hc3, hx3⟩ := (r_F.below hbel (Nat.le_refl _)).at_ hlt
              obtain rfl : x3 = bits .xor .i64 x1 x2 := by
                have h1 := hx3.out
                rw [hsum.out, xor_get hx2.out hx1.out] at h1
                injection h1 with h1
                rw [xor_two (hba.out.get hx1.out) (hbc.out.get hx2.out), ← h1]
                unfold xorI; omega
              have hjI : (j : Int) < (N : Int) := by omega
              clear hx1 hx2 hx3
              go_wp2_with fail
              go_quiet (fail)
              go_wp2
              go_roundw
              case rel => exact ⟨j + 1, by omega, by go_num, bdn hbel _⟩
              case measure => simp [intOf] <;> omega
            · go_wp2
              go_ret
              exact ⟨rfl, B.trans (hbel.mono B.size)⟩

end Go.Proofs.Ytkbcolhdhojdfaa.fnEncoded
