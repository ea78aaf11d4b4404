/- CountWeights, by both programs. -/
import Derived.Test.YtbdlihocnpppaaaWeights
import Derived.Laws.BitsAllLaws
import Derived.Laws.BitsLemmas
import Derived.Outline
namespace Go.Proofs.Ytbdlihocnpppaaa
open Go.RowKit
set_option maxRecDepth 100000
set_option linter.unusedVariables false

theorem sum_snoc {xs : List Int} {k : Nat} {x : Int} (h : xs[k]? = some x) : (xs.take (k + 1)).sum = (xs.take k).sum + x := by
  rw [take_snoc h, List.sum_append]; simp
theorem sum_bd {xs : List Int} (h : Bits xs) : ∀ k, 0 ≤ (xs.take k).sum ∧ (xs.take k).sum ≤ k := by
  intro k
  induction k with
  | zero => simp
  | succ k ih =>
    rcases Nat.lt_or_ge k xs.length with hl | hl
    · have hx : xs[k]? = some xs[k] := List.getElem?_eq_getElem hl
      have := h.get hx
      rw [sum_snoc hx]
      omega
    · rw [List.take_of_length_le (by omega)] at *
      omega

theorem sumOf_any (a : Option Addr) (n c : Nat) (xs : List Int) (w : World) (h : Row w 1 a n (ints xs)) (hn : n ≤ 1048576) (hb : Bits xs) :
    Calls Try.prog 31 #[.slice a n c] w fun e w' => e = .returned (.int .i64 xs.sum) ∧ w = w' := by
  have hl := Lib.hid h.len
  have HB := Lib.hid hb; clear hb
  go_enter Try.func31, Try.ntmps31
  go_wp2
  go_loop [3, 8] (fun s i => ∃ k : Nat, k ≤ n ∧ i = .int .i64 k ∧ s = .int .i64 (xs.take k).sum) (fun _ i => n - (intOf i).toNat)
  case atStart => exact ⟨0, Nat.zero_le _, rfl, by simp⟩
  case round =>
    obtain ⟨k, hk, rfl, rfl⟩ := hrel
    obtain ⟨s0, s1⟩ := sum_bd HB.out k
    by_cases hlt : k < n
    · obtain ⟨b, off, x, rfl, hc, hx⟩ := h.at_ hlt
      obtain ⟨x0, x1⟩ := HB.out.get hx.out
      have hs := Lib.hid (sum_snoc hx.out)
      go_wp2
      go_round
      case rel => exact ⟨k + 1, by omega, by go_num, by rw [hs.out]⟩
      case measure => simp [intOf]; omega
    · have hd := Lib.hid (take_done hl.out hk hlt)
      go_wp2
      go_ret
      exact ⟨by rw [hd.out]; rfl, rfl⟩

theorem l01Sum_any (a : Option Addr) (n c : Nat) (xs : List Int) (w : World) (h : Row w 1 a n (ints xs)) (hn : n ≤ 1048576) (hb : Bits xs) :
    Calls Try.prog 34 #[.slice a n c] w fun e w' => e = .returned (.int .i64 xs.sum) ∧ w = w' := by
  have hl := Lib.hid h.len
  have HB := Lib.hid hb; clear hb
  go_enter Try.func34, Try.ntmps34
  go_wp2
  go_loop [3, 4] (fun s i => ∃ k : Nat, k ≤ n ∧ i = .int .i64 k ∧ s = .int .i64 (xs.take k).sum) (fun _ i => n - (intOf i).toNat)
  case atStart => exact ⟨0, Nat.zero_le _, rfl, by simp⟩
  case round =>
    obtain ⟨k, hk, rfl, rfl⟩ := hrel
    obtain ⟨s0, s1⟩ := sum_bd HB.out k
    by_cases hlt : k < n
    · obtain ⟨b, off, x, rfl, hc, hx⟩ := h.at_ hlt
      obtain ⟨x0, x1⟩ := HB.out.get hx.out
      have hs := Lib.hid (sum_snoc hx.out)
      have hi : (k : Int) < (n : Int) := by omega
      go_wp2
      go_round
      case rel => exact ⟨k + 1, by omega, by go_num, by rw [hs.out]⟩
      case measure => simp [intOf]; omega
    · have hd := Lib.hid (take_done hl.out hk hlt)
      go_wp2
      go_ret
      exact ⟨by rw [hd.out]; rfl, rfl⟩

theorem enc_bits : ∀ (xs : List Int) (s : Int), Bits (enc s xs)
  | [], _ => by intro x hx; simp [enc] at hx
  | b :: t, s => by
    intro x hx
    have h := out_rng s b
    rw [enc] at hx
    rcases List.mem_cons.1 hx with rfl | hx
    · exact h.1
    · rcases List.mem_cons.1 hx with rfl | hx
      · exact h.2
      · exact enc_bits t _ x hx
theorem encL_bits {xs : List Int} (_ : Bits xs) : Bits (encL xs) := enc_bits _ _
theorem own_ints {w : World} {lo hi E n c : Nat} {a : Option Addr} {vs : List Value} (h : Own w lo hi E 1 a n c vs) : vs.length = n := by have := h.len; omega

theorem bit_and (x j : Nat) (hx : x < 2048) : bits .and .i64 ((x : Int) / 2 ^ j) 1 = ((x / 2 ^ j % 2 : Nat) : Int) := by
  have e : ((x : Int) / 2 ^ j) = ((x / 2 ^ j : Nat) : Int) := by simp
  have hlt : x / 2 ^ j < 9223372036854775808 := Nat.lt_of_le_of_lt (Nat.div_le_self _ _) (by omega)
  have h1 : x / 2 ^ j &&& 1 < 2 ^ 63 := Nat.and_lt_two_pow _ (by omega)
  rw [e, show (1 : Int) = ((1 : Nat) : Int) from rfl]
  show IntKind.i64.wrap ((BitVec.ofInt 64 ((x / 2 ^ j : Nat) : Int) &&& BitVec.ofInt 64 ((1 : Nat) : Int)).toNat : Int) = _
  rw [BitVec.toNat_and, BitVec.ofInt_natCast, BitVec.ofInt_natCast, BitVec.toNat_ofNat, BitVec.toNat_ofNat, Nat.mod_eq_of_lt (show x / 2 ^ j < 2 ^ 64 by omega), Nat.mod_eq_of_lt (show 1 < 2 ^ 64 by omega), IntKind.wrap_i64, Nat.and_one_is_mod]
  omega

set_option maxHeartbeats 1600000 in
theorem bitsOf_any (x n : Nat) (w : World) (hn : n ≤ 10) (hx : x < 2048) :
    Calls Try.prog 41 #[.int .i64 (x : Int), .int .i64 (n : Int)] w fun e w' => ∃ a c, e = .returned (.slice a n c) ∧ Own w' w.heap.size w'.heap.size 2 1 a n c (ints (toI (bitBE n x))) ∧ Below w.heap.size w w' := by
  have hmk := run_make_row' (P := Try.prog) 24 2 (.int .i64 0) 8 Try.underlying24 info_i64 rfl .i64 .i64 n (by omega) (by omega)
  go_enter Try.func41, Try.ntmps41
  go_wp2
  go_loopw [11] (fun i wr => ∃ k : Nat, k ≤ n ∧ i = .int .i64 k ∧ Own wr w.heap.size (w.heap.size + 1) 2 1 (some ⟨w.heap.size, 0, none⟩) n n (ints ((toI (bitBE n x)).take k) ++ List.replicate (n - k) (.int .i64 0)) ∧ Below w.heap.size w wr ∧ w.heap.size < wr.heap.size) (fun i _ => n - (intOf i).toNat)
  case atStart => exact ⟨0, Nat.zero_le _, rfl, by simpa [ints] using Own.made w _ (by simp only [maxLen]; omega), (Below.refl _ _).alloc (Nat.le_refl _) _, by simp⟩
  case round =>
    obtain ⟨k, hk, rfl, hown, hbel, hsz⟩ := hrel
    by_cases hlt : k < n
    · obtain ⟨j, hj⟩ : ∃ j : Nat, n - 1 - k = j := ⟨_, rfl⟩
      have hfz := hown.frozenAt k
      have hst := hown.stored k (.int .i64 ((x / 2 ^ j % 2 : Nat) : Int))
      have hcell : ∃ v, wr.cell? ⟨w.heap.size, k, none⟩ = some v := by
        refine ⟨_, (hown.cellAt k (by omega)).trans (List.getElem?_eq_getElem ?_)⟩
        have := own_ints hown; omega
      obtain ⟨v, hcv⟩ := hcell
      rw [lset (by rw [toI_length, bit_be]) (by simp [toI, bitBE, hlt, hj])] at hst
      have H := Lib.hid hst; clear hst hown
      have hjI : (n : Int) - 1 - (k : Int) = (j : Int) := by omega
      have hb := bit_and x j hx
      go_wp2
      go_roundw
      case rel => exact ⟨k + 1, by omega, by go_num, H.out.1, hbel.setCell (Nat.le_refl _) _, by simp [World.setCell]; omega⟩
      case measure => simp [intOf]; omega
    · go_wp2
      go_ret
      refine ⟨_, _, rfl, ?_, hbel⟩
      rw [take_done (by rw [toI_length, bit_be]) hk hlt, show n - k = 0 from by omega] at hown
      simpa using hown.mono (Nat.le_refl _) (by omega)

theorem iset' {ys : List Int} {q : Nat} {x : Int} : (ints ys).set q (.int .i64 x) = ints (ys.set q x) := by simp [ints, List.map_set]
theorem toI_set (cs : List Nat) (j v : Nat) : (toI cs).set j (v : Int) = toI (cs.set j v) := by simp [toI, List.map_set]
theorem grown_of_below {w w' : World} {row : Option Nat} (h : Below w.heap.size w w') : w.grownBy w' row := ⟨h.os, h.tape, h.output, h.size, fun k hk _ => h.block k hk⟩

set_option maxHeartbeats 1600000 in
theorem count_clo (P g z lo hi : Nat) (bs cs : List Nat) (a : Option Addr) (n c : Nat) (w : World) (hP : Blk w P 24 #[.slice (some ⟨g, 0, none⟩) z z]) (ho : Own w lo hi 2 1 (some ⟨g, 0, none⟩) z z (ints (toI cs)))
    (h : Row w 1 a n (ints (toI bs))) (hn : n ≤ 10) (hb : Bits (toI bs)) (hz : 2 * n + 5 ≤ z) (hz2 : z ≤ 100) (hc : ∀ x ∈ cs, x ≤ 2048) (hPg : P ≠ g) :
    Calls Try.prog 30 #[.slice a n c, .pointer (some ⟨P, 0, none⟩)] w fun e w' => e = .returned (.tuple #[]) ∧ Own w' lo hi 2 1 (some ⟨g, 0, none⟩) z z (ints (toI (inc cs (wgt bs)))) ∧ w.grownBy w' (some g) := by
  have hbl : bs.length = n := by have := h.len; rwa [toI_length] at this
  have hcl : cs.length = z := by have := ho.row.len; rwa [toI_length] at this
  have hj : wgt bs < z := by have := wgt_le bs; omega
  obtain ⟨j, hjw⟩ : ∃ j, wgt bs = j := ⟨_, rfl⟩
  rw [hjw] at hj ⊢
  obtain ⟨v, hv⟩ : ∃ v, cs[j]? = some v := ⟨_, List.getElem?_eq_getElem (by omega)⟩
  have hvb := hc v (List.mem_of_getElem? hv)
  have hinc : Hid (ints (toI (inc cs j)) = (ints (toI cs)).set j (.int .i64 ((v : Int) + 1))) := by
    unfold Hid
    rw [iset', show ((v : Int) + 1) = ((v + 1 : Nat) : Int) from rfl, toI_set, inc, hv]
    rfl
  have hsum := Lib.hid (encL_sum bs)
  have hjw' := Lib.hid hjw
  have HB := Lib.hid hb
  have hcv : Hid (w.cell? ⟨g, j, none⟩ = some (.int .i64 (v : Int))) := by
    unfold Hid
    rw [ho.cellAt j (by omega)]
    simp [ints, toI, hv]
  have HP := Lib.hid hP
  have HO := Lib.hid ho
  have hjI : (j : Int) < (z : Int) := by omega
  have B : Below w.heap.size w w := Below.refl _ _
  have hgl := (ho.lt g rfl).2.2
  clear hb hbl hcl hjw hv hc hP ho
  rw [hinc.out]
  go_enter Try.func30, Try.ntmps30
  go_wp2_with fail
  replace B := B.drew
  have hwr : IntKind.i64.wrap ((v : Int) + 1) = (v : Int) + 1 := by rw [IntKind.wrap_i64]; omega
  have hp0 : w.cell? ⟨P, 0, none⟩ = some (.slice (some ⟨g, 0, none⟩) z z) := HP.out.cell 0
  go_region_with (first | (go_at_call 32; refine (encode_any _ _ _ _ _ (h.below B (Nat.le_refl _)) (by omega) HB.out).mono ?_; rintro e w1 ⟨a1, c1, rfl, o1, hb⟩; replace B := B.trans (hb.mono B.size); have hp1 := (HP.out.below B HP.out.lt).cell 0; simp only [List.getElem?_toArray, List.getElem?_cons_zero] at hp1; have r1 := o1.row; have hcj := (B.cell (p := ⟨g, j, none⟩) hgl).trans hcv.out; have hfj := (B.frozen (p := ⟨g, j, none⟩) hgl).trans (HO.out.frozenAt j); clear hb o1) | (go_at_call 31; refine (sumOf_any _ _ _ _ _ r1 (by omega) (encL_bits HB.out)).mono ?_; rintro e w2 ⟨rfl, rfl⟩; rw [hsum.out, hjw'.out]))
  all_goals
    go_wp2
    go_end0
    have hst := (HO.out.below B (.inr (Nat.le_refl _))).stored j (.int .i64 ((v : Int) + 1))
    exact ⟨rfl, hst.1, (grown_of_below B).trans hst.2⟩

theorem pow_le_1024 {n : Nat} (h : n ≤ 10) : 2 ^ n ≤ 1024 := by
  have := Nat.pow_le_pow_right (n := 2) (by omega) h
  omega

set_option maxHeartbeats 1600000 in
theorem eachPattern_any (P g z n lo hi : Nat) (w : World) (hn : n ≤ 10) (hP : Blk w P 24 #[.slice (some ⟨g, 0, none⟩) z z]) (ho : Own w lo hi 2 1 (some ⟨g, 0, none⟩) z z (ints (toI (List.replicate z 0)))) (hz : 2 * n + 5 ≤ z) (hz2 : z ≤ 100) (hPg : P ≠ g) :
    Calls Try.prog 29 #[.int .i64 (n : Int), .func (.func 30) #[] #[.pointer (some ⟨P, 0, none⟩)]] w fun e w' => e = .returned (.tuple #[]) ∧ Own w' lo hi 2 1 (some ⟨g, 0, none⟩) z z (ints (toI (cnt (bitBE n) z (2 ^ n)))) ∧ w.grownBy w' (some g) := by
  have hp := pow_le_1024 hn
  have HP := Lib.hid hP
  have hgl := (ho.lt g rfl).2.2
  clear hP
  obtain ⟨N, hN⟩ : ∃ N, 2 ^ n = N := ⟨_, rfl⟩
  have hw : wrap64 ((2 : Int) ^ n) = (N : Int) := by
    rw [show ((2 : Int) ^ n) = ((2 ^ n : Nat) : Int) by simp, hN]
    rw [hN] at hp
    unfold wrap64
    omega
  rw [hN] at hp ⊢
  have HN := Lib.hid hN; clear hN
  have H0 := Lib.hid ho; clear ho
  go_enter Try.func29, Try.ntmps29
  go_wp2
  rw [hw]
  clear hw
  go_loopw [7] (fun i wr => ∃ k : Nat, k ≤ N ∧ i = .int .i64 k ∧ Own wr lo hi 2 1 (some ⟨g, 0, none⟩) z z (ints (toI (cnt (bitBE n) z k))) ∧ w.grownBy wr (some g)) (fun i _ => N - (intOf i).toNat)
  case atStart => exact ⟨0, Nat.zero_le _, rfl, H0.out, World.grownBy.refl _ _⟩
  case round =>
    obtain ⟨k, hk, rfl, hown, hg⟩ := hrel
    by_cases hlt : k < N
    · have hsz := hg.size
      have HPr := Lib.hid (HP.out.grown hg (fun e => by injection e with e; exact hPg e))
      have hcs := Lib.hid (cnt_le (bitBE n) z k)
      have hsu := Lib.hid (cnt_succ (bitBE n) z k)
      go_wp2_with fail
      go_at_call 41
      refine (bitsOf_any _ _ _ hn (by omega)).mono ?_
      rintro e w1 ⟨a1, c1, rfl, o1, hb⟩
      have r1 := o1.row
      have hown1 := hown.below hb (.inr (Nat.le_refl _))
      have HP1 := Lib.hid (HPr.out.belowSelf hb)
      have hg1 := hg.trans (grown_of_below hb)
      clear hb o1 hown hg HPr
      go_wp2_with fail
      go_at_call 30
      refine (count_clo P g z lo hi _ _ _ _ _ _ HP1.out hown1 r1 hn (bits_be _ _) hz hz2 (fun x hx => by have := hcs.out x hx; omega) hPg).mono ?_
      rintro e w2 ⟨rfl, hown2, hg2⟩
      clear r1 hown1 HP1
      go_wp2
      go_roundw
      case rel => exact ⟨k + 1, by omega, by go_num, by rw [hsu.out]; exact hown2, hg1.trans hg2⟩
      case measure => simp [intOf]; omega
    · go_wp2
      go_end0
      have hd : k = N := by omega
      subst hd
      exact ⟨rfl, hown, hg⟩

set_option maxHeartbeats 1600000 in
theorem countWeights_impl (n : Int) (w : World) :
    Calls Try.prog 9 #[.int .i64 n] w fun e w' => ∃ a q cp, e = .returned (.tuple #[.slice a q cp, .int .i64 (countWeights n).2]) ∧ Own w' w.heap.size w'.heap.size 2 1 a q cp (ints (countWeights n).1) ∧ Below w.heap.size w w' := by
  cases h0 : inR 0 10 n
  · rw [countWeights_no h0]
    go_enter Try.func9, Try.ntmps9
    go_wp2_with (go_at_call 28; refine (within_any _ _ _ _).mono ?_; rintro e w' ⟨rfl, rfl⟩)
    go_ret2
    exact ⟨_, _, _, rfl, Own.nil_ _ _ _ _ _, Below.refl _ _⟩
  · have hb : 0 ≤ n ∧ n ≤ 10 := by simp only [inR, Bool.and_eq_true, decide_eq_true_eq] at h0; exact h0
    obtain ⟨hb0, hb1⟩ := hb
    obtain ⟨N, rfl⟩ := Int.eq_ofNat_of_zero_le hb0
    have hN : N ≤ 10 := by omega
    rw [countWeights_yes h0]
    obtain ⟨z, hz⟩ : ∃ z, 2 * N + 5 = z := ⟨_, rfl⟩
    have hzI : 2 * ((N : Int) + 2) + 1 = (z : Int) := by omega
    have hz100 : z ≤ 100 := by omega
    have hz5 : 2 * N + 5 ≤ z := by omega
    have hmk := run_make_row' (P := Try.prog) 24 2 (.int .i64 0) 8 Try.underlying24 info_i64 rfl .i64 .i64 z (by omega) (by omega)
    have hmf : ∀ (fn : Fn) (first cap : Array Value) (w : World), (Instr.makeFunc fn first cap).run Try.prog w = .ok (.func fn first cap) w := fun _ _ _ _ => rfl
    have hfin := Lib.hid (show cnt (bitBE N) z (2 ^ N) = countN N by rw [← hz]; exact count_both N (by omega))
    have hm := Own.made w (.int .i64 0) (n := z) (E := 2) (by simp only [maxLen]; omega)
    have hm1 : Own ((w.alloc (.cells (madeCells #[.int .i64 0] z) 2)).alloc (.cells #[.slice (some ⟨w.heap.size, 0, none⟩) z z] 24)) w.heap.size (w.heap.size + 1) 2 1 (some ⟨w.heap.size, 0, none⟩) z z (ints (toI (List.replicate z 0))) := by
      have e : ints (toI (List.replicate z 0)) = List.replicate z (.int .i64 0) := by simp [ints, toI]
      rw [e]
      exact hm.alloc _
    have HM := Lib.hid hm1
    have HB := Lib.hid (Blk.new' (w.alloc (.cells (madeCells #[.int .i64 0] z) 2)) 24 #[.slice (some ⟨w.heap.size, 0, none⟩) z z] (g := w.heap.size + 1) (by simp))
    have B : Below w.heap.size w ((w.alloc (.cells (madeCells #[.int .i64 0] z) 2)).alloc (.cells #[.slice (some ⟨w.heap.size, 0, none⟩) z z] 24)) := ((Below.refl _ _).alloc (Nat.le_refl _) _).alloc (by simp) _
    clear hz hm hm1
    go_enter Try.func9, Try.ntmps9
    go_wp2_with (go_at_call 28; refine (within_any _ _ _ _).mono ?_; rintro e w' ⟨rfl, rfl⟩)
    go_at_call 29
    refine (eachPattern_any (w.heap.size + 1) w.heap.size z N w.heap.size (w.heap.size + 1) _ hN HB.out HM.out hz5 hz100 (by omega)).mono ?_
    rintro e w2 ⟨rfl, hown, hg⟩
    have hP2 : w2.cell? ⟨w.heap.size + 1, 0, none⟩ = some (.slice (some ⟨w.heap.size, 0, none⟩) z z) := (HB.out.grown hg (fun e => by injection e with e; omega)).cell 0
    have B2 := B.grown hg B.size (fun k e => by cases e; exact Nat.le_refl _)
    rw [hfin.out] at hown
    clear hg HM HB B hfin hmk
    go_wp2
    go_ret2
    exact ⟨_, _, _, rfl, hown.leave, B2⟩

theorem bitLE_snoc (n x i : Nat) (h : i < n) : toI ((bitLE n x).take (i + 1)) = toI ((bitLE n x).take i) ++ [((x / 2 ^ i % 2 : Nat) : Int)] := by
  rw [take_snoc (x := x / 2 ^ i % 2) (by simp [bitLE, h])]
  simp [toI]

set_option maxHeartbeats 3200000 in
theorem countWeights_spec (n : Int) (w : World) :
    Calls Try.prog 10 #[.int .i64 n] w fun e w' => ∃ a q cp, e = .returned (.tuple #[.slice a q cp, .int .i64 (countWeights n).2]) ∧ Own w' w.heap.size w'.heap.size 2 1 a q cp (ints (countWeights n).1) ∧ Below w.heap.size w w' := by
  cases h0 : inR 0 10 n
  · rw [countWeights_no h0]
    go_enter Try.func10, Try.ntmps10
    go_wp2_with (go_at_call 33; refine (l01In_any _ _ _ _).mono ?_; rintro e w' ⟨rfl, rfl⟩)
    go_ret2
    exact ⟨_, _, _, rfl, Own.nil_ _ _ _ _ _, Below.refl _ _⟩
  · have hb : 0 ≤ n ∧ n ≤ 10 := by simp only [inR, Bool.and_eq_true, decide_eq_true_eq] at h0; exact h0
    obtain ⟨hb0, hb1⟩ := hb
    obtain ⟨N, rfl⟩ := Int.eq_ofNat_of_zero_le hb0
    have hN : N ≤ 10 := by omega
    rw [countWeights_yes h0]
    obtain ⟨z, hz⟩ : ∃ z, 2 * N + 5 = z := ⟨_, rfl⟩
    have hzI : 2 * ((N : Int) + 2) + 1 = (z : Int) := by omega
    have hz100 : z ≤ 100 := by omega
    have hz5 : 2 * N + 5 ≤ z := by omega
    obtain ⟨M, hM⟩ : ∃ M, 2 ^ N = M := ⟨_, rfl⟩
    have hp : M ≤ 1024 := hM ▸ pow_le_1024 hN
    have hw : wrap64 ((2 : Int) ^ N) = (M : Int) := by
      rw [show ((2 : Int) ^ N) = ((2 ^ N : Nat) : Int) by simp, hM]
      unfold wrap64
      omega
    have hmk := run_make_row' (P := Try.prog) 24 2 (.int .i64 0) 8 Try.underlying24 info_i64 rfl .i64 .i64 z (by omega) (by omega)
    have hfin := Lib.hid (show cnt (bitLE N) z M = countN N by rw [← hz, ← hM]; rfl)
    have hm := Own.made w (.int .i64 0) (n := z) (E := 2) (by simp only [maxLen]; omega)
    have hm1 : Own (w.alloc (.cells (madeCells #[.int .i64 0] z) 2)) w.heap.size (w.heap.size + 1) 2 1 (some ⟨w.heap.size, 0, none⟩) z z (ints (toI (List.replicate z 0))) := by
      have e : ints (toI (List.replicate z 0)) = List.replicate z (.int .i64 0) := by simp [ints, toI]
      rw [e]
      exact hm
    have HM := Lib.hid hm1
    have B : Below w.heap.size w (w.alloc (.cells (madeCells #[.int .i64 0] z) 2)) := (Below.refl _ _).alloc (Nat.le_refl _) _
    have hw2 := Lib.hid hw
    clear hz hm hm1 hM hw
    go_enter Try.func10, Try.ntmps10
    go_wp2_with (go_at_call 33; refine (l01In_any _ _ _ _).mono ?_; rintro e w' ⟨rfl, rfl⟩)
    go_loopw [5] (fun i wr => ∃ k : Nat, k ≤ M ∧ i = .int .i64 k ∧ Own wr w.heap.size (w.heap.size + 1) 2 1 (some ⟨w.heap.size, 0, none⟩) z z (ints (toI (cnt (bitLE N) z k))) ∧ Below w.heap.size w wr ∧ w.heap.size + 1 ≤ wr.heap.size) (fun i _ => M - (intOf i).toNat)
    case atStart => exact ⟨0, Nat.zero_le _, rfl, HM.out, B, by simp⟩
    case round =>
      clear B HM
      obtain ⟨k, hk, rfl, hown, hbel, hsz⟩ := hrel
      have hcs := Lib.hid (cnt_le (bitLE N) z k)
      have hsu := Lib.hid (cnt_succ (bitLE N) z k)
      by_cases hlt : k < M
      · have hw3 := hw2.out
        go_wp2
        clear hw3
        obtain ⟨w1, rfl⟩ : ∃ w1 : World, w1 = wr := ⟨_, rfl⟩
        go_loopw [6, 7] (fun o i wi => ∃ (j : Nat) (a' : Option Addr) (q cp : Nat), j ≤ N ∧ i = .int .i64 j ∧ o = .slice a' q cp ∧ Own wi w1.heap.size wi.heap.size 2 1 a' q cp (ints (toI ((bitLE N k).take j))) ∧ Below w1.heap.size w1 wi) (fun _ i _ => N - (intOf i).toNat)
        case atStart => exact ⟨0, _, 0, 0, Nat.zero_le _, rfl, rfl, (Own.lit0 _ _ _).mono (Nat.le_refl _) (by simp), (Below.refl _ _).alloc (Nat.le_refl _) _⟩
        case round =>
          obtain ⟨j, a', q, cp, hj, rfl, rfl, hoB, hbi⟩ := hrel
          have hq : q ≤ j := by have := hoB.row.len; rw [toI_length, List.length_take] at this; omega
          have hs1 := hbi.size
          by_cases hjN : j < N
          · have hbit := bit_and k j (by omega)
            have hsn := Lib.hid (bitLE_snoc N k j hjN)
            go_wp2_with (at_builtin; refine wpList_app _ rfl (.tmp 29) (.tmp 35) _ rfl Try.underlying24 info_i64 rfl (by decide) rfl (hoB.alloc _) rfl (Row.one _ _ _) (ints_one [((k / 2 ^ j % 2 : Nat) : Int)]) (by decide) (by simp only [maxLen]; omega) (by omega) (by simp; omega) ?_; intro A2 c2 w2 hown2 hb2 _)
            clear hbit
            go_roundw
            case rel => exact ⟨j + 1, A2, q + 1, c2, by omega, by go_num, rfl, by rw [hsn.out, ints_app]; exact hown2, (hbi.alloc hbi.size _).trans hb2⟩
            case measure => simp [intOf]; omega
          · have hrB := hoB.row
            rw [take_done (bit_le N k) hj hjN] at hrB
            have hqN : q ≤ N ∧ N ≤ q := by have := hrB.len; rw [toI_length, bit_le] at this; omega
            have hown3 := hown.below hbi (.inr (Nat.le_refl _))
            have hbel3 := hbel.trans (hbi.mono hbel.size)
            clear hoB hown hbel hbi hq
            go_wp2_with fail
            go_at_call 35
            refine (l27Encode_any _ _ _ _ _ hrB (by omega) (bits_le _ _)).mono ?_
            rintro e w2 ⟨a1, c1, rfl, o1, hb⟩
            have r1 := o1.row
            have hown4 := hown3.below hb (.inr (Nat.le_refl _))
            have hbel4 := hbel3.trans (hb.mono hbel3.size)
            have hsz4 := hb.size
            clear hb o1 hown3 hbel3 hrB
            go_wp2_with fail
            go_at_call 34
            refine (l01Sum_any _ _ _ _ _ r1 (by omega) (encL_bits (bits_le _ _))).mono ?_
            rintro e w3 ⟨rfl, rfl⟩
            rw [encL_sum]
            have hwl := wgt_le (bitLE N k)
            rw [bit_le] at hwl
            obtain ⟨g, hg⟩ : ∃ g, wgt (bitLE N k) = g := ⟨_, rfl⟩
            rw [hg] at hwl ⊢
            rw [hg] at hsu
            have hgz : g < z := by omega
            have hcl : (cnt (bitLE N) z k).length = z := cnt_length _ _ _
            obtain ⟨v, hv⟩ : ∃ v, (cnt (bitLE N) z k)[g]? = some v := ⟨_, List.getElem?_eq_getElem (by omega)⟩
            have hvb := hcs.out v (List.mem_of_getElem? hv)
            have hfz := hown4.frozenAt g
            have hcv : w2.cell? ⟨w.heap.size, g, none⟩ = some (.int .i64 (v : Int)) := by
              rw [hown4.cellAt g (by omega)]
              simp [ints, toI, hv]
            have hst := hown4.stored g (.int .i64 ((v : Int) + 1))
            have hinc : (ints (toI (cnt (bitLE N) z k))).set g (.int .i64 ((v : Int) + 1)) = ints (toI (cnt (bitLE N) z (k + 1))) := by
              rw [iset', show ((v : Int) + 1) = ((v + 1 : Nat) : Int) from rfl, toI_set, hsu.out, inc, hv]
              rfl
            rw [hinc] at hst
            have HST := Lib.hid hst.1
            have hgI : (g : Int) < (z : Int) := by omega
            clear hst hinc hv hcl hg hown4 hsu r1
            go_wp2
            go_roundw
            case rel => exact ⟨k + 1, by omega, by go_num, HST.out, hbel4.setCell (Nat.le_refl _) _, by simp [World.setCell]; omega⟩
            case measure => simp [intOf]; omega
      · have hw3 := hw2.out
        go_wp2
        go_ret2
        have hd : k = M := by omega
        subst hd
        rw [hfin.out] at hown
        exact ⟨_, _, _, rfl, hown.leave, hbel⟩
end Go.Proofs.Ytbdlihocnpppaaa
