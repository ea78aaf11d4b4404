/- The walk of FnRoutes: it returns true and writes nothing that was there. -/
import Derived.Test.YtcbmhanilmfmbaaRows
import Derived.Test.YtcbmhanilmfmbaaFRoutes
import Derived.WalkKit
import Derived.Handy
namespace Go.Proofs.Ytcbmhanilmfmbaa.fnRoutes
open Go.RowKit
set_option maxRecDepth 100000
set_option linter.unusedVariables false
set_option linter.unusedVariables false

set_option maxRecDepth 100000 in
set_option maxHeartbeats 6400000 in
theorem walk (a0 : Option Addr) (n0 c0 : Nat) (bs : List Nat) (w : World) (f0 : Bytes w a0 n0 bs) :
    Calls Try.prog 4 #[.slice a0 n0 c0] w fun e w' => e = .returned (.bool true) ∧ Below w.heap.size w w' := by
  by_cases hbig : (4096 : Int) < (n0 : Int)
  · go_enter Try.func4, Try.ntmps4
    go_wp2_with (go_at_call 18; refine (big_any _ _ _ _ f0.2.1).mono ?_; rintro e w' ⟨rfl, rfl⟩)
    go_ret
    exact ⟨rfl, Below.refl _ _⟩
  have hC := f0.code (by omega)
  go_enter Try.func4, Try.ntmps4
  go_wp2_with (go_at_call 18; refine (big_any _ _ _ _ f0.2.1).mono ?_; rintro e w' ⟨rfl, rfl⟩)
  go_at_call 19
  refine (drawRouteLength_any _ _ _ _ _ hC).mono ?_
  intro e w1 hd
  obtain ⟨a, m, c, ys, L, rfl, hr, hm, hy, hL, B⟩ := hd
  have HY := Lib.hid hy
  have hml := Lib.hid hr.len
  clear hy hC f0
  go_wp2_with fail
  go_at_call 20
  refine (routeLength_impl _ _ _ _ _ _ hr (by omega)).mono ?_
  rintro e w2 ⟨rfl, hb⟩
  replace B := B.trans (hb.mono B.size)
  have r2 := hr.below hb (Nat.le_refl _)
  clear hb hr
  go_wp2_with fail
  go_at_call 21
  refine (routeLength_spec _ _ _ _ _ _ r2 (by omega)).mono ?_
  rintro e w3 ⟨rfl, hb⟩
  replace B := B.trans (hb.mono B.size)
  have r3 := r2.below hb (Nat.le_refl _)
  clear hb r2
  go_wp2_with fail
  go_at_call 22
  refine (routePoints_impl _ _ _ _ _ _ r3 (by omega)).mono ?_
  rintro e w4 ⟨a4, n4, c4, rfl, o4, hb⟩
  replace B := B.trans (hb.mono B.size)
  have r4 := r3.below hb (Nat.le_refl _)
  have p4 := o4.row
  clear hb r3 o4
  go_wp2_with fail
  go_at_call 23
  refine (routePoints_spec _ _ _ _ _ _ r4 (by omega)).mono ?_
  rintro e w5 ⟨a5, n5, c5, rfl, o5, hb⟩
  replace B := B.trans (hb.mono B.size)
  have r5 := r4.below hb (Nat.le_refl _)
  have q4 := p4.below2 hb (Nat.le_refl _)
  have q5 := o5.row
  have hlen := routePoints_len ys L
  obtain rfl : n5 = n4 := by have := q4.len2; have := q5.len2; omega
  have hn5 : n5 ≤ 120 := by have := q4.len2; omega
  have HN := Lib.hid q4.len2
  clear hb r4 o5 p4 hlen
  have e1 : ((routeLength ys L).2 != (routeLength ys L).2) = false := by simp
  have e2 : ((routeLength ys L).1 != (routeLength ys L).1) = false := by simp
  have e3 : ((routePoints ys L).2 != (routePoints ys L).2) = false := by simp
  go_wp2_with fail
  go_at_call 24
  refine (likePoints_same _ _ _ _ _ _ _ q4 q5 (by omega)).mono ?_
  rintro e w6 ⟨rfl, hb⟩
  replace B := B.trans (hb.mono B.size)
  have r6 := r5.below hb (Nat.le_refl _)
  clear hb r5 q4 q5 e1 e2 e3
  rcases routePoints_cases ys L with hz | ⟨hok, hL0, hL1, hz⟩
  · have hz2 : routeLength ys L = (0, 2) := by unfold routeLength; rw [hz]; rfl
    rw [hz2]
    clear hz hz2
    go_wp2
    go_ret
    exact ⟨rfl, B⟩
  · have hz2 : routeLength ys L = ((m : Int) * L + sumD ys, 0) := by unfold routeLength; rw [hz]; simp only [rl_route L hL0, hml.out]
    have hn2 : n5 = 2 * m := by have := HN.out; rw [hz] at this; simp only [routePts_len, hml.out] at this; omega
    have hm60 : (m : Int) ≤ 60 := listOk_le hok hml.out
    obtain ⟨k0, k1⟩ : 0 ≤ (m : Int) * L ∧ (m : Int) * L ≤ 60 * 10000 := ⟨Int.mul_nonneg (by omega) hL0, Int.mul_le_mul hm60 hL1 hL0 (by omega)⟩
    rw [hz2]
    have HZ := Lib.hid hz2
    have HN2 := Lib.hid hn2
    clear hz hz2 hn2 hok HN
    obtain ⟨P, hP⟩ : ∃ P, (m : Int) * L = P := ⟨_, rfl⟩
    go_wp2
    rw [hP] at k0 k1
    clear hbig hP HZ
    have hsb := Lib.hid (sumD_bd ys HY.out)
    go_loopw [13, 14] (fun s i wr => ∃ k : Nat, 1 ≤ k ∧ (k ≤ m ∨ k = 1) ∧ i = .int .i64 k ∧ s = .int .i64 (P + sumD (ys.take k)) ∧ Below w6.heap.size w6 wr) (fun _ i _ => m - (intOf i).toNat)
    case atStart =>
      refine ⟨1, Nat.le_refl _, .inr rfl, rfl, ?_, Below.refl _ _⟩
      have : sumD (ys.take 1) = 0 := by cases ys with | nil => rfl | cons a t => simp [sumD]
      rw [this, Int.add_zero]
    case round =>
      obtain ⟨k, hk1, hkm, rfl, rfl, hbel⟩ := hrel
      obtain ⟨s0, s1⟩ := sumD_bd (ys.take k) fun y hy => HY.out y (List.mem_of_mem_take hy)
      have hlt40 : sumD (ys.take k) ≤ 40000 * 100 := by have := List.length_take_le k ys; have := List.length_take_le' k ys; have := hml.out; omega
      clear s1
      by_cases hlt : k < m
      · obtain ⟨j, rfl⟩ : ∃ j, k = j + 1 := ⟨k - 1, by omega⟩
        have r7 := r6.below hbel (Nat.le_refl _)
        obtain ⟨b1, off1, y, rfl, hcy, hy⟩ := r7.at_ hlt
        obtain ⟨b2, off2, x, e2, hcx, hx⟩ := r7.at_ (show j < m by omega)
        injection e2 with e2
        injection e2 with e3 e4 _
        subst e3; subst e4
        have hyb := HY.out y (List.mem_of_getElem? hy.out)
        have hxb := HY.out x (List.mem_of_getElem? hx.out)
        have hsn := Lib.hid (sumD_snoc hx.out hy.out)
        have hg := gapD_bd hxb hyb
        have hjI : (j : Int) + 1 < (m : Int) := by omega
        have hjJ : ((j : Int) + 1 - 1).toNat = j := by omega
        clear r7
        go_wp2_with fail
        go_quiet (fail)
        go_wp2
        go_roundw
        case rel => exact ⟨j + 1 + 1, by omega, .inl (by omega), by go_num, by rw [hsn.out, Int.add_assoc]; rfl, bdn hbel _⟩
        case measure => simp [intOf]; omega
      · have hfin : ys.take k = ys := List.take_of_length_le (by have := hml.out; omega)
        have e9 : ((P + sumD ys) == (P + sumD ys)) = true := by simp
        have hn5 : (n5 : Int) = 2 * (m : Int) := by have := HN2.out; omega
        have e10 : ((n5 : Int) == 2 * (m : Int)) = true := by simpa using hn5
        rw [hfin] at hlt40 s0 ⊢
        clear hfin hn5
        go_wp2
        go_ret
        exact ⟨by rfl, B.trans (hbel.mono B.size)⟩

end Go.Proofs.Ytcbmhanilmfmbaa.fnRoutes
