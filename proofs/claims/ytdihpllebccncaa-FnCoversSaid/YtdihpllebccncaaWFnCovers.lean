/- The walk of FnCovers: it returns true and writes nothing that was there. -/
import Derived.Test.YtdihpllebccncaaRows
import Derived.Test.YtdihpllebccncaaPCover2
import Derived.Test.YtdihpllebccncaaOpenY
import Derived.WalkKit
import Derived.Handy
namespace Go.Proofs.Ytdihpllebccncaa.fnCovers
open Go.RowKit
set_option maxRecDepth 100000
set_option linter.unusedVariables false
set_option linter.unusedVariables false

set_option maxRecDepth 100000 in
set_option maxHeartbeats 12800000 in
theorem walk (a0 : Option Addr) (n0 c0 : Nat) (bs : List Nat) (w : World) (f0 : Bytes w a0 n0 bs) :
    Calls Try.prog 6 #[.slice a0 n0 c0] w fun e w' => e = .returned (.bool true) ∧ Below w.heap.size w w' := by
  by_cases hbig : (4096 : Int) < (n0 : Int)
  · go_enter Try.func6, Try.ntmps6
    go_wp2_with (go_at_call 18; refine (big_any _ _ _ _ f0.2.1).mono ?_; rintro e w' ⟨rfl, rfl⟩)
    go_ret
    exact ⟨rfl, Below.refl _ _⟩
  have HC := Lib.hid (f0.code (by omega))
  have hbg := f0.2.1
  clear f0
  go_enter Try.func6, Try.ntmps6
  go_wp2_with (go_at_call 18; refine (big_any _ _ _ _ hbg).mono ?_; rintro e w' ⟨rfl, rfl⟩)
  clear hbig hbg
  have B := Below.refl w.heap.size w
  go_at_call 27
  refine (drawLeastCover_any _ _ _ _ _ (HC.out.below B (Nat.le_refl _))).mono ?_
  rintro e w1 ⟨Wd, aS, nS, cS, ss, rfl, rS, hS, hb⟩
  replace B := B.trans (hb.mono B.size)
  clear hb
  go_wp2_with fail
  go_at_call 28
  refine (leastCover_impl _ _ _ _ _ _ rS (by omega)).mono ?_
  rintro e w2 ⟨a_A, n_A, c_A, rfl, o_A, hb⟩
  replace B := B.trans (hb.mono B.size)
  replace rS := rS.below2 hb (Nat.le_refl _)
  have r_A := o_A.row
  clear hb o_A
  go_wp2_with fail
  go_at_call 29
  refine (leastCover_spec _ _ _ _ _ _ rS (by omega)).mono ?_
  rintro e w3 ⟨a_B, n_B, c_B, rfl, o_B, hb⟩
  replace B := B.trans (hb.mono B.size)
  replace rS := rS.below2 hb (Nat.le_refl _)
  replace r_A := r_A.below hb (Nat.le_refl _)
  have r_B := o_B.row
  clear hb o_B
  obtain rfl : n_A = n_B := by have := r_A.len; have := r_B.len; omega
  have hnA : n_A ≤ 10000 := by have := r_A.len; have := leastCover_len Wd ss; omega
  go_wp2_with fail
  go_at_call 10
  refine (isCovered_impl _ _ _ _ _ _ rS (by omega)).mono ?_
  rintro e w4 ⟨rfl, hb⟩
  replace B := B.trans (hb.mono B.size)
  replace rS := rS.below2 hb (Nat.le_refl _)
  replace r_A := r_A.below hb (Nat.le_refl _)
  replace r_B := r_B.below hb (Nat.le_refl _)
  clear hb
  go_wp2_with fail
  go_at_call 8
  refine (isCovered_spec _ _ _ _ _ _ rS (by omega)).mono ?_
  rintro e w5 ⟨rfl, hb⟩
  replace B := B.trans (hb.mono B.size)
  replace rS := rS.below2 hb (Nat.le_refl _)
  replace r_A := r_A.below hb (Nat.le_refl _)
  replace r_B := r_B.below hb (Nat.le_refl _)
  clear hb
  go_wp2_with fail
  go_at_call 13
  refine (gapsOf_impl _ _ _ _ _ _ rS (by omega)).mono ?_
  rintro e w6 ⟨a_G, n_G, c_G, rfl, o_G, hb⟩
  replace B := B.trans (hb.mono B.size)
  replace rS := rS.below2 hb (Nat.le_refl _)
  replace r_A := r_A.below hb (Nat.le_refl _)
  replace r_B := r_B.below hb (Nat.le_refl _)
  have r_G := o_G.row
  clear hb o_G
  go_wp2_with fail
  go_at_call 12
  refine (gapsOf_spec _ _ _ _ _ _ rS (by omega)).mono ?_
  rintro e w7 ⟨a_H, n_H, c_H, rfl, o_H, hb⟩
  replace B := B.trans (hb.mono B.size)
  replace rS := rS.below2 hb (Nat.le_refl _)
  replace r_A := r_A.below hb (Nat.le_refl _)
  replace r_B := r_B.below hb (Nat.le_refl _)
  replace r_G := r_G.below2 hb (Nat.le_refl _)
  have r_H := o_H.row
  clear hb o_H
  obtain rfl : n_G = n_H := by have := r_G.len2; have := r_H.len2; omega
  have hnG : n_G ≤ 10000 := by have := r_G.len2; have := gapsOf_len Wd ss; omega
  have e0 : ((leastCover Wd ss).2 != (leastCover Wd ss).2) = false := by simp
  have e1 : ((isCovered Wd ss).2 != (isCovered Wd ss).2) = false := by simp
  have e2 : ((isCovered Wd ss).1 != (isCovered Wd ss).1) = false := by simp
  have e3 : ((gapsOf Wd ss).2 != (gapsOf Wd ss).2) = false := by simp
  have e4 : (spansOk ss != spansOk ss) = false := by simp
  go_wp2_with fail
  go_at_call 26
  refine (likeInts_same _ _ _ _ _ _ _ r_A r_B (by omega)).mono ?_
  rintro e w8 ⟨rfl, hb⟩
  replace B := B.trans (hb.mono B.size)
  replace rS := rS.below2 hb (Nat.le_refl _)
  replace r_A := r_A.below hb (Nat.le_refl _)
  replace r_B := r_B.below hb (Nat.le_refl _)
  replace r_G := r_G.below2 hb (Nat.le_refl _)
  replace r_H := r_H.below2 hb (Nat.le_refl _)
  clear hb
  clear r_A
  go_wp2_with fail
  go_at_call 30
  refine (likeRanges_same _ _ _ _ _ _ _ r_G r_H (by omega)).mono ?_
  rintro e w9 ⟨rfl, hb⟩
  replace B := B.trans (hb.mono B.size)
  replace rS := rS.below2 hb (Nat.le_refl _)
  replace r_B := r_B.below hb (Nat.le_refl _)
  replace r_G := r_G.below2 hb (Nat.le_refl _)
  replace r_H := r_H.below2 hb (Nat.le_refl _)
  clear hb
  clear r_H
  go_wp2_with fail
  go_at_call 31
  refine (areSpans_impl _ _ _ _ _ rS (by omega)).mono ?_
  rintro e w10 ⟨rfl, hb⟩
  replace B := B.trans (hb.mono B.size)
  replace rS := rS.below2 hb (Nat.le_refl _)
  replace r_B := r_B.below hb (Nat.le_refl _)
  replace r_G := r_G.below2 hb (Nat.le_refl _)
  clear hb
  go_wp2_with fail
  go_at_call 32
  refine (areSpans_spec _ _ _ _ _ rS (by omega)).mono ?_
  rintro e w11 ⟨rfl, hb⟩
  replace B := B.trans (hb.mono B.size)
  replace rS := rS.below2 hb (Nat.le_refl _)
  replace r_B := r_B.below hb (Nat.le_refl _)
  replace r_G := r_G.below2 hb (Nat.le_refl _)
  clear hb
  clear e0 e1 e2 e3
  rcases coverC_cases Wd ss with ⟨hc, hok, hw0, hw1⟩ | ⟨cc, hc, hne⟩
  rotate_left
  · rw [isCovered_no hc hne]
    have hf : (cc != 0) = true := by simpa using hne
    clear hne hc
    go_wp2
    go_ret
    exact ⟨rfl, B⟩
  rcases cover_facts hc with ⟨l, hlc, hg, hch⟩ | ⟨hlc, hg⟩
  · rw [hlc] at r_B ⊢
    rw [gapsOf_yes hc, hg] at r_G ⊢
    rw [isCovered_yes hc, hg]
    obtain rfl : n_G = 0 := by have := r_G.len2; simpa using this.symm
    clear r_G
    dsimp only at r_B
    have hll := Lib.hid (show l.length = n_A from r_B.len)
    have HCH := Lib.hid hch
    have HCC := Lib.hid hc
    clear hch hlc hg hc hok
    have HS1 := Lib.hid rS
    have HA1 := Lib.hid r_B
    clear rS r_B
    go_wp2
    refine wp_loop_rounds 1 ?_
    rw [rounds_succ]
    go_wp2
    go_loopw [18, 19, 20, 21, 22] (fun d _ _ _ _ wr => ∃ dz : Int, d = .int .i64 dz ∧ -1 ≤ dz ∧ dz ≤ n_A ∧ Below w.heap.size w wr ∧ Hid (Row wr 2 aS nS (prs ss)) ∧ Hid (Row wr 1 a_B n_A (ints l))) (fun d _ _ _ _ _ => ((n_A : Int) - intOf d).toNat)
    case atStart => exact ⟨-1, rfl, by omega, by omega, B, HS1, HA1⟩
    case round =>
      clear B HS1 HA1
      obtain ⟨dz, rfl, hd0, hd1, B, HS1, HA1⟩ := hrel
      by_cases hdn : dz < n_A
      · obtain ⟨D, hD⟩ : ∃ D : Nat, dz + 1 = (D : Int) := ⟨(dz + 1).toNat, by omega⟩
        have HD := Lib.hid hD
        clear hD
        obtain ⟨w20, rfl⟩ : ∃ w20 : World, w20 = wr := ⟨_, rfl⟩
        obtain ⟨H0, hH0⟩ : ∃ H0, w20.heap.size = H0 := ⟨_, rfl⟩
        have O0 := Lib.hid ((Own.lit0 w20 49 2).mono (lo' := H0) (hi' := (w20.alloc (.cells #[] 49)).heap.size) (by omega) (by simp))
        have B0 := B.alloc B.size (.cells #[] 49)
        have HS2 := Lib.hid (HS1.out.alloc2 (.cells #[] 49))
        have HA2 := Lib.hid (HA1.out.alloc (.cells #[] 49))
        have hz0 : H0 ≤ (w20.alloc (.cells #[] 49)).heap.size := by simp; omega
        have hwH := Lib.hid (show w.heap.size ≤ H0 by have := B.size; omega)
        have HH := Lib.hid hH0
        clear hH0
        go_wp2
        go_loopw [19, 20] (fun o i wi => ∃ (k q cp : Nat) (a' : Option Addr), i = .int .i64 k ∧ o = .slice a' q cp ∧ k ≤ n_A ∧ q ≤ k ∧ Hid (Own wi H0 wi.heap.size 49 2 a' q cp (prs ((keepTo l D k).map (spB ss)))) ∧ Below w.heap.size w wi ∧ Hid (Row wi 2 aS nS (prs ss)) ∧ Hid (Row wi 1 a_B n_A (ints l)) ∧ Below H0 w20 wi) (fun _ i _ => n_A - (intOf i).toNat)
        case atStart => exact ⟨0, 0, 0, _, rfl, rfl, by omega, by omega, O0, B0, HS2, HA2, HH.out ▸ (Below.refl _ _).alloc (Nat.le_refl _) _⟩
        case round =>
          clear B0 HS2 HA2 O0 hz0
          obtain ⟨k, q, cp, a', rfl, rfl, hk, hq, HO, B2, HS2, HA2, BH⟩ := hrel
          have hz := BH.size
          have hzH1 : w20.heap.size ≤ H0 := by have := HH.out; omega
          have hzH2 : H0 ≤ w20.heap.size := by have := HH.out; omega
          have hwH2 := hwH.out
          by_cases hlt : k < n_A
          · have hkI : (k : Int) < (n_A : Int) := by omega
            obtain ⟨b, off, x, rfl, hcA, hx⟩ := HA2.out.at_ hlt
            obtain ⟨-, u2, u3⟩ := chain_up l 0 HCH.out x (List.mem_of_getElem? hx.out)
            obtain ⟨X, rfl⟩ := Int.eq_ofNat_of_zero_le u2
            rw [Int.toNat_natCast] at u3
            have hsl := HS2.out.len2
            have hXn : (X : Int) < (nS : Int) := by omega
            obtain ⟨⟨x1, y1⟩, hs⟩ : ∃ p, ss[X]? = some p := ⟨_, List.getElem?_eq_getElem (by omega)⟩
            have hsp := Lib.hid (show spB ss (X : Int) = (x1, y1) by rw [spB, Int.toNat_natCast, spAt_get hs])
            obtain ⟨b2, off2, rfl, -⟩ := HS2.out.head2 (show X < nS by omega)
            obtain ⟨p0, p1⟩ := HS2.out.get2_ hs
            have hstep := Lib.hid (show keepTo l D (k + 1) = keepTo l D k ++ (if k + 1 = D then [] else [(X : Int)]) by rw [keepTo, hx.out]; rfl)
            clear hx hs hsl u2 u3
            by_cases hkd : (k : Int) = dz
            · have hf : ((k : Int) != dz) = false := by simpa using hkd
              have hst2 := Lib.hid (show keepTo l D (k + 1) = keepTo l D k by rw [hstep.out, if_pos (by have := HD.out; omega), List.append_nil])
              clear hkd
              go_wp2
              go_roundw
              case rel => exact ⟨k + 1, q, cp, a', by go_num, rfl, by omega, by omega, by rw [hst2.out]; exact HO, B2, HS2, HA2, BH⟩
              case measure => simp [intOf]; omega
            · have hf : ((k : Int) != dz) = true := by simpa using hkd
              have hst2 := Lib.hid (show prs ((keepTo l D (k + 1)).map (spB ss)) = prs ((keepTo l D k).map (spB ss)) ++ prs [(x1, y1)] by rw [hstep.out, if_neg (by have := HD.out; omega), List.map_append, prs_app, List.map_cons, List.map_nil, hsp.out])
              clear hkd
              go_wp2_with (at_builtin; refine wpList_app _ rfl (.tmp 188) (.tmp 196) _ rfl Try.underlying26 info_Span rfl (by decide) rfl (HO.out.alloc _) rfl (by exact Row.litK _ (prs [(x1, y1)]) _ _ 1 2 (by simp) (by rfl)) (prs_one [(x1, y1)]) (by decide) (by simp only [maxLen]; omega) (by omega) (by simp; omega) ?_; intro A2 c2 w9 hown9 hb9 hg9)
              have BH9 := (BH.alloc (by omega) (.cells #[.int .i64 x1, .int .i64 y1] 49)).trans hb9
              have HS9 := Lib.hid (HS1.out.below2 BH9 (by omega))
              have HA9 := Lib.hid (HA1.out.below BH9 (by omega))
              have B9 := B.trans (BH9.mono (by omega))
              go_roundw
              case rel => exact ⟨k + 1, q + 1, c2, A2, by go_num, rfl, by omega, by omega, by rw [hst2.out]; exact hown9, B9, HS9, HA9, BH9⟩
              case measure => simp [intOf]; omega
          · obtain rfl : k = n_A := by omega
            have hco := Lib.hid (chosen_covered HCC.out HCH.out D (by have := HD.out; have := hll.out; omega))
            have hqb : q ≤ 10000 := by omega
            have HOr := Lib.hid HO.out.row
            go_wp2_with fail
            go_at_call 10
            refine (isCovered_impl _ _ _ _ _ _ HOr.out (by omega)).mono ?_
            rintro e w30 ⟨rfl, hb⟩
            have hco2 := hco.out
            rw [hll.out] at hco2
            rw [hco2]
            replace B2 := B2.trans (hb.mono B2.size)
            replace HS2 := Lib.hid (HS2.out.below2 hb (Nat.le_refl _))
            replace HA2 := Lib.hid (HA2.out.below hb (Nat.le_refl _))
            have hdec : decide (D = 0) = decide (dz < 0) := by have := HD.out; by_cases h : D = 0 <;> simp [h] <;> omega
            rw [hdec]
            clear hdec hco2 hb HO HOr BH
            by_cases hneg : dz < 0
            · go_wp2
              go_roundw
              case rel => exact ⟨dz + 1, by go_num, by omega, by omega, B2, HS2, HA2⟩
              case measure => simp [intOf]; omega
            · go_wp2
              go_roundw
              case rel => exact ⟨dz + 1, by go_num, by omega, by omega, B2, HS2, HA2⟩
              case measure => simp [intOf]; omega
      · go_wp2
        go_ret
        exact ⟨rfl, B⟩
  · rw [hlc] at r_B ⊢
    rw [gapsOf_yes hc] at r_G ⊢
    rw [isCovered_yes hc, decide_eq_false hg]
    dsimp only at r_G
    have hgo := Lib.hid (gapsL_ok ss (show 0 ≤ Wd by omega))
    have hgl : 0 < n_G := by have := r_G.len2; have : (gapsL Wd ss).length ≠ 0 := fun e => hg (List.eq_nil_of_length_eq_zero e); omega
    generalize gapsL Wd ss = gs at *
    have HG1 := Lib.hid r_G
    have hng : ((n_G : Int) == 0) = false := by simp; omega
    clear r_B r_G rS
    clear hlc hc hg hok
    go_wp2
    go_loopw [17] (fun i wr => ∃ k : Nat, i = .int .i64 k ∧ k ≤ n_G ∧ Below w.heap.size w wr ∧ Hid (Row wr 2 a_G n_G (prs gs))) (fun i _ => n_G - (intOf i).toNat)
    case atStart => exact ⟨0, rfl, by omega, B, HG1⟩
    case round =>
      clear B HG1
      obtain ⟨k, rfl, hk, B, HG1⟩ := hrel
      by_cases hlt : k < n_G
      · have hkI : (k : Int) < (n_G : Int) := by omega
        obtain ⟨b, off, x, y, rfl, g0, g1, hx⟩ := HG1.out.at2 hlt
        obtain ⟨v0, v1, v2⟩ := hgo.out.1 k x y hx.out
        have d1 : decide (y ≤ x) = false := by simp; omega
        have d2 : decide (x < 0) = false := by simp; omega
        have d3 : decide (Wd < y) = false := by simp; omega
        by_cases hk0 : k = 0
        · subst hk0
          clear hx
          rw [Nat.zero_mul, Nat.add_zero] at g0 g1
          go_wp2_with fail
          go_quiet (fail)
          go_wp2
          go_roundw
          case rel => exact ⟨0 + 1, by go_num, by omega, bdn B _, Lib.hid (HG1.out.drewN _)⟩
          case measure => simp [intOf] <;> omega
        · obtain ⟨k', rfl⟩ : ∃ k', k = k' + 1 := ⟨k - 1, by omega⟩
          clear hk0
          have hsub : ((k' + 1 : Nat) : Int) - 1 = (k' : Int) := by omega
          have hkp : (0 : Int) < ((k' + 1 : Nat) : Int) := by omega
          have hkq : (k' : Int) < (n_G : Int) := by omega
          obtain ⟨⟨u, v⟩, hxp⟩ : ∃ p, gs[k']? = some p := ⟨_, List.getElem?_eq_getElem (by have := HG1.out.len2; omega)⟩
          have hle := hgo.out.2 k' u v x y hxp hx.out
          have d4 : decide (x < v) = false := by simp; omega
          obtain ⟨g2, g3⟩ := HG1.out.get2_ hxp
          clear hx hxp
          go_wp2_with fail
          go_quiet (fail)
          go_wp2
          go_roundw
          case rel => exact ⟨k' + 1 + 1, by go_num, by omega, bdn B _, Lib.hid (HG1.out.drewN _)⟩
          case measure => simp [intOf] <;> omega
      · obtain rfl : k = n_G := by omega
        go_wp2
        refine wp_loop_rounds 1 ?_
        rw [rounds_succ]
        go_wp2
        go_ret
        exact ⟨rfl, B⟩

end Go.Proofs.Ytdihpllebccncaa.fnCovers
