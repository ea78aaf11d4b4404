/- FillGaps returns a grid of the same shape, in rows of its own. -/
import Derived.Test.YtciicolknphcnaaGridO
import Derived.Test.YtciicolknphcnaaEnclose
import Derived.Test.YtciicolknphcnaaGridM
import Derived.Deep.DeepCutAuto
import Derived.Deep.QuietTactic
import Derived.BigQuiet
namespace Go.Proofs.Ytciicolknphcnaa
open Go.RowKit
set_option maxRecDepth 100000
set_option linter.unusedVariables false
set_option linter.unusedSimpArgs false
set_option linter.unusedVariables false

def absF (x : Int) : Int := if x < 0 then -x else x
theorem fAbs_any (x : Int) (w : World) (h : -1000000000000 ≤ x ∧ x ≤ 1000000000000) : Calls Try.prog 70 #[.int .i64 x] w fun e w' => e = .returned (.int .i64 (absF x)) ∧ w = w' := by
  obtain ⟨h1, h2⟩ := h
  by_cases hx : x < 0
  · go_enter Try.func70, Try.ntmps70
    go_wp2
    all_goals (go_ret; exact ⟨by simp [absF]; omega, rfl⟩)
  · go_enter Try.func70, Try.ntmps70
    go_wp2
    all_goals (go_ret; exact ⟨by simp [absF]; omega, rfl⟩)

theorem bdnH {B : Nat} {w0 w : World} (h : Below B w0 w) (k : Nat) : Below B w0 (w.drewN k) := ⟨h.os, h.tape, h.output, h.size, h.block⟩
/-- What the rounds keep: the argument's box, the result's box, the copy's box and its two rows. -/
structure FSt (w wr : World) (H G p q n c' d' : Nat) (v1 v4 : Array Value) (cs : List Int) (ds : List (Int × Int)) : Prop where
  k1 : Blk wr H 27 v1
  k2 : Blk wr (H + 1) 27 #[.int .i64 0, .int .i64 0, .int .i64 0, .slice none 0 0, .slice none 0 0]
  k4 : Blk wr G 27 v4
  oc : Sol wr 2 1 p n c' (ints cs)
  od : Sol wr 49 2 q n d' (prs ds)
  B : Below H w wr
section
variable {w wr wr' : World} {H G p q n c' d' : Nat} {v1 v4 : Array Value} {cs cs' : List Int} {ds ds' : List (Int × Int)}
theorem FSt.below (h : FSt w wr H G p q n c' d' v1 v4 cs ds) (hb : Below wr.heap.size wr wr') (hH : H ≤ wr.heap.size) : FSt w wr' H G p q n c' d' v1 v4 cs ds :=
  ⟨h.k1.belowSelf hb, h.k2.belowSelf hb, h.k4.belowSelf hb, Own.below h.oc hb (.inr (Nat.le_refl _)), Own.below h.od hb (.inr (Nat.le_refl _)), h.B.trans (hb.mono hH)⟩
theorem FSt.addC (h : FSt w wr H G p q n c' d' v1 v4 cs ds) (hc : Sol wr' 2 1 p n c' (ints cs')) (hg : wr.grownBy wr' (some p)) (hp : H + 2 ≤ p) (hG : G ≠ p) (hq : q ≠ p) (hz : H ≤ wr.heap.size) : FSt w wr' H G p q n c' d' v1 v4 cs' ds :=
  ⟨h.k1.grown hg (fun e => by injection e with e; omega), h.k2.grown hg (fun e => by injection e with e; omega), h.k4.grown hg (fun e => by injection e with e; omega), hc, h.od.apart hg hq, h.B.grown hg hz (fun g e => by injection e with e; omega)⟩
theorem FSt.addD (h : FSt w wr H G p q n c' d' v1 v4 cs ds) (hd : Sol wr' 49 2 q n d' (prs ds')) (hg : wr.grownBy wr' (some q)) (hp : H + 2 ≤ q) (hG : G ≠ q) (hq : p ≠ q) (hz : H ≤ wr.heap.size) : FSt w wr' H G p q n c' d' v1 v4 cs ds' :=
  ⟨h.k1.grown hg (fun e => by injection e with e; omega), h.k2.grown hg (fun e => by injection e with e; omega), h.k4.grown hg (fun e => by injection e with e; omega), h.oc.apart hg hq, hd, h.B.grown hg hz (fun g e => by injection e with e; omega)⟩
end

def FillPost (w : World) (s x y : Int) (n : Nat) (e : Ending) (w' : World) : Prop := ∃ (p q c' d' : Nat) (cs : List Int) (ds : List (Int × Int)), e = .returned (.tuple #[.agg #[.int .i64 s, .int .i64 x, .int .i64 y, .slice (some ⟨p, 0, none⟩) n c', .slice (some ⟨q, 0, none⟩) n d'], .int .i64 0]) ∧ Sol w' 2 1 p n c' (ints cs) ∧ Sol w' 49 2 q n d' (prs ds) ∧ p ≠ q ∧ w.heap.size ≤ p ∧ w.heap.size ≤ q ∧ Below w.heap.size w w'

set_option maxHeartbeats 12800000 in
theorem fillGaps_any (s x y : Int) (a b : Option Addr) (n c d : Nat) (cs : List Int) (ds : List (Int × Int)) (w : World) (h : Row w 1 a n (ints cs)) (hd : Row w 2 b n (prs ds)) (hn : n ≤ 30) (h0 : 0 < n) (hx0 : 1 ≤ x) (hx1 : x ≤ 30) (hok : gridOk s x y cs ds = true) :
    Calls Try.prog 64 #[.agg #[.int .i64 s, .int .i64 x, .int .i64 y, .slice a n c, .slice b n d]] w (FillPost w s x y n) := by
  obtain ⟨H, hH⟩ : ∃ H, w.heap.size = H := ⟨_, rfl⟩
  obtain ⟨wa, hwa⟩ : ∃ wa, (w.alloc (.cells #[.int .i64 s, .int .i64 x, .int .i64 y, .slice a n c, .slice b n d] 27)).alloc (.cells #[.int .i64 0, .int .i64 0, .int .i64 0, .slice none 0 0, .slice none 0 0] 27) = wa := ⟨_, rfl⟩
  have K1 := Lib.hid (show Blk wa H 27 #[.int .i64 s, .int .i64 x, .int .i64 y, .slice a n c, .slice b n d] from hwa ▸ (Blk.new' w _ _ hH.symm).alloc _)
  have K2 := Lib.hid (show Blk wa (H + 1) 27 #[.int .i64 0, .int .i64 0, .int .i64 0, .slice none 0 0, .slice none 0 0] from hwa ▸ Blk.new' _ _ _ (by simp [hH]))
  have B := Lib.hid (show Below H w wa from by subst hwa; subst hH; exact ((Below.refl _ _).alloc (Nat.le_refl _) _).alloc (by simp) _)
  have hz : wa.heap.size = H + 2 := by subst hwa; simp [hH]
  have hHw : w.heap.size ≤ H := by omega
  have R1 := Lib.hid h
  have R2 := Lib.hid hd
  have HOK := Lib.hid hok
  clear h hd hok
  have u0 := K1.out.cell 0
  have u1 := K1.out.cell 1
  have u2 := K1.out.cell 2
  have u3 := K1.out.cell 3
  have u4 := K1.out.cell 4
  replace u0 : wa.cell? ⟨H, 0, none⟩ = some (.int .i64 s) := u0
  replace u1 : wa.cell? ⟨H, 1, none⟩ = some (.int .i64 x) := u1
  replace u2 : wa.cell? ⟨H, 2, none⟩ = some (.int .i64 y) := u2
  replace u3 : wa.cell? ⟨H, 3, none⟩ = some (.slice a n c) := u3
  replace u4 : wa.cell? ⟨H, 4, none⟩ = some (.slice b n d) := u4
  go_enter Try.func64, Try.ntmps64
  go_wp2_with fail
  go_at_call 21
  refine (isDepthGrid_spec _ _ _ _ _ _ _ _ _ _ _ _ (R1.out.below B.out hHw) (R2.out.below2 B.out hHw) (by omega) (by omega)).mono ?_
  rintro e w1 ⟨rfl, hb⟩
  rw [HOK.out]
  have hz1 := hb.size
  replace K1 := Lib.hid (K1.out.belowSelf hb)
  replace K2 := Lib.hid (K2.out.belowSelf hb)
  replace B := Lib.hid (B.out.trans (hb.mono (by omega)))
  clear hb u0 u1 u2 u3 u4
  have u0 : w1.cell? ⟨H, 0, none⟩ = some (.int .i64 s) := K1.out.cell 0
  have u1 : w1.cell? ⟨H, 1, none⟩ = some (.int .i64 x) := K1.out.cell 1
  have u2 : w1.cell? ⟨H, 2, none⟩ = some (.int .i64 y) := K1.out.cell 2
  have u3 : w1.cell? ⟨H, 3, none⟩ = some (.slice a n c) := K1.out.cell 3
  have u4 : w1.cell? ⟨H, 4, none⟩ = some (.slice b n d) := K1.out.cell 4
  go_wp2_with fail
  go_at_call 69
  refine (l22Own_any _ _ _ _ _ _ _ _ _ _ _ (R1.out.below B.out hHw) (R2.out.below2 B.out hHw) (by omega) h0).mono ?_
  rintro e w2 ⟨p, q, c', d', rfl, OC, OD, hpq, hp, hq, hb⟩
  have hz2 := hb.size
  obtain ⟨G, hG⟩ : ∃ G, w2.heap.size = G := ⟨_, rfl⟩
  obtain ⟨w3, hw3⟩ : ∃ w3, w2.alloc (.cells #[.int .i64 s, .int .i64 x, .int .i64 y, .slice (some ⟨p, 0, none⟩) n c', .slice (some ⟨q, 0, none⟩) n d'] 27) = w3 := ⟨_, rfl⟩
  have hpG : p < G := by have := OC.lt; omega
  have hqG : q < G := by have := OD.lt; omega
  have hF := Lib.hid (show FSt w w3 H G p q n c' d' #[.int .i64 s, .int .i64 x, .int .i64 y, .slice a n c, .slice b n d] #[.int .i64 s, .int .i64 x, .int .i64 y, .slice (some ⟨p, 0, none⟩) n c', .slice (some ⟨q, 0, none⟩) n d'] cs ds from ⟨hw3 ▸ (K1.out.belowSelf hb).alloc _, hw3 ▸ (K2.out.belowSelf hb).alloc _, hw3 ▸ Blk.new' _ _ _ hG.symm, hw3 ▸ OC.alloc _, hw3 ▸ OD.alloc _, hw3 ▸ (B.out.trans (hb.mono (by omega))).alloc (by omega) _⟩)
  have hz3 : w3.heap.size = G + 1 := by rw [← hw3]; simp [hG]
  have hHp : H + 2 ≤ p := by omega
  have hHq : H + 2 ≤ q := by omega
  clear OC OD K1 K2 B HOK u0 u1 u2 u3 u4 hb hp hq
  go_wp2
  go_loopw [5] (fun v wr => ∃ (i : Nat) (cs' : List Int) (ds' : List (Int × Int)), v = .int .i64 i ∧ i ≤ n ∧ Hid (FSt w wr H G p q n c' d' #[.int .i64 s, .int .i64 x, .int .i64 y, .slice a n c, .slice b n d] #[.int .i64 s, .int .i64 x, .int .i64 y, .slice (some ⟨p, 0, none⟩) n c', .slice (some ⟨q, 0, none⟩) n d'] cs' ds') ∧ G < wr.heap.size) (fun v _ => n - (intOf v).toNat)
  case atStart => exact ⟨0, cs, ds, rfl, by omega, hF, by omega⟩
  case round =>
    clear hF hz3
    obtain ⟨i, cs1, ds1, rfl, hi, F, hGr⟩ := hrel
    obtain ⟨w4, rfl⟩ : ∃ w4 : World, w4 = wr := ⟨_, rfl⟩
    have u0 : w4.cell? ⟨H, 0, none⟩ = some (.int .i64 s) := F.out.k1.cell 0
    have u1 : w4.cell? ⟨H, 1, none⟩ = some (.int .i64 x) := F.out.k1.cell 1
    have u2 : w4.cell? ⟨H, 2, none⟩ = some (.int .i64 y) := F.out.k1.cell 2
    have u3 : w4.cell? ⟨H, 3, none⟩ = some (.slice a n c) := F.out.k1.cell 3
    have u4 : w4.cell? ⟨H, 4, none⟩ = some (.slice b n d) := F.out.k1.cell 4
    by_cases hlt : i < n
    · have hiI : (i : Int) < (n : Int) := by omega
      obtain ⟨H0, hH0⟩ : ∃ H0, w4.heap.size = H0 := ⟨_, rfl⟩
      have hH0a : w4.heap.size ≤ H0 := by omega
      have hH0b : H0 ≤ w4.heap.size := by omega
      have O0 := Lib.hid ((Own.lit0 w4 49 2).mono (lo' := H0) (hi' := (w4.alloc (.cells #[] 49)).heap.size) (by omega) (by simp))
      have BH0 := Lib.hid (show Below H0 w4 (w4.alloc (.cells #[] 49)) from by rw [← hH0]; exact (Below.refl _ w4).alloc (Nat.le_refl _) _)
      clear hH0
      go_wp2
      go_loopw [6, 7] (fun o v wi => ∃ (k m cp : Nat) (a' : Option Addr) (ks : List (Int × Int)), v = .int .i64 k ∧ o = .slice a' m cp ∧ k ≤ n ∧ m ≤ k ∧ Hid (Own wi H0 wi.heap.size 49 2 a' m cp (prs ks)) ∧ Hid (Below H0 w4 wi)) (fun _ v _ => n - (intOf v).toNat)
      case atStart => exact ⟨0, 0, _, _, [], rfl, rfl, by omega, by omega, O0, BH0⟩
      case round =>
        clear O0 BH0
        obtain ⟨k, m, cp, a', ks, rfl, rfl, hk, hmk, O, BHi⟩ := hrel
        obtain ⟨w5, rfl⟩ : ∃ w5 : World, w5 = wr := ⟨_, rfl⟩
        clear u0 u1 u2 u3 u4
        have Fi := Lib.hid (F.out.below (BHi.out.mono hH0a) (by omega))
        have u0 : w5.cell? ⟨H, 0, none⟩ = some (.int .i64 s) := Fi.out.k1.cell 0
        have u1 : w5.cell? ⟨H, 1, none⟩ = some (.int .i64 x) := Fi.out.k1.cell 1
        have u2 : w5.cell? ⟨H, 2, none⟩ = some (.int .i64 y) := Fi.out.k1.cell 2
        have u3 : w5.cell? ⟨H, 3, none⟩ = some (.slice a n c) := Fi.out.k1.cell 3
        have u4 : w5.cell? ⟨H, 4, none⟩ = some (.slice b n d) := Fi.out.k1.cell 4
        by_cases hkl : k < n
        · have hkI : (k : Int) < (n : Int) := by omega
          have hxne : ¬ x = 0 := by omega
          have hm1 := Int.emod_nonneg (i : Int) hxne
          have hm2 := Int.emod_lt_of_pos (i : Int) (show 0 < x by omega)
          have hm3 := Int.emod_nonneg (k : Int) hxne
          have hm4 := Int.emod_lt_of_pos (k : Int) (show 0 < x by omega)
          have hq1 := Int.ediv_nonneg (show 0 ≤ (i : Int) by omega) (show 0 ≤ x by omega)
          have hq2 := Int.ediv_le_self x (show 0 ≤ (i : Int) by omega)
          have hq3 := Int.ediv_nonneg (show 0 ≤ (k : Int) by omega) (show 0 ≤ x by omega)
          have hq4 := Int.ediv_le_self x (show 0 ≤ (k : Int) by omega)
          obtain ⟨A, hA⟩ : ∃ A, (i : Int) % x - (k : Int) % x = A := ⟨_, rfl⟩
          obtain ⟨D, hD⟩ : ∃ D, (i : Int) / x - (k : Int) / x = D := ⟨_, rfl⟩
          have hA1 : -1000 ≤ A ∧ A ≤ 1000 := by omega
          have hD1 : -1000 ≤ D ∧ D ≤ 1000 := by omega
          go_upto_region 11 with (fail)
          go_cut [8] (fun v wx => ∃ b : Bool, v = .bool b ∧ Hid (Own wx H0 wx.heap.size 49 2 a' m cp (prs ks)) ∧ Hid (Below H0 w4 wx))
          case first => as_aux_lemma =>
            by_cases hc : absF A ≤ 1
            · go_wp2_with fail
              go_quiet ((go_at_call 70; first | exact quiet_eq (fAbs_any _ _ (by omega)) | exact quiet_eq' (fAbs_any _ _ (by omega))))
              go_wp2_with fail
              go_meet
              exact ⟨_, rfl, Lib.hid (O.out.drewN _).leave, Lib.hid (bdnH BHi.out _)⟩
            · have hcf : decide (absF A ≤ 1) = false := by simpa using hc
              go_wp2_with fail
              go_quiet ((go_at_call 70; first | exact quiet_eq (fAbs_any _ _ (by omega)) | exact quiet_eq' (fAbs_any _ _ (by omega))))
              go_wp2_with fail
              go_meet
              exact ⟨_, rfl, Lib.hid (O.out.drewN _).leave, Lib.hid (bdnH BHi.out _)⟩
          case rest => as_aux_lemma =>
            clear O BHi Fi u0 u1 u2 u3 u4
            obtain ⟨nr, rfl, O, BHi⟩ := hcut
            obtain ⟨w6, rfl⟩ : ∃ w6 : World, w6 = wc := ⟨_, rfl⟩
            have Fi := Lib.hid (F.out.below (BHi.out.mono hH0a) (by omega))
            have hzi := BHi.out.size
            have u0 : w6.cell? ⟨H, 0, none⟩ = some (.int .i64 s) := Fi.out.k1.cell 0
            have u1 : w6.cell? ⟨H, 1, none⟩ = some (.int .i64 x) := Fi.out.k1.cell 1
            have u2 : w6.cell? ⟨H, 2, none⟩ = some (.int .i64 y) := Fi.out.k1.cell 2
            have u3 : w6.cell? ⟨H, 3, none⟩ = some (.slice a n c) := Fi.out.k1.cell 3
            have u4 : w6.cell? ⟨H, 4, none⟩ = some (.slice b n d) := Fi.out.k1.cell 4
            clear hm1 hm2 hm3 hm4 hq1 hq2 hq3 hq4 hA hD hA1 hD1
            obtain ⟨ba, oa, ck, rfl, hck, hckx⟩ := (R1.out.below Fi.out.B hHw).at_ hkl
            obtain ⟨bb, ob, dl, dh, rfl, hd0, hd1, hdx⟩ := (R2.out.below2 Fi.out.B hHw).at2 hkl
            cases nr
            · go_wp2
              go_roundw
              case rel => exact ⟨k + 1, m, cp, a', ks, by go_num, rfl, by omega, by omega, O, BHi⟩
              case measure => simp [intOf] <;> omega
            · by_cases hki : k = i
              · subst hki
                have hkk : ((k : Int) != (k : Int)) = false := by simp
                go_wp2
                go_roundw
                case rel => exact ⟨k + 1, m, cp, a', ks, by go_num, rfl, by omega, by omega, O, BHi⟩
                case measure => simp [intOf] <;> omega
              · have hkk : ((k : Int) != (i : Int)) = true := by simp; omega
                by_cases hc0 : ck = 0
                · have hcf : (ck != 0) = false := by simpa using hc0
                  clear hc0
                  go_wp2
                  go_roundw
                  case rel => exact ⟨k + 1, m, cp, a', ks, by go_num, rfl, by omega, by omega, O, BHi⟩
                  case measure => simp [intOf] <;> omega
                · have hcf : (ck != 0) = true := by simpa using hc0
                  clear hc0
                  go_wp2_with (at_builtin; refine wpList_app _ rfl (.tmp 70) (.tmp 76) _ rfl Try.underlying25 info_Interval rfl (by decide) rfl (O.out.alloc _) rfl (by exact Row.litK _ (prs [(dl, dh)]) _ _ 1 2 (by simp) (by rfl)) (prs_one [(dl, dh)]) (by decide) (by simp only [maxLen]; omega) (by omega) (by simp; omega) ?_; intro A2 c2 w9 hown9 hb9 _)
                  go_roundw
                  case rel => exact ⟨k + 1, m + 1, c2, A2, ks ++ [(dl, dh)], by go_num, rfl, by omega, by omega, by rw [prs_app]; exact hown9, (BHi.out.alloc (by omega) (.cells #[.int .i64 dl, .int .i64 dh] 49)).trans hb9⟩
                  case measure => simp [intOf] <;> omega
        · have hkI : ¬ (k : Int) < (n : Int) := by omega
          have hzi := BHi.out.size
          obtain ⟨ba, oa, ci, rfl, hci, hcix⟩ := (R1.out.below Fi.out.B hHw).at_ hlt
          by_cases hc0 : ci = 0
          · subst hc0
            by_cases hm3 : 3 ≤ m
            · have hm3I : (3 : Int) ≤ (m : Int) := by omega
              go_wp2_with fail
              go_at_call 71
              refine (encloseAll_any _ _ _ _ _ O.out.row (by omega)).mono ?_
              rintro e w7 ⟨l, g, ev, rfl, hb⟩
              have hz7 := hb.size
              obtain ⟨G9, hG9⟩ : ∃ G9, w7.heap.size = G9 := ⟨_, rfl⟩
              obtain ⟨w8, hw8⟩ : ∃ w8, w7.alloc (.cells #[.int .i64 l, .int .i64 g] 49) = w8 := ⟨_, rfl⟩
              have F8 := Lib.hid (show FSt w w8 H G p q n c' d' _ _ cs1 ds1 from hw8 ▸ ((Fi.out.below hb (by omega)).below ((Below.refl _ _).alloc (Nat.le_refl _) _) (by omega)))
              have K9 := Lib.hid (show Blk w8 G9 49 #[.int .i64 l, .int .i64 g] from hw8 ▸ Blk.new' _ _ _ hG9.symm)
              have hz8 : w8.heap.size = G9 + 1 := by rw [← hw8]; simp [hG9]
              have hst := F8.out.oc.stored i (.int .i64 (-1))
              have hfp := F8.out.oc.frozenAt i
              have hcp := F8.out.oc.cellAt i (by omega)
              obtain ⟨c9, hc9⟩ : ∃ c9, cs1[i]? = some c9 := ⟨_, List.getElem?_eq_getElem (by have := F8.out.oc.row.len; omega)⟩
              rw [ints_get hc9] at hcp
              rw [show (ints cs1).set i (.int .i64 (-1)) = ints (cs1.set i (-1)) by simp [ints, List.map_set]] at hst
              obtain ⟨w9, hw9⟩ : ∃ w9, w8.setCell ⟨p, i, none⟩ (.int .i64 (-1)) = w9 := ⟨_, rfl⟩
              rw [hw9] at hst
              have F9 := Lib.hid (F8.out.addC hst.1 hst.2 (by omega) (by omega) (fun e => hpq e.symm) (by omega))
              have K9b := Lib.hid (K9.out.grown hst.2 (fun e => by injection e with e; omega))
              have st1 := F9.out.od.stored (i * 2) (.int .i64 l)
              have st2 := st1.1.stored (i * 2 + 1) (.int .i64 g)
              rw [prs_set] at st2
              obtain ⟨⟨e0, e1⟩, hde⟩ : ∃ dv, ds1[i]? = some dv := ⟨_, List.getElem?_eq_getElem (by have := F9.out.od.row.len2; omega)⟩
              have hq0 : w9.cell? ⟨q, i * 2, none⟩ = some (.int .i64 e0) := (F9.out.od.cellAt _ (by omega)).trans (prs_get hde).1
              have hq1 : w9.cell? ⟨q, i * 2 + 1, none⟩ = some (.int .i64 e1) := (F9.out.od.cellAt _ (by omega)).trans (prs_get hde).2
              have hq2 : (w9.setCell ⟨q, i * 2, none⟩ (.int .i64 l)).cell? ⟨q, i * 2 + 1, none⟩ = some (.int .i64 e1) := (st1.1.cellAt _ (by omega)).trans (by rw [List.getElem?_set_ne (by omega)]; exact (prs_get hde).2)
              have hfq2 := st1.1.frozenAt (i * 2 + 1)
              have hfq0 := F9.out.od.frozenAt (i * 2)
              have hfq1 := F9.out.od.frozenAt (i * 2 + 1)
              obtain ⟨w10, hw10⟩ : ∃ w10, (w9.setCell ⟨q, i * 2, none⟩ (.int .i64 l)).setCell ⟨q, i * 2 + 1, none⟩ (.int .i64 g) = w10 := ⟨_, rfl⟩
              have hg2 := st1.2.trans st2.2
              rw [hw10] at st2 hg2
              have F10 := Lib.hid (F9.out.addD st2.1 hg2 (by omega) (by omega) hpq (by have := hst.2.size; omega))
              have hz10 : G < w10.heap.size := by have h1 := hst.2.size; have h2 := hg2.size; omega
              have y3 : w8.cell? ⟨G, 3, none⟩ = some (.slice (some ⟨p, 0, none⟩) n c') := F8.out.k4.cell 3
              have z3 : w9.cell? ⟨G, 3, none⟩ = some (.slice (some ⟨p, 0, none⟩) n c') := F9.out.k4.cell 3
              have y4 : w8.cell? ⟨G, 4, none⟩ = some (.slice (some ⟨q, 0, none⟩) n d') := F8.out.k4.cell 4
              have z4 : w9.cell? ⟨G, 4, none⟩ = some (.slice (some ⟨q, 0, none⟩) n d') := F9.out.k4.cell 4
              have x0 : w9.cell? ⟨G9, 0, none⟩ = some (.int .i64 l) := K9b.out.cell 0
              have x1 : w9.cell? ⟨G9, 1, none⟩ = some (.int .i64 g) := K9b.out.cell 1
              clear hst st1 st2 hg2 hb hz8 hc9 hde F8 F9 K9 K9b
              go_wp2
              go_roundw
              case rel => exact ⟨i + 1, cs1.set i (-1), ds1.set i (l, g), by go_num, by omega, F10, hz10⟩
              case measure => simp [intOf] <;> omega
            · have hm3I : ¬ (3 : Int) ≤ (m : Int) := by omega
              go_wp2
              go_roundw
              case rel => exact ⟨i + 1, cs1, ds1, by go_num, by omega, Fi, by omega⟩
              case measure => simp [intOf] <;> omega
          · have hcf : (ci == 0) = false := by simpa using hc0
            clear hc0
            go_wp2
            go_roundw
            case rel => exact ⟨i + 1, cs1, ds1, by go_num, by omega, Fi, by omega⟩
            case measure => simp [intOf] <;> omega
    · have hiI : ¬ (i : Int) < (n : Int) := by omega
      have y0 : w4.cell? ⟨G, 0, none⟩ = some (.int .i64 s) := F.out.k4.cell 0
      have y1 : w4.cell? ⟨G, 1, none⟩ = some (.int .i64 x) := F.out.k4.cell 1
      have y2 : w4.cell? ⟨G, 2, none⟩ = some (.int .i64 y) := F.out.k4.cell 2
      have y3 : w4.cell? ⟨G, 3, none⟩ = some (.slice (some ⟨p, 0, none⟩) n c') := F.out.k4.cell 3
      have y4 : w4.cell? ⟨G, 4, none⟩ = some (.slice (some ⟨q, 0, none⟩) n d') := F.out.k4.cell 4
      have t0 : w4.cell? ⟨(H + 1), 0, none⟩ = some (.int .i64 0) := F.out.k2.cell 0
      have t1 : w4.cell? ⟨(H + 1), 1, none⟩ = some (.int .i64 0) := F.out.k2.cell 1
      have t2 : w4.cell? ⟨(H + 1), 2, none⟩ = some (.int .i64 0) := F.out.k2.cell 2
      have t3 : w4.cell? ⟨(H + 1), 3, none⟩ = some (.slice none 0 0) := F.out.k2.cell 3
      have t4 : w4.cell? ⟨(H + 1), 4, none⟩ = some (.slice none 0 0) := F.out.k2.cell 4
      have f0 := F.out.k2.frozen 0
      have f1 := F.out.k2.frozen 1
      have f2 := F.out.k2.frozen 2
      have f3 := F.out.k2.frozen 3
      have f4 := F.out.k2.frozen 4
      have K6 := Lib.hid (F.out.k2.five (.int .i64 s) (.int .i64 x) (.int .i64 y) (.slice (some ⟨p, 0, none⟩) n c') (.slice (some ⟨q, 0, none⟩) n d'))
      have OC6 := own_five (b := H + 1) F.out.oc (.inl (by omega)) (.int .i64 s) (.int .i64 x) (.int .i64 y) (.slice (some ⟨p, 0, none⟩) n c') (.slice (some ⟨q, 0, none⟩) n d')
      have OD6 := own_five (b := H + 1) F.out.od (.inl (by omega)) (.int .i64 s) (.int .i64 x) (.int .i64 y) (.slice (some ⟨p, 0, none⟩) n c') (.slice (some ⟨q, 0, none⟩) n d')
      have B6 := below_five1 F.out.B (.int .i64 s) (.int .i64 x) (.int .i64 y) (.slice (some ⟨p, 0, none⟩) n c') (.slice (some ⟨q, 0, none⟩) n d')
      obtain ⟨w6, hw6⟩ : ∃ w6, ((((w4.setCell ⟨H + 1, 0, none⟩ (.int .i64 s)).setCell ⟨H + 1, 1, none⟩ (.int .i64 x)).setCell ⟨H + 1, 2, none⟩ (.int .i64 y)).setCell ⟨H + 1, 3, none⟩ (.slice (some ⟨p, 0, none⟩) n c')).setCell ⟨H + 1, 4, none⟩ (.slice (some ⟨q, 0, none⟩) n d') = w6 := ⟨_, rfl⟩
      rw [hw6] at K6 OC6 OD6 B6
      go_wp2
      have z0 := K6.out.cell 0; have z1 := K6.out.cell 1; have z2 := K6.out.cell 2; have z3 := K6.out.cell 3; have z4 := K6.out.cell 4
      exact bodyPost_ret (v := .tuple #[.agg #[.int .i64 s, .int .i64 x, .int .i64 y, .slice (some ⟨p, 0, none⟩) n c', .slice (some ⟨q, 0, none⟩) n d'], .int .i64 0]) (by simp only [results, Try.results64, Array.size]; simp [go_sem, z0, z1, z2, z3, z4]) rfl ⟨p, q, c', d', cs1, ds1, rfl, OC6, OD6, hpq, by omega, by omega, hH ▸ B6⟩
end Go.Proofs.Ytciicolknphcnaa
