/- LeastCover, by both programs. -/
import Derived.Test.YtdihpllebccncaaCover
import Derived.Deep.QuietTactic
import Derived.BigQuiet
namespace Go.Proofs.Ytdihpllebccncaa
open Go.RowKit
set_option maxRecDepth 100000
set_option linter.unusedVariables false

theorem Row.head2 {w : World} {a : Option Addr} {n k : Nat} {xs : List (Int × Int)} (h : Row w 2 a n (prs xs)) (hk : k < n) : ∃ b off, a = some ⟨b, off, none⟩ ∧ b < w.heap.size := by
  obtain ⟨b, off, x, y, rfl, hc, _, _⟩ := h.at2 hk
  exact ⟨b, off, rfl, World.block_lt_of_cell? w _ hc⟩

set_option maxHeartbeats 3200000 in
theorem leastCover_impl (W : Int) (a : Option Addr) (n c : Nat) (ss : List (Int × Int)) (w : World) (h : Row w 2 a n (prs ss)) (hn : n ≤ 1048576) :
    Calls Try.prog 28 #[.int .i64 W, .slice a n c] w fun e w' => ∃ a q cp, e = .returned (.tuple #[.slice a q cp, .int .i64 (leastCover W ss).2]) ∧ Own w' w.heap.size w'.heap.size 2 1 a q cp (ints (leastCover W ss).1) ∧ Below w.heap.size w w' := by
  have hl := Lib.hid h.len2
  go_enter Try.func28, Try.ntmps28
  go_wp2_with fail
  go_at_call 36
  refine (coverCode_any _ _ _ _ _ _ h hn).mono ?_
  rintro e w1 ⟨rfl, B⟩
  rcases coverC_cases W ss with ⟨hc, hs, hW1, hW2⟩ | ⟨cc, hc, hc0⟩
  · rw [hc]
    have hyes := Lib.hid hc; clear hc
    have hn2 := spansOk_len hs hl.out
    have HS := Lib.hid hs; clear hs
    have hsz := B.size
    go_wp2
    go_loopw [7, 8] (fun o pp wr => ∃ (p : Int) (f : Nat) (acc : List Int) (a' : Option Addr) (q cp : Nat), pp = .int .i64 p ∧ o = .slice a' q cp ∧ 0 ≤ p ∧ p ≤ 20000 ∧ W - p ≤ f ∧ (acc.length : Int) ≤ p ∧ Own wr w.heap.size wr.heap.size 2 1 a' q cp (ints acc) ∧ Below w.heap.size w wr ∧ Hid (coverF W ss f p acc = coverF W ss W.toNat 0 [])) (fun _ p _ => (W - intOf p).toNat)
    case atStart => exact ⟨0, W.toNat, [], _, 0, 0, rfl, rfl, by omega, by omega, by omega, by simp, Own.nil_ _ _ _ _ _, B, rfl⟩
    case round =>
      obtain ⟨p, f, acc, a', q, cp, rfl, rfl, hp0, hp1, hpf, hal, hown, hbel, hcf⟩ := hrel
      have hql := Lib.hid hown.row.len
      have hq : (q : Int) ≤ p := by have := hql.out; omega
      by_cases hpW : p < W
      · obtain ⟨g, hg⟩ : ∃ g, f = g + 1 := ⟨f - 1, by omega⟩
        have hrel := best_rel p ss n (by rw [hl.out]; exact Nat.le_refl _)
        have hu := best_cases (upB p) ss n
        have hi := best_cases (inB p) ss n
        have h2 := h.below2 hbel (Nat.le_refl _)
        have hbU : best (upB p) ss ss.length = best (upB p) ss n := by rw [hl.out]
        replace hrel := Lib.hid hrel; replace hu := Lib.hid hu; replace hi := Lib.hid hi; replace hbU := Lib.hid hbU; replace hg := Lib.hid hg
        go_wp2_with fail
        go_at_call 54
        refine (farthest_any p _ _ _ _ _ h2 HS.out (by omega)).mono ?_
        rintro e w2 ⟨rfl, hb⟩
        have hown2 := (hown.below hb (.inr (Nat.le_refl _))).leave
        have hbel2 := hbel.trans (hb.mono hbel.size)
        clear hb hown hbel h2
        rcases hu.out with hU | ⟨j, hU, hj, -⟩
        · have hno := Lib.hid (show leastCover W ss = ([], 4) from leastCover_none hyes.out (by rw [← hcf.out, hg.out]; exact coverF_none hpW (by rw [hbU.out]; omega) g))
          have hr2 := hrel.out.2 (by omega)
          clear hU
          rcases hi.out with hI | ⟨j, hI, hj, -⟩
          · rw [hI]
            clear hI hr2
            go_wp2
            go_ret2
            rw [hno.out]
            exact ⟨_, _, _, rfl, Own.nil_ _ _ _ _ _, hbel2⟩
          · rw [hI] at hr2 ⊢
            obtain ⟨u, v, hx⟩ := sp_at hl.out hj
            rw [hiOf_get hx.out] at hr2
            have hle : u + v ≤ p := by omega
            obtain ⟨d1, d2⟩ := spanOk_bd (spansOk_get HS.out hx.out)
            obtain ⟨bk, off, rfl, -⟩ := h.head2 hj
            obtain ⟨x0, x1⟩ := (h.below2 hbel2 (Nat.le_refl _)).get2_ hx.out
            have hjI : (j : Int) < (n : Int) := by omega
            clear hI hr2
            go_wp2_with fail
            go_at_call 55
            refine (high_any _ _ _ d1 d2).mono ?_
            rintro e w3 ⟨rfl, hb⟩
            go_wp2
            go_ret2
            rw [hno.out]
            exact ⟨_, _, _, rfl, Own.nil_ _ _ _ _ _, hbel2.trans (hb.mono hbel2.size)⟩
        · obtain ⟨hI, hgt⟩ := hrel.out.1 (by omega)
          rw [hI, hU]
          rw [hU] at hgt
          obtain ⟨u, v, hx⟩ := sp_at hl.out hj
          rw [hiOf_get hx.out] at hgt
          obtain ⟨d1, d2⟩ := spanOk_bd (spansOk_get HS.out hx.out)
          obtain ⟨bk, off, rfl, -⟩ := h.head2 hj
          obtain ⟨x0, x1⟩ := (h.below2 hbel2 (Nat.le_refl _)).get2_ hx.out
          have hjI : (j : Int) < (n : Int) := by omega
          have hstep := Lib.hid (show coverF W ss g (u + v) (acc ++ [(j : Int)]) = coverF W ss W.toNat 0 [] by
            rw [← hcf.out, hg.out, coverF_step hpW (hbU.out.trans hU) (by omega), hiOf_get hx.out])
          have hgf : W - (u + v) ≤ (g : Int) := by have := hg.out; omega
          have hs2 := hbel2.size
          clear hI hU
          go_wp2_with fail
          go_at_call 55
          refine (high_any _ _ _ d1 d2).mono ?_
          rintro e w3 ⟨rfl, hb⟩
          have hown3 := (hown2.below hb (.inr (Nat.le_refl _))).leave
          have hbel3 := hbel2.trans (hb.mono hbel2.size)
          have hs3 := hbel3.size
          clear hb hown2 hbel2 x0 x1
          go_wp2_with (at_builtin; refine wpList_app _ rfl (.tmp 33) (.tmp 35) _ rfl Try.underlying40 info_i64 rfl (by decide) rfl (hown3.alloc _) rfl (Row.one _ _ _) (ints_one [(j : Int)]) (by decide) (by simp only [maxLen]; omega) (by omega) (by simp; omega) ?_; intro A2 c2 w4 hown4 hb4 _; have hbel4 := (hbel3.alloc hbel3.size _).trans hb4; have hx4 := (h.below2 hbel4 (Nat.le_refl _)).get2_ hx.out; obtain ⟨y0, y1⟩ := hx4)
          go_at_call 55
          refine (high_any _ _ _ d1 d2).mono ?_
          rintro e w5 ⟨rfl, hb⟩
          have hown5 := (hown4.below hb (.inr (Nat.le_refl _))).leave
          have hbel5 := hbel4.trans (hb.mono hbel4.size)
          clear hb hown4 hbel4 y0 y1
          go_wp2
          go_roundw
          case rel => exact ⟨u + v, g, acc ++ [(j : Int)], A2, q + 1, c2, rfl, rfl, by omega, by omega, hgf, by simp; omega, by rw [ints_app]; exact hown5, hbel5, hstep.out⟩
          case measure => simp [intOf]; omega
      · have hyes2 := Lib.hid (show leastCover W ss = (acc, 0) from leastCover_some hyes.out (by rw [← hcf.out]; exact coverF_done hpW f))
        go_wp2
        go_ret2
        rw [hyes2.out]
        exact ⟨_, _, _, rfl, hown, hbel⟩
  · rw [hc]
    have hno := Lib.hid (leastCover_no hc hc0)
    have e1 : (cc != 0) = true := by simpa using hc0
    clear hc hc0
    go_wp2
    go_ret2
    rw [hno.out]
    exact ⟨_, _, _, rfl, Own.nil_ _ _ _ _ _, B⟩

theorem upB_no1 {p x y : Int} (h : ¬ x - y ≤ p) : upB p (x, y) = false := by simp [upB, h]
theorem upB_no2 {p x y : Int} (h : ¬ p < x + y) : upB p (x, y) = false := by simp [upB, h]
theorem upB_yes {p x y : Int} (h : x - y ≤ p) (h2 : p < x + y) : upB p (x, y) = true := by simp [upB, h, h2]

set_option maxHeartbeats 6400000 in
theorem leastCover_spec (W : Int) (a : Option Addr) (n c : Nat) (ss : List (Int × Int)) (w : World) (h : Row w 2 a n (prs ss)) (hn : n ≤ 1048576) :
    Calls Try.prog 29 #[.int .i64 W, .slice a n c] w fun e w' => ∃ a q cp, e = .returned (.tuple #[.slice a q cp, .int .i64 (leastCover W ss).2]) ∧ Own w' w.heap.size w'.heap.size 2 1 a q cp (ints (leastCover W ss).1) ∧ Below w.heap.size w w' := by
  have hl := Lib.hid h.len2
  go_enter Try.func29, Try.ntmps29
  go_wp2_with fail
  go_at_call 33
  refine (l24Code_any _ _ _ _ _ _ h hn).mono ?_
  rintro e w1 ⟨rfl, B⟩
  rcases coverC_cases W ss with ⟨hc, hs, hW1, hW2⟩ | ⟨cc, hc, hc0⟩
  · rw [hc]
    have hyes := Lib.hid hc; clear hc
    have hn2 := spansOk_len hs hl.out
    have HS := Lib.hid hs; clear hs
    have hsz := B.size
    go_wp2
    go_loopw [7, 8] (fun o pp wr => ∃ (p : Int) (f : Nat) (acc : List Int) (a' : Option Addr) (q cp : Nat), pp = .int .i64 p ∧ o = .slice a' q cp ∧ 0 ≤ p ∧ p ≤ 20000 ∧ W - p ≤ f ∧ (acc.length : Int) ≤ p ∧ Own wr w.heap.size wr.heap.size 2 1 a' q cp (ints acc) ∧ Below w.heap.size w wr ∧ Hid (coverF W ss f p acc = coverF W ss W.toNat 0 [])) (fun _ p _ => (W - intOf p).toNat)
    case atStart => exact ⟨0, W.toNat, [], _, 0, 0, rfl, rfl, by omega, by omega, by omega, by simp, (Own.lit0 w1 2 1).mono hsz (by simp), B.alloc hsz _, rfl⟩
    case round =>
      obtain ⟨p, f, acc, a', q, cp, rfl, rfl, hp0, hp1, hpf, hal, hown, hbel, hcf⟩ := hrel
      have hql := Lib.hid hown.row.len
      have hq : (q : Int) ≤ p := by have := hql.out; omega
      by_cases hpW : p < W
      · obtain ⟨g, hg⟩ : ∃ g, f = g + 1 := ⟨f - 1, by omega⟩
        replace hg := Lib.hid hg
        obtain ⟨w2, rfl⟩ : ∃ w2 : World, w2 = wr := ⟨_, rfl⟩
        go_wp2
        go_loopw [9, 10] (fun bb kk wi => ∃ (k : Nat) (b : Int), k ≤ n ∧ kk = .int .i64 k ∧ bb = .int .i64 b ∧ Hid (best (upB p) ss k = b) ∧ Below w2.heap.size w2 wi) (fun _ i _ => n - (intOf i).toNat)
        case atStart => exact ⟨0, -1, Nat.zero_le _, rfl, rfl, rfl, Below.refl _ _⟩
        case round =>
          obtain ⟨k, b, hk, rfl, rfl, hb0, hbi⟩ := hrel
          have hbel2 := hbel.trans (hbi.mono hbel.size)
          by_cases hlt : k < n
          · obtain ⟨x, y, hx⟩ := sp_at hl.out hlt
            obtain ⟨d1, d2⟩ := spanOk_bd (spansOk_get HS.out hx.out)
            obtain ⟨bk, off, rfl, -⟩ := h.head2 hlt
            obtain ⟨x0, x1⟩ := (h.below2 hbel2 (Nat.le_refl _)).get2_ hx.out
            have hkI : (k : Int) < (n : Int) := by omega
            by_cases h1 : x - y ≤ p
            · by_cases h2 : p < x + y
              · rcases best_cases (upB p) ss k with hm | ⟨j, hm, hjk, -⟩
                · have hst := Lib.hid (best_first hx.out (upB_yes h1 h2) hm)
                  obtain rfl : b = -1 := hb0.out.symm.trans hm
                  clear hm hb0
                  go_wp2_with fail
                  go_quiet (fail)
                  go_wp2_with fail
                  go_quiet (fail)
                  go_wp2
                  go_roundw
                  case rel => exact ⟨k + 1, k, by omega, by go_num, rfl, hst.out, bdn hbi _⟩
                  case measure => simp [intOf]; omega
                · obtain ⟨u, v, hxj⟩ := sp_at hl.out (show j < n by omega)
                  obtain ⟨d3, d4⟩ := spanOk_bd (spansOk_get HS.out hxj.out)
                  have hjI : (j : Int) < (n : Int) := by omega
                  have hj0 : decide ((j : Int) < 0) = false := by simp
                  obtain ⟨y0, y1⟩ := (h.below2 hbel2 (Nat.le_refl _)).get2_ hxj.out
                  obtain rfl : b = j := hb0.out.symm.trans hm
                  have hm2 := Lib.hid hm
                  clear hm hb0
                  by_cases hcmp : u + v < x + y
                  · have hst := Lib.hid (best_more hx.out (upB_yes h1 h2) hm2.out hxj.out hcmp)
                    go_wp2_with fail
                    go_quiet (fail)
                    go_wp2_with fail
                    go_quiet (fail)
                    go_wp2
                    go_roundw
                    case rel => exact ⟨k + 1, k, by omega, by go_num, rfl, hst.out, bdn hbi _⟩
                    case measure => simp [intOf]; omega
                  · have hst := Lib.hid (best_less hx.out (upB_yes h1 h2) hm2.out hxj.out hcmp)
                    have hd : decide (u + v < x + y) = false := by simpa using hcmp
                    go_wp2_with fail
                    go_quiet (fail)
                    go_wp2_with fail
                    go_quiet (fail)
                    go_wp2
                    go_roundw
                    case rel => exact ⟨k + 1, j, by omega, by go_num, rfl, hst.out, bdn hbi _⟩
                    case measure => simp [intOf]; omega
              · have hst := Lib.hid ((best_no hx.out (upB_no2 h2)).trans hb0.out)
                have hd : decide (p < x + y) = false := by simpa using h2
                go_wp2_with fail
                go_quiet (fail)
                go_wp2_with fail
                go_quiet (fail)
                go_wp2
                go_roundw
                case rel => exact ⟨k + 1, b, by omega, by go_num, rfl, hst.out, bdn hbi _⟩
                case measure => simp [intOf]; omega
            · have hst := Lib.hid ((best_no hx.out (upB_no1 h1)).trans hb0.out)
              have hd : decide (x - y ≤ p) = false := by simpa using h1
              go_wp2_with fail
              go_quiet (fail)
              go_wp2_with fail
              go_quiet (fail)
              go_wp2
              go_roundw
              case rel => exact ⟨k + 1, b, by omega, by go_num, rfl, hst.out, bdn hbi _⟩
              case measure => simp [intOf]; omega
          · have hbn : Hid (best (upB p) ss ss.length = b) := by
              have : k = n := by omega
              unfold Hid; rw [hl.out, ← this]; exact hb0.out
            have hown2 := (hown.below hbi (.inr (Nat.le_refl _))).leave
            have hs2 := hbel2.size
            rcases best_cases (upB p) ss k with hm | ⟨j, hm, hjk, hcj⟩
            · obtain rfl : b = -1 := hb0.out.symm.trans hm
              have hno := Lib.hid (show leastCover W ss = ([], 4) from leastCover_none hyes.out (by rw [← hcf.out, hg.out]; exact coverF_none hpW (by rw [hbn.out]; omega) g))
              clear hm hb0 hbi hown hbel
              go_wp2
              go_ret2
              rw [hno.out]
              exact ⟨_, _, _, rfl, Own.nil_ _ _ _ _ _, hbel2⟩
            · obtain rfl : b = j := hb0.out.symm.trans hm
              have hj : j < n := by omega
              obtain ⟨u, v, hx⟩ := sp_at hl.out hj
              obtain ⟨d1, d2⟩ := spanOk_bd (spansOk_get HS.out hx.out)
              have hgt : p < u + v := by
                rw [spAt_get hx.out] at hcj
                simp only [upB, Bool.and_eq_true, decide_eq_true_eq] at hcj
                exact hcj.2
              obtain ⟨bk, off, rfl, -⟩ := h.head2 hj
              have hjI : (j : Int) < (n : Int) := by omega
              have hstep := Lib.hid (show coverF W ss g (u + v) (acc ++ [(j : Int)]) = coverF W ss W.toNat 0 [] by
                rw [← hcf.out, hg.out, coverF_step hpW hbn.out (by omega), hiOf_get hx.out])
              have hgf : W - (u + v) ≤ (g : Int) := by have := hg.out; omega
              clear hm hb0 hcj hbi hown hbel
              go_wp2_with (at_builtin; refine wpList_app _ rfl (.tmp 79) (.tmp 81) _ rfl Try.underlying40 info_i64 rfl (by decide) rfl (hown2.alloc _) rfl (Row.one _ _ _) (ints_one [(j : Int)]) (by decide) (by simp only [maxLen]; omega) (by omega) (by simp; omega) ?_; intro A2 c2 w4 hown4 hb4 _; have hbel4 := (hbel2.alloc hbel2.size _).trans hb4; have hx4 := (h.below2 hbel4 (Nat.le_refl _)).get2_ hx.out; obtain ⟨y0, y1⟩ := hx4)
              go_quiet (fail)
              go_wp2
              go_roundw
              case rel => exact ⟨u + v, g, acc ++ [(j : Int)], A2, q + 1, c2, rfl, rfl, by omega, by omega, hgf, by simp; omega, by rw [ints_app]; exact hown4.drewN _, bdn hbel4 _, hstep.out⟩
              case measure => simp [intOf]; omega
      · have hyes2 := Lib.hid (show leastCover W ss = (acc, 0) from leastCover_some hyes.out (by rw [← hcf.out]; exact coverF_done hpW f))
        go_wp2
        go_ret2
        rw [hyes2.out]
        exact ⟨_, _, _, rfl, hown, hbel⟩
  · rw [hc]
    have hno := Lib.hid (leastCover_no hc hc0)
    have e1 : (cc != 0) = true := by simpa using hc0
    clear hc hc0
    go_wp2
    go_ret2
    rw [hno.out]
    exact ⟨_, _, _, rfl, Own.nil_ _ _ _ _ _, B⟩
end Go.Proofs.Ytdihpllebccncaa
