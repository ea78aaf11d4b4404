/- Streams of several frames that are drawn, whatever the code. -/
import Derived.Test.YtmljcbfpennjkaaDrawFr
import Derived.Deep.DeepCutAuto
namespace Go.Proofs.Ytmljcbfpennjkaa
open Go.RowKit
set_option maxRecDepth 100000
set_option linter.unusedVariables false
set_option linter.unusedSimpArgs false

theorem flagAt_near {xs : List Int} {i n : Nat} (hl : xs.length = n) (h : flagAt xs i = true) : i + 8 ≤ n := by
  by_cases h8 : i + 8 ≤ n
  · exact h8
  · rw [flagAt_far hl h8] at h; cases h

theorem sub_row {w : World} {g n V : Nat} {xs : List Int} (h : Row w 1 (some ⟨g, 0, none⟩) n (ints xs)) (hV : V ≤ n) {a' : Option Addr} (ha : 0 < n - V → a' = some ⟨g, V, none⟩) : Row w 1 a' (n - V) (ints ((xs.drop V).take (n - V))) := by
  have := h.sub (i := V) (m := n - V) (by omega) a' (fun h b off e => by injection e with e; injection e with e1 e2 _; subst e1; subst e2; rw [Nat.zero_add]; exact ha h)
  simpa [ints, List.map_drop, List.map_take] using this

set_option maxHeartbeats 12800000 in
theorem drawFramesIn_any (a : Option Addr) (n c : Nat) (bs : List Nat) (w : World) (h : Code8 w a n bs) :
    Calls Try.prog 38 #[.slice a n c] w (BitDraw w) := by
  go_enter Try.func38, Try.ntmps38
  go_wp2_with fail
  go_at_call 53
  refine (l01From_any _ _ _ _ _ h).mono ?_
  rintro e w1 ⟨p, rfl, hp, hs, B⟩
  have hp1 : w.heap.size ≤ p := by omega
  have hpw := hs.lt
  have HS := Lib.hid hs
  have G := World.grownBy.refl w1 (some p)
  clear hp hs
  have O_d := (Own.lit0 w1 2 1).mono (lo' := w1.heap.size) (hi' := (w1.alloc (.cells #[] 2)).heap.size) (by have := G.size; omega) (by simp)
  replace G := grown_alloc G (.cells #[] 2)
  replace HS := Lib.hid (HS.out.alloc (.cells #[] 2))
  go_wp2_with fail
  go_at_call 54
  refine (l01Next_any _ _ _ HS.out (by omega)).mono ?_
  rintro e w2 ⟨R, rfl, ⟨hR0, hR1, -⟩, hs, hg⟩
  have hR9 := hR1 (by omega)
  replace O_d := (own_far O_d hpw hg).leave
  replace G := G.trans hg
  replace HS := Lib.hid hs
  clear hR1 hs hg
  obtain ⟨R, rfl⟩ := Int.eq_ofNat_of_zero_le hR0
  go_wp2
  go_loopw [4, 5] (fun o i wr => ∃ (k q cp : Nat) (a' : Option Addr) (ys : List Int), i = .int .i64 k ∧ o = .slice a' q cp ∧ k ≤ 3 ∧ q + 2600 * k ≤ 7800 ∧ Own wr w1.heap.size wr.heap.size 2 1 a' q cp (ints ys) ∧ Hid (SrcOk wr p) ∧ w1.grownBy wr (some p)) (fun _ i _ => (intOf i).toNat)
  case atStart => exact ⟨R, 0, 0, _, [], rfl, rfl, by omega, by omega, O_d, HS, G⟩
  case round =>
    clear O_d HS G
    obtain ⟨k, q, cp, a', ys, rfl, rfl, hk3, hqk, O_d, HS, G⟩ := hrel
    by_cases hk : 0 < k
    · have hkI : (0 : Int) < (k : Int) := by omega
      obtain ⟨k', rfl⟩ : ∃ k', k = k' + 1 := ⟨k - 1, by omega⟩
      have hsub : ((k' + 1 : Nat) : Int) - 1 = (k' : Int) := by omega
      go_wp2_with fail
      go_at_call 54
      refine (l01Next_any _ _ _ HS.out (by omega)).mono ?_
      rintro e w3 ⟨t, rfl, ⟨ht0, ht1, -⟩, hs, hg⟩
      have ht9 := ht1 (by omega)
      replace O_d := (own_far O_d hpw hg).leave
      replace G := G.trans hg
      replace HS := Lib.hid hs
      clear ht1 hs hg
      go_upto_if 18 with (fail)
      go_cut [4] (fun o wx => ∃ (A : Option Addr) (q2 c2 : Nat) (ys2 : List Int), o = .slice A q2 c2 ∧ q2 ≤ q + 1300 ∧ Own wx w1.heap.size wx.heap.size 2 1 A q2 c2 (ints ys2) ∧ Hid (SrcOk wx p) ∧ w1.grownBy wx (some p))
      case first => as_aux_lemma =>
        by_cases ht : t = 0
        · subst ht
          refine wp_cond_true (by rfl) ?_
          go_wp2_with fail
          go_at_call 55
          refine (l25DrawBits_any _ _ _ HS.out (by omega)).mono ?_
          intro e w4 hd
          obtain ⟨aY, qY, cY, us, rfl, O_y, hqY, hs, hg⟩ := hd
          replace O_d := (own_far O_d hpw hg).leave
          replace G := G.trans hg
          replace HS := Lib.hid hs
          clear hs hg
          have hszG := G.size
          have rN := O_y.row
          have HSa := Lib.hid HS.out
          have Ga := Lib.hid G
          clear HS G
          go_wp2_with (at_builtin; refine wpList_app0 _ rfl (.tmp 19) (.tmp 21) _ rfl Try.underlying22 info_i64 rfl (by decide) rfl O_d (Nat.le_refl _) rfl rN (ints_one _) (by simp only [maxLen]; omega) (by omega) hszG ?_; intro A5 c5 w5 O2 hb _)
          have G := grown_below Ga.out hb
          have HS := Lib.hid (HSa.out.below hb hpw)
          rw [← ints_app] at O2
          replace O_d := O2
          clear O_y rN
          go_wp2_with fail
          go_meet
          exact ⟨_, _, _, _, rfl, by omega, O_d, HS, G⟩
        · have ht0b : (t == 0) = false := by simpa using ht
          clear ht
          refine wp_cond_false (by show Value.bool (t == 0) = _; rw [ht0b]) ?_
          go_wp2_with fail
          go_meet
          exact ⟨_, _, _, _, rfl, by omega, O_d, HS, G⟩
      case rest => as_aux_lemma =>
        clear O_d HS G
        obtain ⟨A, q2, c2, ys2, rfl, hq2, O_d, HS, G⟩ := hcut
        obtain ⟨w4, rfl⟩ : ∃ w4 : World, w4 = wc := ⟨_, rfl⟩
        obtain ⟨H, hH⟩ : ∃ H, w4.heap.size = H := ⟨_, rfl⟩
        have hpH : p < H := by have := HS.out.lt; omega
        go_wp2_with fail
        go_at_call 56
        refine (l25DrawStream_any _ _ HS.out).mono ?_
        intro e w5 hd
        obtain ⟨aX, qX, cX, zs, rfl, O_x, hqX, hs, hg⟩ := hd
        rw [hH] at O_x
        clear hH
        replace O_d := (own_far O_d hpw hg).leave
        replace G := G.trans hg
        replace HS := Lib.hid hs
        clear hs hg
        obtain ⟨hx1, hx2⟩ := ocap O_x
        obtain ⟨hd1, hd2⟩ := ocap O_d
        simp only [maxLen] at hx2 hd2
        have hlx := Lib.hid O_x.row.len
        go_upto_region 9 with (fail)
        go_cut [43] (fun v wx => ∃ b : Bool, v = .bool b ∧ (b = true → 8 ≤ qX) ∧ Own wx H w5.heap.size 2 1 aX qX cX (ints zs) ∧ Own wx w1.heap.size wx.heap.size 2 1 A q2 c2 (ints ys2) ∧ Hid (SrcOk wx p) ∧ w1.grownBy wx (some p))
        case first => as_aux_lemma =>
          by_cases h8 : 8 < q2
          · have h8I : (8 : Int) < ((q2 : Nat) : Int) := by omega
            have hQ : (q2 : Int) - 8 = ((q2 - 8 : Nat) : Int) := by omega
            have HQ := Lib.hid hQ
            clear hQ
            have rD := O_d.row
            go_wp2_with fail
            rw [HQ.out]
            go_at_call 64
            refine (l25At_any _ _ _ (q2 - 8) _ _ rD (by omega) hd1 (by simp only [maxLen]; omega) (by omega)).mono ?_
            rintro e w6 ⟨rfl, b⟩
            clear rD
            have hszG := G.size
            replace O_d := (O_d.below b (.inr (Nat.le_refl _))).leave
            replace O_x := O_x.below b (.inr (Nat.le_refl _))
            replace HS := Lib.hid (HS.out.below b HS.out.lt)
            replace G := grown_below G (b.mono hszG)
            clear b hszG
            cases hf1 : flagAt ys2 (q2 - 8)
            · skip
              go_wp2_with fail
              go_meet
              exact ⟨_, rfl, by intro h; first | cases h | omega, O_x, O_d, HS, G⟩
            · have rX := O_x.row
              go_wp2_with fail
              go_at_call 64
              refine (l25At_any _ _ _ 0 zs _ rX (by omega) hx1 (by simp only [maxLen]; omega) (by omega)).mono ?_
              rintro e w7 ⟨rfl, b⟩
              clear rX
              have hszG := G.size
              replace O_d := (O_d.below b (.inr (Nat.le_refl _))).leave
              replace O_x := O_x.below b (.inr (Nat.le_refl _))
              replace HS := Lib.hid (HS.out.below b HS.out.lt)
              replace G := grown_below G (b.mono hszG)
              clear b hszG
              cases hf2 : flagAt zs 0
              · skip
                go_wp2_with fail
                go_meet
                exact ⟨_, rfl, by intro h; first | cases h | omega, O_x, O_d, HS, G⟩
              · have hx8 := flagAt_near hlx.out hf2
                go_wp2_with fail
                go_at_call 54
                refine (l01Next_any _ _ _ HS.out (by omega)).mono ?_
                rintro e w8 ⟨r, rfl, ⟨hr0, hr1, -⟩, hs, hg⟩
                have hr9 := hr1 (by omega)
                replace O_d := (own_far O_d hpw hg).leave
                replace O_x := own_far O_x hpH hg
                replace G := G.trans hg
                replace HS := Lib.hid hs
                clear hr1 hs hg
                go_wp2_with fail
                go_meet
                exact ⟨_, rfl, by intro _; omega, O_x, O_d, HS, G⟩
          · have h8I : ¬ (8 : Int) < ((q2 : Nat) : Int) := by omega
            go_wp2_with fail
            go_meet
            exact ⟨_, rfl, by intro h; first | cases h | omega, O_x, O_d, HS, G⟩
        case rest => as_aux_lemma =>
          clear O_x O_d HS G
          obtain ⟨b, rfl, hb8, O_x, O_d, HS, G⟩ := hcut
          obtain ⟨w6, rfl⟩ : ∃ w6 : World, w6 = wc := ⟨_, rfl⟩
          go_upto_if 43 with (fail)
          go_cut [6] (fun o wx => ∃ (aN : Option Addr) (qN cN : Nat) (ns : List Int), o = .slice aN qN cN ∧ qN ≤ qX ∧ Row wx 1 aN qN (ints ns) ∧ Own wx w1.heap.size wx.heap.size 2 1 A q2 c2 (ints ys2) ∧ Hid (SrcOk wx p) ∧ w1.grownBy wx (some p))
          case first => as_aux_lemma =>
            have hxs : w5.heap.size ≤ w5.heap.size := by omega
            cases b
            · refine wp_cond_false (by rfl) ?_
              go_wp2_with fail
              go_meet
              exact ⟨_, _, _, _, rfl, Nat.le_refl _, O_x.row, O_d, HS, G⟩
            · have hx8 := hb8 rfl
              refine wp_cond_true (by rfl) ?_
              go_wp2_with fail
              go_at_call 57
              refine (l01Pick_any _ _ _ _ [1, 8] _ (HS.out.alloc _) (by exact Row.lit _ (ints [1, 8]) _ _ _ (by simp) (by rfl)) (by omega) (by omega) (fun b off e => by injection e with e; injection e with e _ _; have := HS.out.lt; omega)).mono ?_
              rintro e w7 ⟨v, rfl, hx, hs, hg⟩
              have hvb : v = 1 ∨ v = 8 := by simp at hx; omega
              replace O_d := (own_far (O_d.alloc (.cells #[.int .i64 (1), .int .i64 (8)] 2)) hpw hg).leave
              replace O_x := own_far (O_x.alloc (.cells #[.int .i64 (1), .int .i64 (8)] 2)) hpH hg
              replace G := (grown_alloc G (.cells #[.int .i64 (1), .int .i64 (8)] 2)).trans hg
              replace HS := Lib.hid hs
              clear hx hs hg
              obtain ⟨V, rfl⟩ := Int.eq_ofNat_of_zero_le (show 0 ≤ v by omega)
              have hV : V = 1 ∨ V = 8 := by omega
              have hVx : (V : Int) ≤ (qX : Int) := by omega
              obtain ⟨gx, rfl, -, -, -⟩ := O_x.head (by omega)
              have HRX := Lib.hid (fun (a' : Option Addr) (ha : 0 < qX - V → a' = some ⟨gx, V, none⟩) => sub_row O_x.row (show V ≤ qX by omega) ha)
              by_cases hcv : cX = V
              · have hcv2 := hcv
                go_wp2_with fail
                go_meet
                exact ⟨_, _, _, _, rfl, by omega, (HRX.out _ (fun h => by omega)), O_d, HS, G⟩
              · have hcv2 := hcv
                go_wp2_with fail
                go_meet
                exact ⟨_, _, _, _, rfl, by omega, (HRX.out _ (fun h => rfl)), O_d, HS, G⟩
          case rest => as_aux_lemma =>
            clear O_x O_d HS G
            obtain ⟨aN, qN, cN, ns, rfl, hqN, rNN, O_d, HS, G⟩ := hcut
            obtain ⟨w7, rfl⟩ : ∃ w7 : World, w7 = wc := ⟨_, rfl⟩
            go_upto_if 54 with (fail)
            by_cases hfit : (q2 : Int) + (qN : Int) ≤ 1200
            · have hfitN : q2 + qN ≤ 1200 := by omega
              refine wp_cond_true (by show Value.bool (decide _) = _; exact congrArg Value.bool (decide_eq_true hfit)) ?_
              have hszG := G.size
              have rN := rNN
              have HSa := Lib.hid HS.out
              have Ga := Lib.hid G
              clear HS G
              go_wp2_with (at_builtin; refine wpList_app0 _ rfl (.tmp 55) (.tmp 56) _ rfl Try.underlying22 info_i64 rfl (by decide) rfl O_d (Nat.le_refl _) rfl rN (ints_one _) (by simp only [maxLen]; omega) (by omega) hszG ?_; intro A8 c8 w8 O2 hb _)
              have G := grown_below Ga.out hb
              have HS := Lib.hid (HSa.out.below hb hpw)
              rw [← ints_app] at O2
              replace O_d := O2
              go_roundw
              case rel => exact ⟨k', _, _, _, (ys2 ++ ns), by go_num, rfl, by omega, by omega, O_d, HS, G⟩
              case measure => simp [intOf] <;> omega
            · refine wp_cond_false (by show Value.bool (decide _) = _; exact congrArg Value.bool (decide_eq_false hfit)) ?_
              go_wp2_with fail
              go_roundw
              case rel => exact ⟨k', _, _, _, ys2, by go_num, rfl, by omega, by omega, O_d, HS, G⟩
              case measure => simp [intOf] <;> omega
    · obtain rfl : k = 0 := by omega
      obtain ⟨hc1, hc2⟩ := ocap O_d
      go_wp2
      go_ret
      exact ⟨_, _, _, ys, rfl, O_d.row, by omega, hc1, hc2, below_next' B hp1 G⟩
end Go.Proofs.Ytmljcbfpennjkaa
