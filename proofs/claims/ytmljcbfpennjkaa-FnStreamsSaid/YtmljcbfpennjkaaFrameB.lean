/- FrameBits, by both programs. -/
import Derived.Test.YtmljcbfpennjkaaByte
import Derived.Test.YtmljcbfpennjkaaConcat
namespace Go.Proofs.Ytmljcbfpennjkaa
open Go.RowKit
set_option maxRecDepth 100000
set_option linter.unusedVariables false

theorem tdiv_pos' {a b : Int} (h : 0 ≤ a) : Int.tdiv a b = a / b ∧ Int.tmod a b = a % b := ⟨Int.tdiv_eq_ediv_of_nonneg h, Int.tmod_eq_emod_of_nonneg h⟩
theorem crcI_le : ∀ (xs : List Int) (R : Nat), R ≤ 65535 → crcI R xs ≤ 65535
  | [], R, h => h
  | x :: t, R, h => by
    rw [crcI]
    refine crcI_le t _ ?_
    unfold crcByte
    rw [crcBits]
    have : ∀ (j R X : Nat), R ≤ 65535 → crcBits j R X ≤ 65535 := by
      intro j
      induction j with
      | zero => intro R X h; exact h
      | succ j ih => intro R X _; rw [crcBits]; exact ih _ _ (crcStep_le _ _)
    exact this 7 _ _ (crcStep_le _ _)
theorem sumL_le (k m : Int) (xs : List Int) : sumL k m xs ≤ 65535 := crcI_le _ _ (Nat.le_refl _)
theorem bytesL_bd {k m : Int} {xs : List Int} (h : frameOk k m xs = true) : ∀ x ∈ bytesL k m xs, 0 ≤ x ∧ x ≤ 255 := by
  obtain ⟨h1, h2, h3, h4⟩ := frameOk_true h
  have h5 := sumL_le k m xs
  intro x hx
  simp only [bytesL, List.mem_append, List.mem_cons, List.not_mem_nil, or_false] at hx
  rcases hx with (h | h) | h
  · omega
  · exact h4 x h
  · omega
theorem byte_nat {k m : Int} {xs : List Int} {j : Nat} {x : Int} (h : frameOk k m xs = true) (hx : (bytesL k m xs)[j]? = some x) : ∃ X : Nat, x = (X : Int) ∧ X ≤ 255 := by
  have := bytesL_bd h x (List.mem_of_getElem? hx)
  exact ⟨x.toNat, by omega, by omega⟩
theorem bitsL_take {bs : List Int} {j : Nat} {x : Int} (hx : bs[j]? = some x) : bitsL (bs.take (j + 1)) = bitsL (bs.take j) ++ byteL x.toNat := by
  rw [take_snoc hx, bitsL_snoc]
theorem bitsL_take_len (bs : List Int) (j : Nat) : (bitsL (bs.take j)).length ≤ 8 * j := by
  rw [bitsL_length, List.length_take]; omega

set_option maxHeartbeats 3200000 in
theorem frame_impl (k m : Int) (a : Option Addr) (n c : Nat) (xs : List Int) (w : World) (h : Row w 1 a n (ints xs)) (hok : frameOk k m xs = true) :
    Calls Try.prog 45 #[.agg #[.int .i64 k, .int .i64 m, .slice a n c]] w fun e w' => ∃ a' q c', e = .returned (.slice a' q c') ∧ Own w' w.heap.size w'.heap.size 2 1 a' q c' (ints (frameL k m xs)) ∧ Below w.heap.size w w' := by
  obtain ⟨hk, hm, hxl, hxs⟩ := frameOk_true hok
  have HOK := Lib.hid hok
  have HXS := Lib.hid hxs
  have hn : n ≤ 24 := by have := h.len; omega
  have hnl := Lib.hid h.len
  have B := (((Below.refl w.heap.size w).alloc (Nat.le_refl _) (.cells #[.int .i64 k, .int .i64 m, .slice a n c] 28)).alloc (by simp) (.cells #[.int .i64 k, .int .i64 m] 2)).alloc (by simp; omega) (.cells #[.slice (some ⟨w.heap.size + 1, 0, none⟩) 2 2, .slice a n c] 22)
  have R2 : Row (((w.alloc (.cells #[.int .i64 k, .int .i64 m, .slice a n c] 28)).alloc (.cells #[.int .i64 k, .int .i64 m] 2)).alloc (.cells #[.slice (some ⟨w.heap.size + 1, 0, none⟩) 2 2, .slice a n c] 22)) 1 (some ⟨w.heap.size + 1, 0, none⟩) 2 (ints [k, m]) := (Row.lit (w.alloc (.cells #[.int .i64 k, .int .i64 m, .slice a n c] 28)) (ints [k, m]) 2 (w.heap.size + 1) 2 (by simp) (by rfl)).alloc _
  have R3 := h.below B (Nat.le_refl _)
  obtain ⟨ps, hps⟩ : ∃ ps : List Part, ps = [(some ⟨w.heap.size + 1, 0, none⟩, 2, 2, [k, m]), (a, n, c, xs)] := ⟨_, rfl⟩
  have R1 : Row (((w.alloc (.cells #[.int .i64 k, .int .i64 m, .slice a n c] 28)).alloc (.cells #[.int .i64 k, .int .i64 m] 2)).alloc (.cells #[.slice (some ⟨w.heap.size + 1, 0, none⟩) 2 2, .slice a n c] 22)) 1 (some ⟨w.heap.size + 1 + 1, 0, none⟩) 2 (parts ps) := by rw [hps]; exact Row.lit ((w.alloc (.cells #[.int .i64 k, .int .i64 m, .slice a n c] 28)).alloc (.cells #[.int .i64 k, .int .i64 m] 2)) (parts [(some ⟨w.heap.size + 1, 0, none⟩, 2, 2, [k, m]), (a, n, c, xs)]) 22 (w.heap.size + 1 + 1) 2 (by simp) (by rfl)
  have HRS : RowsOf (((w.alloc (.cells #[.int .i64 k, .int .i64 m, .slice a n c] 28)).alloc (.cells #[.int .i64 k, .int .i64 m] 2)).alloc (.cells #[.slice (some ⟨w.heap.size + 1, 0, none⟩) 2 2, .slice a n c] 22)) ps := by
    rw [hps]
    intro p hp
    simp only [List.mem_cons, List.not_mem_nil, or_false] at hp
    rcases hp with rfl | rfl
    · exact R2
    · exact R3
  have HJ := Lib.hid (show joinP ps = [k, m] ++ xs by rw [hps]; simp [joinP])
  have HSm := Lib.hid (show sumP ps = 2 + n by rw [hps]; simp [sumP])
  have HRS2 := Lib.hid HRS
  clear HRS hps
  have HB := Lib.hid B
  have H1 := Lib.hid R1
  clear B R1 R2 R3 hok hxs hxl
  go_enter Try.func45, Try.ntmps45
  go_wp2_with fail
  go_at_call 72
  refine (concat_any _ _ _ ps _ H1.out HRS2.out (by omega) (by have := HSm.out; omega) (by have := HSm.out; omega)).mono ?_
  rintro e w1 ⟨a1, n1, c1, rfl, O1, b⟩
  rw [HJ.out] at O1
  have B := HB.out.trans (b.mono HB.out.size)
  replace O1 := O1.mono (lo' := w.heap.size) HB.out.size (Nat.le_refl _)
  have hn1 : n1 ≤ 26 := by have h1 := O1.row.len; have h2 := hnl.out; simp at h1; omega
  clear b HB H1 HRS2 HSm HJ
  have hal : ∀ x ∈ [k, m] ++ xs, 0 ≤ x ∧ x ≤ 255 := by
    intro x hx
    simp only [List.mem_append, List.mem_cons, List.not_mem_nil, or_false] at hx
    rcases hx with h | h
    · omega
    · exact HXS.out x h
  have hR2 : crcI 65535 ([k, m] ++ xs) ≤ 65535 := crcI_le _ _ (Nat.le_refl _)
  have hbytes : bytesL k m xs = [k, m] ++ xs ++ [((crcI 65535 ([k, m] ++ xs) / 256 : Nat) : Int), ((crcI 65535 ([k, m] ++ xs) % 256 : Nat) : Int)] := rfl
  generalize [k, m] ++ xs = ys at *
  have r1 := O1.row
  go_wp2_with fail
  go_at_call 59
  refine (check_any _ _ _ _ _ r1 (by omega) hal).mono ?_
  rintro e w2 ⟨rfl, rfl⟩
  generalize crcI 65535 ys = R at *
  have hb8 : bits .and .i64 (R : Int) 255 = (R : Int) % 256 := band8 R (by omega)
  have HBY := Lib.hid (show bytesL k m xs = ys ++ [(R : Int) / 256, (R : Int) % 256] from hbytes)
  have hsz := B.size
  clear hbytes hal r1
  go_wp2_with (at_builtin; refine wpList_app _ rfl (.tmp 19) (.tmp 24) _ rfl Try.underlying22 info_i64 rfl (by decide) rfl (O1.alloc _) rfl (by exact Row.lit _ (ints [(R : Int) / 256, (R : Int) % 256]) _ _ 2 (by simp) (by rfl)) (ints_one _) (by decide) (by simp only [maxLen]; omega) (by omega) (by simp; omega) ?_; intro A3 c3 w3 O3 hb3 _)
  rw [← ints_app, ← HBY.out] at O3
  have B3 := (B.alloc B.size (.cells #[.int .i64 ((R : Int) / 256), .int .i64 ((R : Int) % 256)] 2)).trans hb3
  have HLl := Lib.hid (show (bytesL k m xs).length = n1 + 2 from O3.row.len)
  have HO3 := Lib.hid O3.row
  obtain ⟨bs, hbs⟩ : ∃ bs, bytesL k m xs = bs := ⟨_, rfl⟩
  have HN := Lib.hid (fun (j : Nat) (x : Int) => byte_nat (j := j) (x := x) HOK.out)
  rw [hbs] at HLl HO3 HN
  have HBS := Lib.hid hbs
  obtain ⟨w4, hw4⟩ : ∃ w4, w3 = w4 := ⟨_, rfl⟩
  clear O3 O1 hb3 B hb8 HBY hbs
  subst hw4
  go_loopw [5, 7, 27] (fun o _ i wr => ∃ (j q cp : Nat) (a' : Option Addr), j ≤ n1 + 2 ∧ i = .int .i64 j ∧ o = .slice a' q cp ∧ Own wr w3.heap.size wr.heap.size 2 1 a' q cp (ints (bitsL (bs.take j))) ∧ Below w3.heap.size w3 wr) (fun _ _ i _ => n1 + 2 - (intOf i).toNat)
  case atStart => exact ⟨0, 0, _, _, Nat.zero_le _, rfl, rfl, by simpa [bitsL, ints] using Own.nil_ _ _ _ _ _, Below.refl _ _⟩
  case round =>
    obtain ⟨j, q, cp, a1, hj, rfl, rfl, O, BB⟩ := hrel
    have hzs := BB.size
    by_cases hjt : j < n1 + 2
    · have hjI : (j : Int) < (n1 : Int) + 2 := by omega
      obtain ⟨b, off, x, rfl, hc, hx⟩ := (HO3.out.below BB (Nat.le_refl _)).at_ hjt
      obtain ⟨X, rfl, hX⟩ := HN.out _ _ hx.out
      have HT := Lib.hid (bitsL_take hx.out)
      have hq : q ≤ 8 * j := by have := O.row.len; have := bitsL_take_len bs j; omega
      clear hx
      go_wp2_with fail
      go_at_call 73
      refine (bitsOf8_any _ _ (by omega)).mono ?_
      rintro e w5 ⟨a5, c5, rfl, O5, b5⟩
      have hz5 := b5.size
      go_wp2_with (at_builtin; refine wpList_app _ rfl (.tmp 31) (.tmp 33) _ rfl Try.underlying22 info_i64 rfl (by decide) rfl (O.below b5 (.inr (Nat.le_refl _))) rfl O5.row (ints_one _) (by decide) (by simp only [maxLen]; omega) (by omega) (by omega) ?_; intro A6 c6 w6 O6 hb6 _)
      go_roundw
      case rel => exact ⟨j + 1, _, _, _, by omega, by go_num, rfl, by rw [HT.out, ints_app, Int.toNat_natCast]; exact O6, (BB.trans (b5.mono hzs)).trans hb6⟩
      case measure => simp [intOf] <;> omega
    · have hjI : ¬ (j : Int) < (n1 : Int) + 2 := by omega
      rw [List.take_of_length_le (by have := HLl.out; omega)] at O
      have hql : q ≤ 224 := by have := O.row.len; rw [bitsL_length, HLl.out] at this; omega
      go_wp2_with fail
      go_at_call 74
      refine (flag_impl _).mono ?_
      rintro e w5 ⟨a5, c5, rfl, O5, b5⟩
      have O := O.below b5 (.inr (Nat.le_refl _))
      replace BB := BB.trans (b5.mono BB.size)
      have r := O.row
      clear b5
      go_wp2_with fail
      go_at_call 75
      refine (stuff_any _ _ _ _ _ r (by omega)).mono ?_
      rintro e w6 ⟨a6, n6, c6, rfl, O6, b6⟩
      replace O5 := O5.below b6 (.inr (Nat.le_refl _))
      replace BB := BB.trans (b6.mono BB.size)
      have hl6 : n6 ≤ 448 := by have := O6.row.len; have := stuffL_len 0 (bitsL bs); rw [bitsL_length, HLl.out] at this; omega
      clear b6 O r
      go_wp2_with fail
      go_at_call 74
      refine (flag_impl _).mono ?_
      rintro e w7 ⟨a7, c7, rfl, O7, b7⟩
      replace O5 := O5.below b7 (.inr (Nat.le_refl _))
      replace O6 := O6.below b7 (.inr (Nat.le_refl _))
      replace BB := BB.trans (b7.mono BB.size)
      obtain ⟨ps, hps⟩ : ∃ ps : List Part, ps = [(a5, 8, c5, flagL), (a6, n6, c6, stuffL 0 (bitsL bs)), (a7, 8, c7, flagL)] := ⟨_, rfl⟩
      have HR := Lib.hid (by rw [hps]; exact Row.lit w7 (parts [(a5, 8, c5, flagL), (a6, n6, c6, stuffL 0 (bitsL bs)), (a7, 8, c7, flagL)]) 22 w7.heap.size 3 rfl (by rfl) : Row (w7.alloc (.cells #[.slice a5 8 c5, .slice a6 n6 c6, .slice a7 8 c7] 22)) 1 (some ⟨w7.heap.size, 0, none⟩) 3 (parts ps))
      have HRS : RowsOf (w7.alloc (.cells #[.slice a5 8 c5, .slice a6 n6 c6, .slice a7 8 c7] 22)) ps := by
        rw [hps]
        intro p hp
        simp only [List.mem_cons, List.not_mem_nil, or_false] at hp
        rcases hp with rfl | rfl | rfl
        · exact O5.row.alloc _
        · exact O6.row.alloc _
        · exact O7.row.alloc _
      have HJ := Lib.hid (show joinP ps = frameL k m xs by rw [hps, frameL, HBS.out]; simp [joinP])
      have HSm := Lib.hid (show sumP ps = n6 + 16 by rw [hps]; simp [sumP]; omega)
      have HRS2 := Lib.hid HRS
      have BF := Lib.hid (BB.alloc BB.size (.cells #[.slice a5 8 c5, .slice a6 n6 c6, .slice a7 8 c7] 22))
      clear HRS O5 O6 O7 b7 hps BB
      go_wp2_with fail
      go_at_call 72
      refine (concat_any _ _ _ ps _ HR.out HRS2.out (by omega) (by have := HSm.out; omega) (by have := HSm.out; omega)).mono ?_
      rintro e w8 ⟨a8, n8, c8, rfl, O8, b8⟩
      rw [HJ.out] at O8
      have hs3 := B3.size
      go_wp2
      go_ret
      exact ⟨_, _, _, rfl, O8.mono (by have := BF.out.size; omega) (Nat.le_refl _), B3.trans ((BF.out.trans (b8.mono BF.out.size)).mono hs3)⟩

theorem byteL_take (X : Nat) {j : Nat} (hj : j < 8) : (byteL X).take (8 - j) = (byteL X).take (8 - (j + 1)) ++ [((X / 2 ^ j % 2 : Nat) : Int)] := by
  obtain ⟨i, hi⟩ : ∃ i, 8 - (j + 1) = i := ⟨_, rfl⟩
  rw [hi, show 8 - j = i + 1 by omega, take_snoc (byteL_get X (show i < 8 by omega)), show 7 - i = j by omega]

set_option maxHeartbeats 3200000 in
theorem frame_spec (k m : Int) (a : Option Addr) (n c : Nat) (xs : List Int) (w : World) (h : Row w 1 a n (ints xs)) (hok : frameOk k m xs = true) :
    Calls Try.prog 44 #[.agg #[.int .i64 k, .int .i64 m, .slice a n c]] w fun e w' => ∃ a' q c', e = .returned (.slice a' q c') ∧ Own w' w.heap.size w'.heap.size 2 1 a' q c' (ints (frameL k m xs)) ∧ Below w.heap.size w w' := by
  obtain ⟨hk, hm, hxl, hxs⟩ := frameOk_true hok
  have HOK := Lib.hid hok
  have HXS := Lib.hid hxs
  have hn : n ≤ 24 := by have := h.len; omega
  have hnl := Lib.hid h.len
  have B := ((Below.refl w.heap.size w).alloc (Nat.le_refl _) (.cells #[.int .i64 k, .int .i64 m, .slice a n c] 28)).alloc (by simp) (.cells #[.int .i64 k, .int .i64 m] 2)
  have O0 : Own ((w.alloc (.cells #[.int .i64 k, .int .i64 m, .slice a n c] 28)).alloc (.cells #[.int .i64 k, .int .i64 m] 2)) w.heap.size ((w.alloc (.cells #[.int .i64 k, .int .i64 m, .slice a n c] 28)).alloc (.cells #[.int .i64 k, .int .i64 m] 2)).heap.size 2 1 (some ⟨w.heap.size + 1, 0, none⟩) 2 2 (ints [k, m]) := by
    have := (Own.litE (w.alloc (.cells #[.int .i64 k, .int .i64 m, .slice a n c] 28)) (ints [k, m]) 2 (n := 2) (by rfl) (by simp only [maxLen]; omega)).mono (lo' := w.heap.size) (by simp) (Nat.le_refl _)
    simpa [ints] using this
  have R3 := h.below B (Nat.le_refl _)
  have hle : w.heap.size ≤ ((w.alloc (.cells #[.int .i64 k, .int .i64 m, .slice a n c] 28)).alloc (.cells #[.int .i64 k, .int .i64 m] 2)).heap.size := B.size
  clear hok hxs hxl
  go_enter Try.func44, Try.ntmps44
  go_wp2_with (at_builtin; refine wpList_app0 _ rfl (.tmp 12) (.tmp 14) _ rfl Try.underlying22 info_i64 rfl (by decide) (by rfl) O0 (Nat.le_refl _) (by rfl) R3 (ints_one _) (by simp only [maxLen]; omega) (by omega) hle ?_; intro A1 c1 w1 O1 hb1 _)
  rw [← ints_app] at O1
  replace B := B.trans hb1
  have hn1 := h.len
  clear hb1 R3 O0 hle
  have hal : ∀ x ∈ [k, m] ++ xs, 0 ≤ x ∧ x ≤ 255 := by
    intro x hx
    simp only [List.mem_append, List.mem_cons, List.not_mem_nil, or_false] at hx
    rcases hx with h | h
    · omega
    · exact HXS.out x h
  have hR2 : crcI 65535 ([k, m] ++ xs) ≤ 65535 := crcI_le _ _ (Nat.le_refl _)
  have hbytes : bytesL k m xs = [k, m] ++ xs ++ [((crcI 65535 ([k, m] ++ xs) / 256 : Nat) : Int), ((crcI 65535 ([k, m] ++ xs) % 256 : Nat) : Int)] := rfl
  generalize [k, m] ++ xs = ys at *
  have r1 := O1.row
  go_wp2_with fail
  go_at_call 61
  refine (l25Check_any _ _ _ _ _ r1 (by omega) hal).mono ?_
  rintro e w2 ⟨rfl, rfl⟩
  generalize crcI 65535 ys = R at *
  have HBY := Lib.hid (show bytesL k m xs = ys ++ [(R : Int) / 256, (R : Int) % 256] from hbytes)
  have hsz := B.size
  have hq := (tdiv_pos' (b := 256) (show (0 : Int) ≤ (R : Int) by omega)).1
  have hr := (tdiv_pos' (b := 256) (show (0 : Int) ≤ (R : Int) by omega)).2
  clear hbytes hal r1
  go_wp2_with (at_builtin; refine wpList_app _ rfl (.tmp 18) (.tmp 23) _ rfl Try.underlying22 info_i64 rfl (by decide) rfl (O1.alloc _) rfl (by exact Row.lit _ (ints [(R : Int) / 256, (R : Int) % 256]) _ _ 2 (by simp) (by rfl)) (ints_one _) (by decide) (by simp only [maxLen]; omega) (by omega) (by simp; omega) ?_; intro A3 c3 w3 O3 hb3 _)
  rw [← ints_app, ← HBY.out] at O3
  have B3 := (B.alloc B.size (.cells #[.int .i64 ((R : Int) / 256), .int .i64 ((R : Int) % 256)] 2)).trans hb3
  have HLl := Lib.hid (show (bytesL k m xs).length = 2 + n + 2 from O3.row.len)
  have HO3 := Lib.hid O3.row
  obtain ⟨bs, hbs⟩ : ∃ bs, bytesL k m xs = bs := ⟨_, rfl⟩
  have HN := Lib.hid (fun (j : Nat) (x : Int) => byte_nat (j := j) (x := x) HOK.out)
  rw [hbs] at HLl HO3 HN
  have HBS := Lib.hid hbs
  have OL := (Own.lit0 w3 2 1).leave
  have BL := (Below.refl w3.heap.size w3).alloc (Nat.le_refl _) (.cells #[] 2)
  clear O3 O1 hb3 B HBY hbs hq hr
  go_loopw [5, 6] (fun o i wr => ∃ (j q cp : Nat) (a' : Option Addr), j ≤ 2 + n + 2 ∧ i = .int .i64 j ∧ o = .slice a' q cp ∧ Own wr w3.heap.size wr.heap.size 2 1 a' q cp (ints (bitsL (bs.take j))) ∧ Below w3.heap.size w3 wr) (fun _ i _ => 2 + n + 2 - (intOf i).toNat)
  case atStart => exact ⟨0, 0, _, _, Nat.zero_le _, rfl, rfl, by simpa [bitsL, ints] using OL, BL⟩
  case round =>
    clear OL BL
    obtain ⟨j, q, cp, a1, hj, rfl, rfl, O, BB⟩ := hrel
    have hzs := BB.size
    by_cases hjt : j < 2 + n + 2
    · have hjI : (j : Int) < 2 + (n : Int) + 2 := by omega
      obtain ⟨b, off, x, rfl, -, hx⟩ := HO3.out.at_ hjt
      obtain ⟨X, rfl, hX⟩ := HN.out _ _ hx.out
      have HT := Lib.hid (bitsL_take hx.out)
      have hq : q ≤ 8 * j := by have := O.row.len; have := bitsL_take_len bs j; omega
      obtain ⟨wo, hwo⟩ : ∃ wo, wo = wr := ⟨_, rfl⟩
      subst hwo
      go_wp2
      go_loopw [5, 7] (fun o i wi => ∃ (r p cp : Nat) (a' : Option Addr), r ≤ 8 ∧ i = .int .u64 (r : Int) ∧ o = .slice a' p cp ∧ p + r ≤ q + 8 ∧ Own wi w3.heap.size wi.heap.size 2 1 a' p cp (ints (bitsL (bs.take j) ++ (byteL X).take (8 - r))) ∧ Below w3.heap.size w3 wi) (fun _ i _ => (intOf i).toNat)
      case atStart => exact ⟨8, _, _, _, by omega, rfl, rfl, by omega, by simpa using O, BB⟩
      case round =>
        clear O BB
        obtain ⟨r, p, cp, a1, hr8, rfl, rfl, hpr, O, BB⟩ := hrel
        have hzs := BB.size
        rcases r with _ | r
        · have hfull : (byteL X).take (8 - 0) = byteL X := List.take_of_length_le (by rw [byteL_length]; omega)
          rw [hfull] at O
          go_wp2
          go_roundw
          case rel => exact ⟨j + 1, _, _, _, by omega, by go_num, rfl, by rw [HT.out, Int.toNat_natCast]; exact O, BB⟩
          case measure => simp [intOf] <;> omega
        · have hc := (HO3.out.below BB (Nat.le_refl _)).get_ hx.out
          have hb := bit_and1 X r (by omega)
          have HS := Lib.hid (byteL_take X (j := r) (by omega))
          go_wp2_with (at_builtin; refine wpList_app _ rfl (.tmp 36) (.tmp 45) _ rfl Try.underlying22 info_i64 rfl (by decide) rfl (O.alloc _) rfl (Row.one _ _ _) (ints_one [((X / 2 ^ r % 2 : Nat) : Int)]) (by decide) (by simp only [maxLen]; omega) (by omega) (by simp; omega) ?_; intro A6 c6 w6 O6 hb6 _)
          go_roundw
          case rel => exact ⟨r, _, _, _, by omega, by go_num, rfl, by omega, by rw [HS.out, ← List.append_assoc, ints_app]; exact O6, (BB.alloc (by omega) _).trans hb6⟩
          case measure => simp [intOf] <;> omega
    · have hjI : ¬ (j : Int) < 2 + (n : Int) + 2 := by omega
      rw [List.take_of_length_le (by have := HLl.out; omega)] at O
      have hql : q ≤ 224 := by have := O.row.len; rw [bitsL_length, HLl.out] at this; omega
      go_wp2_with fail
      go_at_call 70
      refine (flag_spec _).mono ?_
      rintro e w5 ⟨a5, c5, rfl, O5, b5⟩
      have O := O.below b5 (.inr (Nat.le_refl _))
      replace BB := BB.trans (b5.mono BB.size)
      replace O5 := O5.mono (lo' := w3.heap.size) hzs (Nat.le_refl _)
      have r := O.row
      clear b5
      go_wp2_with fail
      go_at_call 71
      refine (l25Stuff_any _ _ _ _ _ r (by omega)).mono ?_
      rintro e w6 ⟨a6, n6, c6, rfl, O6, b6⟩
      replace O5 := (O5.below b6 (.inr (Nat.le_refl _))).leave
      replace BB := BB.trans (b6.mono BB.size)
      have hl6 : n6 ≤ 448 := by have := O6.row.len; have := stuffL_len 0 (bitsL bs); rw [bitsL_length, HLl.out] at this; omega
      have r6 := O6.row
      have hz6 := BB.size
      clear b6 O r O6
      go_wp2_with (at_builtin; refine wpList_app0 _ rfl (.tmp 47) (.tmp 49) _ rfl Try.underlying22 info_i64 rfl (by decide) rfl O5 (Nat.le_refl _) rfl r6 (ints_one _) (by simp only [maxLen]; omega) (by omega) hz6 ?_; intro A7 c7 w7 O7 hb7 _)
      rw [← ints_app] at O7
      replace BB := BB.trans hb7
      clear hb7 O5 r6 hz6
      go_at_call 70
      refine (flag_spec _).mono ?_
      rintro e w8 ⟨a8, c8, rfl, O8, b8⟩
      replace O7 := (O7.below b8 (.inr (Nat.le_refl _))).leave
      replace BB := BB.trans (b8.mono BB.size)
      have r8 := O8.row
      have hz8 := BB.size
      clear b8 O8
      go_wp2_with (at_builtin; refine wpList_app0 _ rfl (.tmp 50) (.tmp 51) _ rfl Try.underlying22 info_i64 rfl (by decide) rfl O7 (Nat.le_refl _) rfl r8 (ints_one _) (by simp only [maxLen]; omega) (by omega) hz8 ?_; intro A9 c9 w9 O9 hb9 _)
      rw [← ints_app] at O9
      have HJ := Lib.hid (show flagL ++ stuffL 0 (bitsL bs) ++ flagL = frameL k m xs by rw [frameL, HBS.out])
      rw [HJ.out] at O9
      have hs3 := B3.size
      go_ret
      exact ⟨_, _, _, rfl, O9.mono hs3 (Nat.le_refl _), B3.trans ((BB.trans hb9).mono hs3)⟩
end Go.Proofs.Ytmljcbfpennjkaa
