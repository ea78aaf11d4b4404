/- Streams of bits that are drawn, whatever the code. -/
import Derived.Test.YtmljcbfpennjkaaDrawFrame
import Derived.Test.YtmljcbfpennjkaaFrameB
import Derived.Test.YtmljcbfpennjkaaReadA
import Derived.Test.YtmljcbfpennjkaaDamage
namespace Go.Proofs.Ytmljcbfpennjkaa
open Go.RowKit
set_option maxRecDepth 100000
set_option linter.unusedVariables false
set_option linter.unusedSimpArgs false

theorem stuffL_small : ∀ (o : Nat) (xs : List Int), Small01 xs → Small01 (stuffL o xs)
  | _, [], _ => by intro x hx; simp [stuffL] at hx
  | o, b :: t, h => by
    have hb := h b (by simp)
    have ht : Small01 t := fun x hx => h x (List.mem_cons_of_mem _ hx)
    have h1 := stuffL_small 0 t ht
    have h2 := stuffL_small (ons o b) t ht
    intro x hx
    rw [stuffL] at hx
    split at hx
    · rcases List.mem_cons.1 hx with rfl | hx
      · exact hb
      · rcases List.mem_cons.1 hx with rfl | hx
        · omega
        · exact h1 x hx
    · rcases List.mem_cons.1 hx with rfl | hx
      · exact hb
      · exact h2 x hx
theorem flagL_small : Small01 flagL := by intro x hx; simp [flagL] at hx; omega
theorem frameL_small (k m : Int) (xs : List Int) : Small01 (frameL k m xs) := by
  intro x hx
  simp only [frameL, List.mem_append] at hx
  rcases hx with (h | h) | h
  · exact flagL_small x h
  · exact stuffL_small 0 _ (bitsL_small _) x h
  · exact flagL_small x h
theorem Own.takeK {w : World} {lo hi E g n c k : Nat} {xs : List Int} (h : Own w lo hi E 1 (some ⟨g, 0, none⟩) n c (ints xs)) (hk : k ≤ n) : Own w lo hi E 1 (some ⟨g, 0, none⟩) k c (ints (xs.take k)) := by
  have hl := h.row.len
  refine ⟨⟨by simp [ints]; omega, ?_⟩, fun b hb => h.2 b hb⟩
  rcases h.1.2 with ⟨hv, _⟩ | ⟨g1, cap, cur, hv, h1, h2, h3, h4, h5, h6⟩
  · simp at hv
  · simp only [Value.slice.injEq, Option.some.injEq, Addr.mk.injEq] at hv
    obtain ⟨⟨e1, -, -⟩, -, e3⟩ := hv
    subst e1; subst e3
    refine .inr ⟨g, c, cur, rfl, h1, h2, by omega, h4, h5, ?_⟩
    have e : ints (xs.take k) = (ints xs).take k := by simp [ints, List.map_take]
    rw [e, ← h6, List.take_take, Nat.mul_one, Nat.mul_one, Nat.min_eq_left hk]
theorem ocap {w : World} {lo hi E s n c : Nat} {a : Option Addr} {vs : List Value} (h : Own w lo hi E s a n c vs) : n ≤ c ∧ c ≤ maxLen := by
  rcases h.1.2 with ⟨hv, h0⟩ | ⟨g, cap, cur, hv, _, _, hnc, hcm, _⟩
  · injection hv with _ h1 h2; simp only [maxLen]; omega
  · injection hv with _ h1 h2; subst h2; omega
theorem frameOk_one : frameOk 1 0 [] = true := by decide
theorem rises_one {n : Nat} {r : Int} (h0 : 0 ≤ r) (h1 : r < n) : rises n none [r] = true := by simp [rises, gapOk, h0, h1]

set_option maxHeartbeats 6400000 in
/-- The bits of a stream, one of which is perhaps inverted; or some of them. -/
theorem l25DrawStream_any (p : Nat) (w : World) (h : SrcOk w p) :
    Calls Try.prog 56 #[.pointer (some ⟨p, 0, none⟩)] w (ListDraw p w) := by
  have hpw := h.lt
  go_enter Try.func56, Try.ntmps56
  go_wp2_with fail
  go_at_call 52
  refine (l25DrawFrame_any _ _ h).mono ?_
  intro e w1 hd
  obtain ⟨k, m, a, n, c, ys, rfl, O, hn, hs, G⟩ := hd
  obtain ⟨X, hX⟩ : ∃ X, w1.heap.size = X := ⟨_, rfl⟩
  have hwX : w.heap.size ≤ X := by have := G.size; omega
  have hpX : p < X := by have := hs.lt; omega
  have KF := Lib.hid (Blk.new' w1 28 #[.int .i64 k, .int .i64 m, .slice a n c] (g := X) hX.symm)
  have HS := Lib.hid (hs.alloc (.cells #[.int .i64 k, .int .i64 m, .slice a n c] 28))
  replace G := grown_alloc G (.cells #[.int .i64 k, .int .i64 m, .slice a n c] 28)
  have rO := O.row.alloc (.cells #[.int .i64 k, .int .i64 m, .slice a n c] 28)
  rw [hX] at O
  replace O := O.alloc (.cells #[.int .i64 k, .int .i64 m, .slice a n c] 28)
  clear hs
  go_wp2_with fail
  go_at_call 35
  refine (isFrame_spec _ _ _ _ _ _ _ rO (by omega)).mono ?_
  rintro e w2 ⟨rfl, b⟩
  replace KF := Lib.hid (KF.out.belowSelf b)
  replace HS := Lib.hid (HS.out.below b HS.out.lt)
  have hsz2 := G.size
  replace G := grown_below G (b.mono hsz2)
  replace O := O.below b (.inr (Nat.le_refl _))
  clear b rO
  cases hok0 : frameOk k m ys
  · have u0 : w2.cell? ⟨X, 0, none⟩ = some (.int .i64 k) := KF.out.cell 0
    have u1 : w2.cell? ⟨X, 1, none⟩ = some (.int .i64 m) := KF.out.cell 1
    have u2 : w2.cell? ⟨X, 2, none⟩ = some (.slice a n c) := KF.out.cell 2
    have f0 := KF.out.frozen 0
    have f1 := KF.out.frozen 1
    have f2 := KF.out.frozen 2
    have hxl := KF.out.lt
    obtain ⟨wz, hwz⟩ : ∃ wz, ((w2.setCell ⟨X, 0, none⟩ (.int .i64 1)).setCell ⟨X, 1, none⟩ (.int .i64 0)).setCell ⟨X, 2, none⟩ (.slice none 0 0) = wz := ⟨_, rfl⟩
    have KF2 := Lib.hid (show Blk wz X 28 #[.int .i64 1, .int .i64 0, .slice none 0 0] from hwz ▸ (by have h := ((KF.out.set_ 0 (.int .i64 1)).set_ 1 (.int .i64 0)).set_ 2 (.slice none 0 0); simpa using h))
    have G2 := Lib.hid (show w.grownBy wz (some p) from hwz ▸ grown_below G ((((Below.refl _ _).setCell (p := ⟨X, 0, none⟩) hwX _).setCell (p := ⟨X, 1, none⟩) hwX _).setCell (p := ⟨X, 2, none⟩) hwX _))
    have HS2 := Lib.hid (show SrcOk wz p from hwz ▸ HS.out.below ((((Below.refl (p + 1) w2).setCell (p := ⟨X, 0, none⟩) hpX _).setCell (p := ⟨X, 1, none⟩) hpX _).setCell (p := ⟨X, 2, none⟩) hpX _) (Nat.lt_succ_self p))
    go_upto_region 4 with (fail)
    clear hwz u0 u1 u2 f0 f1 f2 hxl KF G HS O
    have KF := KF2
    have G := G2.out
    have HS := HS2
    clear KF2 G2 HS2
    have hok1 := frameOk_one
    have u0 : wz.cell? ⟨X, 0, none⟩ = some (.int .i64 1) := KF.out.cell 0
    have u1 : wz.cell? ⟨X, 1, none⟩ = some (.int .i64 0) := KF.out.cell 1
    have u2 : wz.cell? ⟨X, 2, none⟩ = some (.slice none 0 0) := KF.out.cell 2
    have hxl := KF.out.lt
    go_wp2_with fail
    go_at_call 44
    refine (frame_spec _ _ _ _ _ [] _ Row.nil_ hok1).mono ?_
    rintro e w4 ⟨aB, nB, cB, rfl, OB, bB⟩
    have hszG := G.size
    have HS4 := Lib.hid (HS.out.below bB HS.out.lt)
    have G4 := grown_below G (bB.mono hszG)
    replace OB := OB.mono (lo' := w.heap.size) hszG (Nat.le_refl _)
    have hnB : nB ≤ 464 := by have h1 := OB.row.len; have h2 := frameL_le (k := 1) (m := 0) (frameOk_len hok1); omega
    have hnB2 : 16 ≤ nB := by have h1 := OB.row.len; have h2 := frameL_length 1 0 []; omega
    have HSM := Lib.hid (frameL_small 1 0 [])
    generalize frameL 1 0 [] = bs at *
    clear u0 u1 u2 hxl KF HS G bB
    go_wp2_with fail
    go_at_call 54
    refine (l01Next_any _ _ _ HS4.out (by omega)).mono ?_
    rintro e w5 ⟨t, rfl, ⟨ht0, ht1, -⟩, hs, hg⟩
    replace OB := (own_far OB hpw hg).leave
    replace G4 := G4.trans hg
    have HS5 := Lib.hid hs
    clear ht1 hs hg HS4
    by_cases t0 : t = 0
    · subst t0
      go_wp2_with fail
      go_at_call 54
      refine (l01Next_any _ _ _ HS5.out (by omega)).mono ?_
      rintro e w6 ⟨r, rfl, ⟨hr0, hr1, -⟩, hs, hg⟩
      have hr9 := hr1 (by omega)
      replace OB := (own_far OB hpw hg).leave
      replace G4 := grown_alloc (G4.trans hg) (.cells #[.int .i64 r] 2)
      have HS6 := Lib.hid (hs.alloc (.cells #[.int .i64 r] 2))
      have rB := OB.row.alloc (.cells #[.int .i64 r] 2)
      have rP := Row.one w6 (.int .i64 r) 2
      clear hr1 hs hg HS5
      go_wp2_with fail
      go_at_call 69
      refine (l25Damage_any _ _ _ _ _ _ _ [r] _ rB (by exact rP) (by omega) (by omega) HSM.out (rises_one hr0 hr9)).mono ?_
      rintro e w7 ⟨aD, cD, rfl, OD, bD⟩
      have hszG4 := G4.size
      go_wp2
      go_ret
      exact ⟨_, _, _, _, rfl, OD.mono hszG4 (Nat.le_refl _), by omega, HS6.out.below bD HS6.out.lt, grown_below G4 (bD.mono hszG4)⟩
    · have f0 : (t == 0) = false := by simpa using t0
      clear t0
      by_cases t1 : t = 1
      · subst t1
        go_wp2_with fail
        go_at_call 54
        refine (l01Next_any _ _ _ HS5.out (by omega)).mono ?_
        rintro e w6 ⟨r, rfl, ⟨hr0, hr1, -⟩, hs, hg⟩
        have hr9 := hr1 (by omega)
        replace OB := (own_far OB hpw hg).leave
        replace G4 := G4.trans hg
        obtain ⟨R, rfl⟩ := Int.eq_ofNat_of_zero_le hr0
        obtain ⟨g, rfl, -, -, -⟩ := OB.head (by omega)
        have hcap := (ocap OB).1
        have g1 : (R : Int) ≤ (cB : Int) := by omega
        have OT := Lib.hid (OB.takeK (k := R) (by omega))
        have HS6 := Lib.hid hs
        clear hr1 hs hg OB
        go_wp2
        go_ret
        exact ⟨_, _, _, _, rfl, OT.out, by omega, HS6.out, G4⟩
      · have f1 : (t == 1) = false := by simpa using t1
        clear t1
        go_wp2
        go_ret
        exact ⟨_, _, _, _, rfl, OB, by omega, HS5.out, G4⟩
  · have HOK := Lib.hid hok0
    have rF := O.row
    clear O
    have u0 : w2.cell? ⟨X, 0, none⟩ = some (.int .i64 k) := KF.out.cell 0
    have u1 : w2.cell? ⟨X, 1, none⟩ = some (.int .i64 m) := KF.out.cell 1
    have u2 : w2.cell? ⟨X, 2, none⟩ = some (.slice a n c) := KF.out.cell 2
    have hxl := KF.out.lt
    go_wp2_with fail
    go_at_call 44
    refine (frame_spec _ _ _ _ _ ys _ rF HOK.out).mono ?_
    rintro e w4 ⟨aB, nB, cB, rfl, OB, bB⟩
    have hszG := G.size
    have HS4 := Lib.hid (HS.out.below bB HS.out.lt)
    have G4 := grown_below G (bB.mono hszG)
    replace OB := OB.mono (lo' := w.heap.size) hszG (Nat.le_refl _)
    have hnB : nB ≤ 464 := by have h1 := OB.row.len; have h2 := frameL_le (k := k) (m := m) (frameOk_len HOK.out); omega
    have hnB2 : 16 ≤ nB := by have h1 := OB.row.len; have h2 := frameL_length k m ys; omega
    have HSM := Lib.hid (frameL_small k m ys)
    generalize frameL k m ys = bs at *
    clear u0 u1 u2 hxl KF HS G bB
    go_wp2_with fail
    go_at_call 54
    refine (l01Next_any _ _ _ HS4.out (by omega)).mono ?_
    rintro e w5 ⟨t, rfl, ⟨ht0, ht1, -⟩, hs, hg⟩
    replace OB := (own_far OB hpw hg).leave
    replace G4 := G4.trans hg
    have HS5 := Lib.hid hs
    clear ht1 hs hg HS4
    by_cases t0 : t = 0
    · subst t0
      go_wp2_with fail
      go_at_call 54
      refine (l01Next_any _ _ _ HS5.out (by omega)).mono ?_
      rintro e w6 ⟨r, rfl, ⟨hr0, hr1, -⟩, hs, hg⟩
      have hr9 := hr1 (by omega)
      replace OB := (own_far OB hpw hg).leave
      replace G4 := grown_alloc (G4.trans hg) (.cells #[.int .i64 r] 2)
      have HS6 := Lib.hid (hs.alloc (.cells #[.int .i64 r] 2))
      have rB := OB.row.alloc (.cells #[.int .i64 r] 2)
      have rP := Row.one w6 (.int .i64 r) 2
      clear hr1 hs hg HS5
      go_wp2_with fail
      go_at_call 69
      refine (l25Damage_any _ _ _ _ _ _ _ [r] _ rB (by exact rP) (by omega) (by omega) HSM.out (rises_one hr0 hr9)).mono ?_
      rintro e w7 ⟨aD, cD, rfl, OD, bD⟩
      have hszG4 := G4.size
      go_wp2
      go_ret
      exact ⟨_, _, _, _, rfl, OD.mono hszG4 (Nat.le_refl _), by omega, HS6.out.below bD HS6.out.lt, grown_below G4 (bD.mono hszG4)⟩
    · have f0 : (t == 0) = false := by simpa using t0
      clear t0
      by_cases t1 : t = 1
      · subst t1
        go_wp2_with fail
        go_at_call 54
        refine (l01Next_any _ _ _ HS5.out (by omega)).mono ?_
        rintro e w6 ⟨r, rfl, ⟨hr0, hr1, -⟩, hs, hg⟩
        have hr9 := hr1 (by omega)
        replace OB := (own_far OB hpw hg).leave
        replace G4 := G4.trans hg
        obtain ⟨R, rfl⟩ := Int.eq_ofNat_of_zero_le hr0
        obtain ⟨g, rfl, -, -, -⟩ := OB.head (by omega)
        have hcap := (ocap OB).1
        have g1 : (R : Int) ≤ (cB : Int) := by omega
        have OT := Lib.hid (OB.takeK (k := R) (by omega))
        have HS6 := Lib.hid hs
        clear hr1 hs hg OB
        go_wp2
        go_ret
        exact ⟨_, _, _, _, rfl, OT.out, by omega, HS6.out, G4⟩
      · have f1 : (t == 1) = false := by simpa using t1
        clear t1
        go_wp2
        go_ret
        exact ⟨_, _, _, _, rfl, OB, by omega, HS5.out, G4⟩
end Go.Proofs.Ytmljcbfpennjkaa
