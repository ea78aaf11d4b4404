/- Lists of soundings that are drawn, whatever the code. -/
import Derived.Test.YtaimckepaldocaaGreatDoorDrawSnd
namespace Go.Proofs.YtaimckepaldocaaGreatDoor
open Go.RowKit
set_option maxRecDepth 100000
set_option linter.unusedVariables false

theorem made_same (z : Value) (m : Nat) : (madeCells #[z, z, z, z] m).toList = List.replicate m z := by
  apply List.ext_getElem
  · simp [size_madeCells]
  · intro i h1 h2
    have h3 : i % 4 = 0 ∨ i % 4 = 1 ∨ i % 4 = 2 ∨ i % 4 = 3 := by omega
    simp only [madeCells, Array.toList_map, List.getElem_map, Array.toList_range, List.getElem_range, List.getElem_replicate]
    show (#[z, z, z, z] : Array Value)[i % 4]! = z
    rcases h3 with h | h | h | h <;> rw [h] <;> rfl
theorem frs_zeros : ∀ n : Nat, frs (List.replicate n (0, 0, 0, 0)) = List.replicate (n * 4) (.int .i64 0)
  | 0 => rfl
  | n + 1 => by
    rw [List.replicate_succ, show (n + 1) * 4 = n * 4 + 1 + 1 + 1 + 1 by omega, List.replicate_succ, List.replicate_succ, List.replicate_succ, List.replicate_succ, ← frs_zeros n]
    rfl
theorem made_frs (n : Nat) : (madeCells #[.int .i64 0, .int .i64 0, .int .i64 0, .int .i64 0] (n * 4)).toList = frs (List.replicate n (0, 0, 0, 0)) := by
  rw [made_same, frs_zeros]
theorem fr_set : ∀ {ys : List I4} {k : Nat} {x y z u v : Int}, ys[k]? = some (x, y, z, u) → (frs ys).set (k * 4 + 2) (.int .i64 v) = frs (ys.set k (x, y, v, u))
  | [], k, _, _, _, _, _, h => by simp at h
  | a :: t, 0, x, y, z, u, v, h => by simp at h; subst h; rfl
  | a :: t, k + 1, x, y, z, u, v, h => by
    have ih := fr_set (ys := t) (k := k) (v := v) (by simpa using h)
    rw [List.set_cons_succ]
    simp only [frs, List.flatMap_cons, List.cons_append, List.nil_append] at ih ⊢
    rw [show (k + 1) * 4 + 2 = (k * 4 + 2) + 1 + 1 + 1 + 1 by omega, List.set_cons_succ, List.set_cons_succ, List.set_cons_succ, List.set_cons_succ, ih]

/-- A list of soundings that a draw hands out. -/
def SndsDraw (p : Nat) (w : World) (e : Ending) (w' : World) : Prop := ∃ (a : Option Addr) (q c : Nat) (ys : List I4), e = .returned (.slice a q c) ∧ Own w' w.heap.size w'.heap.size 38 4 a q c (frs ys) ∧ q ≤ 201 ∧ SrcOk w' p ∧ w.grownBy w' (some p)

set_option maxHeartbeats 6400000 in
theorem l21Draw_any (p : Nat) (w : World) (h : SrcOk w p) :
    Calls Tryz.prog 18 #[.pointer (some ⟨p, 0, none⟩)] w (SndsDraw p w) := by
  have hpw := h.lt
  have HS := Lib.hid (h.alloc (.cells #[] 38))
  have G := grown_alloc (World.grownBy.refl w (some p)) (.cells #[] 38)
  have O := (Own.lit0 w 38 4).mono (lo' := w.heap.size) (hi' := (w.alloc (.cells #[] 38)).heap.size) (Nat.le_refl _) (by simp)
  go_enter Tryz.func18, Tryz.ntmps18
  go_wp2_with fail
  go_at_call 19
  refine (l01Next_any _ _ _ HS.out (by omega)).mono ?_
  rintro e w1 ⟨r, rfl, ⟨hr0, hr1, -⟩, hs, hg⟩
  have hr9 : r ≤ 100 := by have := hr1 (by omega); omega
  obtain ⟨R, rfl⟩ := Int.eq_ofNat_of_zero_le hr0
  replace O := (own_far O hpw hg).leave
  replace G := G.trans hg
  replace HS := Lib.hid hs
  clear hr1 hs hg
  go_wp2
  go_loopw [3, 4] (fun o i wr => ∃ (k q cp : Nat) (a' : Option Addr) (ys : List I4), i = .int .i64 k ∧ o = .slice a' q cp ∧ q + k ≤ 100 ∧ Own wr w.heap.size wr.heap.size 38 4 a' q cp (frs ys) ∧ Hid (SrcOk wr p) ∧ w.grownBy wr (some p)) (fun _ i _ => (intOf i).toNat)
  case atStart => exact ⟨R, 0, 0, _, [], rfl, rfl, by omega, O, HS, G⟩
  case round =>
    clear O HS G
    obtain ⟨k, q, cp, a', ys, rfl, rfl, hqk, hown, hs, hgr⟩ := hrel
    have hsp := hs.out.lt
    have hsz := hgr.size
    by_cases hk : 0 < k
    · have hkI : (0 : Int) < (k : Int) := by omega
      obtain ⟨k', rfl⟩ : ∃ k', k = k' + 1 := ⟨k - 1, by omega⟩
      have hsub : ((k' + 1 : Nat) : Int) - 1 = (k' : Int) := by omega
      go_wp2_with fail
      go_at_call 38
      refine (l21DrawOne_any _ _ hs.out).mono ?_
      intro e w2 hd
      obtain ⟨x, y, d, r, rfl, hs2, hg⟩ := hd
      have O2 := ((own_far hown hpw hg).leave).alloc (.cells #[.int .i64 x, .int .i64 y, .int .i64 d, .int .i64 r] 38)
      have G2 := grown_alloc (hgr.trans hg) (.cells #[.int .i64 x, .int .i64 y, .int .i64 d, .int .i64 r] 38)
      have HS2 := Lib.hid (hs2.alloc (.cells #[.int .i64 x, .int .i64 y, .int .i64 d, .int .i64 r] 38))
      have hp2 := hs2.lt
      obtain ⟨X, hX⟩ : ∃ X, w2.heap.size = X := ⟨_, rfl⟩
      have K2 := Lib.hid (Blk.new' w2 38 #[.int .i64 x, .int .i64 y, .int .i64 d, .int .i64 r] (g := X) hX.symm)
      have hwX : w.heap.size ≤ X := by have := (hgr.trans hg).size; omega
      rw [hX] at O2
      clear hg hs2 hown hgr hs
      go_wp2_with fail
      go_at_call 37
      refine (l21Is_any _ _ _ _ _).mono ?_
      rintro e w3 ⟨rfl, hb⟩
      have O3 := (O2.below hb (.inr (by simp)))
      have G3 := G2.trans (⟨hb.os, hb.tape, hb.output, hb.size, fun j hj _ => hb.block j hj⟩ : World.grownBy _ w3 (some p))
      have HS3 := Lib.hid (HS2.out.below hb HS2.out.lt)
      have K3 := Lib.hid (K2.out.belowSelf hb)
      have hpX : p < X := by omega
      have hsz3 := hb.size
      clear O2 G2 HS2 K2 hb
      cases hok : sndOk (x, y, d, r)
      · go_wp2_with fail
        go_at_call 19
        refine (l01Next_any _ _ _ HS3.out (by omega)).mono ?_
        rintro e w4 ⟨v, rfl, ⟨hv0, -, -⟩, hs4, hg⟩
        have O4 := own_far O3 hpw hg
        have G4 := G3.trans hg
        have HS4 := Lib.hid hs4
        have K4 := Lib.hid (K3.out.grown hg (fun e => by injection e with e; omega))
        clear O3 G3 HS3 K3 hs4 hg
        by_cases hv : 0 < v
        · have u0 : w4.cell? ⟨X, 0, none⟩ = some (.int .i64 x) := K4.out.cell 0
          have u1 : w4.cell? ⟨X, 1, none⟩ = some (.int .i64 y) := K4.out.cell 1
          have u2 : w4.cell? ⟨X, 2, none⟩ = some (.int .i64 d) := K4.out.cell 2
          have u3 : w4.cell? ⟨X, 3, none⟩ = some (.int .i64 r) := K4.out.cell 3
          have g0 := K4.out.frozen 0
          have g1 := K4.out.frozen 1
          have g2 := K4.out.frozen 2
          have g3 := K4.out.frozen 3
          go_upto_region 8 with (fail)
          clear u0 u1 u2 u3 g0 g1 g2 g3
          obtain ⟨wz, hwz⟩ : ∃ wz, (((w4.setCell ⟨X, 0, none⟩ (.int .i64 5)).setCell ⟨X, 1, none⟩ (.int .i64 5)).setCell ⟨X, 2, none⟩ (.int .i64 900)).setCell ⟨X, 3, none⟩ (.int .i64 0) = wz := ⟨_, rfl⟩
          have hbz : Below X w4 wz := hwz ▸ ((((Below.refl X w4).setCell (p := ⟨X, 0, none⟩) (Nat.le_refl _) (.int .i64 5)).setCell (p := ⟨X, 1, none⟩) (Nat.le_refl _) (.int .i64 5)).setCell (p := ⟨X, 2, none⟩) (Nat.le_refl _) (.int .i64 900)).setCell (p := ⟨X, 3, none⟩) (Nat.le_refl _) (.int .i64 0)
          have K5 : Blk wz X 38 #[.int .i64 5, .int .i64 5, .int .i64 900, .int .i64 0] := hwz ▸ (by have h := (((K4.out.set_ 0 (.int .i64 5)).set_ 1 (.int .i64 5)).set_ 2 (.int .i64 900)).set_ 3 (.int .i64 0); simpa using h)
          have hzs : wz.heap.size = w4.heap.size := hwz ▸ by simp [World.setCell]
          rw [hwz]
          have O5 : Own wz w.heap.size X 38 4 a' q cp (frs ys) := O4.below hbz (.inl (Nat.le_refl _))
          have O6 := Lib.hid (O5.alloc (.cells #[.int .i64 5, .int .i64 5, .int .i64 900, .int .i64 0] 38))
          have G6 := Lib.hid (grown_alloc (grown_below G4 (hbz.mono hwX)) (.cells #[.int .i64 5, .int .i64 5, .int .i64 900, .int .i64 0] 38))
          have HS6 := Lib.hid ((HS4.out.below hbz hpX).alloc (.cells #[.int .i64 5, .int .i64 5, .int .i64 900, .int .i64 0] 38))
          have hlz := K5.lt
          have q0 : wz.cell? ⟨X, 0, none⟩ = some (.int .i64 5) := K5.cell 0
          have q1 : wz.cell? ⟨X, 1, none⟩ = some (.int .i64 5) := K5.cell 1
          have q2 : wz.cell? ⟨X, 2, none⟩ = some (.int .i64 900) := K5.cell 2
          have q3 : wz.cell? ⟨X, 3, none⟩ = some (.int .i64 0) := K5.cell 3
          clear hwz hbz K5 hzs O5 O4 G4 HS4 K4
          go_wp2_with (at_builtin; refine wpList_app _ rfl (.tmp 24) (.tmp 26) _ rfl Tryz.underlying24 info_Sounding rfl (by decide) rfl O6.out rfl (by exact Row.litK _ (frs [(5, 5, 900, 0)]) _ _ 1 4 (by simp) (by rfl)) (frs_one [(5, 5, 900, 0)]) (by decide) (by simp only [maxLen]; omega) (by omega) (by simp; omega) ?_; intro A2 c2 w7 hown7 hb7 _)
          clear q0 q1 q2 q3
          go_roundw
          case rel => exact ⟨k', q + 1, c2, A2, ys ++ [(5, 5, 900, 0)], by go_num, rfl, by omega, by rw [frs_app]; exact hown7, HS6.out.below hb7 hpw, grown_below G6.out hb7⟩
          case measure => simp [intOf] <;> omega
        · have hv2 : v = 0 := by omega
          subst hv2
          have q0 : w4.cell? ⟨X, 0, none⟩ = some (.int .i64 x) := K4.out.cell 0
          have q1 : w4.cell? ⟨X, 1, none⟩ = some (.int .i64 y) := K4.out.cell 1
          have q2 : w4.cell? ⟨X, 2, none⟩ = some (.int .i64 d) := K4.out.cell 2
          have q3 : w4.cell? ⟨X, 3, none⟩ = some (.int .i64 r) := K4.out.cell 3
          have hlz := K4.out.lt
          have O6 := Lib.hid (O4.alloc (.cells #[.int .i64 x, .int .i64 y, .int .i64 d, .int .i64 r] 38))
          have G6 := Lib.hid (grown_alloc G4 (.cells #[.int .i64 x, .int .i64 y, .int .i64 d, .int .i64 r] 38))
          have HS6 := Lib.hid (HS4.out.alloc (.cells #[.int .i64 x, .int .i64 y, .int .i64 d, .int .i64 r] 38))
          clear O4 G4 HS4 K4
          go_wp2_with (at_builtin; refine wpList_app _ rfl (.tmp 24) (.tmp 26) _ rfl Tryz.underlying24 info_Sounding rfl (by decide) rfl O6.out rfl (by exact Row.litK _ (frs [(x, y, d, r)]) _ _ 1 4 (by simp) (by rfl)) (frs_one [(x, y, d, r)]) (by decide) (by simp only [maxLen]; omega) (by omega) (by simp; omega) ?_; intro A2 c2 w7 hown7 hb7 _)
          clear q0 q1 q2 q3
          go_roundw
          case rel => exact ⟨k', q + 1, c2, A2, ys ++ [(x, y, d, r)], by go_num, rfl, by omega, by rw [frs_app]; exact hown7, HS6.out.below hb7 hpw, grown_below G6.out hb7⟩
          case measure => simp [intOf] <;> omega
      · have q0 : w3.cell? ⟨X, 0, none⟩ = some (.int .i64 x) := K3.out.cell 0
        have q1 : w3.cell? ⟨X, 1, none⟩ = some (.int .i64 y) := K3.out.cell 1
        have q2 : w3.cell? ⟨X, 2, none⟩ = some (.int .i64 d) := K3.out.cell 2
        have q3 : w3.cell? ⟨X, 3, none⟩ = some (.int .i64 r) := K3.out.cell 3
        have hlz := K3.out.lt
        have O6 := Lib.hid (O3.alloc (.cells #[.int .i64 x, .int .i64 y, .int .i64 d, .int .i64 r] 38))
        have G6 := Lib.hid (grown_alloc G3 (.cells #[.int .i64 x, .int .i64 y, .int .i64 d, .int .i64 r] 38))
        have HS6 := Lib.hid (HS3.out.alloc (.cells #[.int .i64 x, .int .i64 y, .int .i64 d, .int .i64 r] 38))
        clear O3 G3 HS3 K3
        go_wp2_with (at_builtin; refine wpList_app _ rfl (.tmp 24) (.tmp 26) _ rfl Tryz.underlying24 info_Sounding rfl (by decide) rfl O6.out rfl (by exact Row.litK _ (frs [(x, y, d, r)]) _ _ 1 4 (by simp) (by rfl)) (frs_one [(x, y, d, r)]) (by decide) (by simp only [maxLen]; omega) (by omega) (by simp; omega) ?_; intro A2 c2 w7 hown7 hb7 _)
        clear q0 q1 q2 q3
        go_roundw
        case rel => exact ⟨k', q + 1, c2, A2, ys ++ [(x, y, d, r)], by go_num, rfl, by omega, by rw [frs_app]; exact hown7, HS6.out.below hb7 hpw, grown_below G6.out hb7⟩
        case measure => simp [intOf] <;> omega
    · obtain rfl : k = 0 := by omega
      clear hk
      go_wp2_with fail
      go_at_call 19
      refine (l01Next_any _ _ _ hs.out (by omega)).mono ?_
      rintro e w4 ⟨t, rfl, -, hs4, hg⟩
      have O4 := (own_far hown hpw hg).leave
      have G4 := hgr.trans hg
      have HS4 := Lib.hid hs4
      have hsz4 := G4.size
      clear hs4 hg hown hgr hs
      by_cases t0 : t = 0
      · subst t0
        go_wp2_with fail
        go_at_call 19
        refine (l01Next_any _ _ _ HS4.out (by omega)).mono ?_
        rintro e w5 ⟨v, rfl, ⟨hv0, hv1, -⟩, hs5, hg⟩
        have hv9 := hv1 (by omega)
        obtain ⟨Z, hZ⟩ : ∃ Z : Nat, 200 + v = (Z : Int) := ⟨(200 + v).toNat, by omega⟩
        have hZ1 : Z ≤ 201 := by omega
        have G5 := Lib.hid (grown_alloc (G4.trans hg) (.cells (madeCells #[.int .i64 0, .int .i64 0, .int .i64 0, .int .i64 0] (Z * 4)) 38))
        have HS5 := Lib.hid (hs5.alloc (.cells (madeCells #[.int .i64 0, .int .i64 0, .int .i64 0, .int .i64 0] (Z * 4)) 38))
        have hm := Own.madeK w5 #[.int .i64 0, .int .i64 0, .int .i64 0, .int .i64 0] (n := Z) (E := 38) (s := 4) (by simp only [maxLen]; omega)
        rw [made_frs] at hm
        have HM := Lib.hid ((hm.leave).mono (lo' := w.heap.size) (by have := (G4.trans hg).size; omega) (Nat.le_refl _))
        have hmk := run_make_rowK (P := Tryz.prog) 24 38 info_Sounding Tryz.underlying24 Z (by omega) (by omega)
        clear hv1 hs5 hg O4 G4 HS4 hm
        go_wp2
        go_ret
        exact ⟨_, _, _, _, rfl, HM.out, by omega, HS5.out, G5.out⟩
      · have f0 : (t == 0) = false := by simpa using t0
        clear t0
        go_wp2
        go_ret
        exact ⟨_, _, _, _, rfl, O4, by omega, HS4.out, G4⟩
end Go.Proofs.YtaimckepaldocaaGreatDoor
