/- Frames that are drawn, whatever the code. -/
import Derived.Test.YtmljcbfpennjkaaDrawBits
import Derived.Test.YtmljcbfpennjkaaFrame
import Derived.Handy
import Derived.Deep.Cut
import Derived.Outline
namespace Go.Proofs.Ytmljcbfpennjkaa
open Go.RowKit
set_option maxRecDepth 100000
set_option linter.unusedVariables false
set_option linter.unusedSimpArgs false

def FrameDraw (p : Nat) (w : World) (e : Ending) (w' : World) : Prop := ∃ (k m : Int) (a : Option Addr) (n c : Nat) (ys : List Int), e = .returned (.agg #[.int .i64 k, .int .i64 m, .slice a n c]) ∧ Own w' w.heap.size w'.heap.size 2 1 a n c (ints ys) ∧ n ≤ 100 ∧ SrcOk w' p ∧ w.grownBy w' (some p)

theorem draw_fin {w W3 : World} {p : Nat} {cs : Array Value} (hR : Blk W3 w.heap.size 28 cs) (h3 : cs.size = 3) (hp : p < w.heap.size) (hS : SrcOk W3 p) (hG : w.grownBy W3 (some p))
    {k m : Int} {a : Option Addr} {n c hi : Nat} {ys : List Int} (hO : Own W3 (w.heap.size + 1) hi 2 1 a n c (ints ys)) {W4 : World} (e4 : ((W3.setCell ⟨w.heap.size, 0, none⟩ (.int .i64 k)).setCell ⟨w.heap.size, 1, none⟩ (.int .i64 m)).setCell ⟨w.heap.size, 2, none⟩ (.slice a n c) = W4) :
    W4.cell? ⟨w.heap.size, 0, none⟩ = some (.int .i64 k) ∧ W4.cell? ⟨w.heap.size, 1, none⟩ = some (.int .i64 m) ∧ W4.cell? ⟨w.heap.size, 2, none⟩ = some (.slice a n c) ∧ Own W4 w.heap.size W4.heap.size 2 1 a n c (ints ys) ∧ SrcOk W4 p ∧ w.grownBy W4 (some p) := by
  have hblk : Blk W4 w.heap.size 28 (((cs.setIfInBounds 0 (.int .i64 k)).setIfInBounds 1 (.int .i64 m)).setIfInBounds 2 (.slice a n c)) := by
    rw [← e4]; exact ((hR.set_ 0 _).set_ 1 _).set_ 2 _
  have hb : ∀ B, B ≤ w.heap.size → Below B W3 W4 := fun B hB => by
    rw [← e4]; exact (((Below.refl B W3).setCell (p := ⟨w.heap.size, 0, none⟩) hB _).setCell (p := ⟨w.heap.size, 1, none⟩) hB _).setCell (p := ⟨w.heap.size, 2, none⟩) hB _
  have ho4 : Own W4 (w.heap.size + 1) hi 2 1 a n c (ints ys) := by
    rw [← e4]
    exact (((hO.setFar (p := ⟨w.heap.size, 0, none⟩) (.inl (by simp)) _).setFar (p := ⟨w.heap.size, 1, none⟩) (.inl (by simp)) _).setFar (p := ⟨w.heap.size, 2, none⟩) (.inl (by simp)) _)
  have c0 := hblk.cell 0
  have c1 := hblk.cell 1
  have c2 := hblk.cell 2
  refine ⟨?_, ?_, ?_, ho4.leave.mono (by omega) (Nat.le_refl _), hS.below (hb (p + 1) hp) (Nat.lt_succ_self p), grown_below hG (hb _ (Nat.le_refl _))⟩
  · rw [c0]; simp [h3]
  · rw [c1]; simp [h3]
  · rw [c2]; simp [h3]

set_option maxHeartbeats 6400000 in
theorem l25DrawFrame_any (p : Nat) (w : World) (h : SrcOk w p) :
    Calls Try.prog 52 #[.pointer (some ⟨p, 0, none⟩)] w (FrameDraw p w) := by
  have hpw := h.lt
  have G := World.grownBy.refl w (some p)
  have HS := Lib.hid h
  clear h
  have G0 := grown_alloc G (.cells #[.int .i64 0, .int .i64 0, .slice none 0 0] 28)
  replace HS := Lib.hid (HS.out.alloc (.cells #[.int .i64 0, .int .i64 0, .slice none 0 0] 28))
  have KR := Lib.hid (Blk.new w 28 #[.int .i64 0, .int .i64 0, .slice none 0 0])
  have O_d := (Own.lit0 (w.alloc (.cells #[.int .i64 0, .int .i64 0, .slice none 0 0] 28)) 2 1).mono (lo' := w.heap.size + 1) (hi' := ((w.alloc (.cells #[.int .i64 0, .int .i64 0, .slice none 0 0] 28)).alloc (.cells #[] 2)).heap.size) (by simp) (by simp)
  simp only [World.size_alloc] at O_d
  replace G := grown_alloc G0 (.cells #[] 2)
  replace HS := Lib.hid (HS.out.alloc (.cells #[] 2))
  replace KR := Lib.hid (KR.out.alloc (.cells #[] 2))
  clear G0
  have hpl : p < w.heap.size + 1 := by omega
  go_enter Try.func52, Try.ntmps52
  go_wp2_with fail
  go_at_call 57
  refine (l01Pick_any _ _ _ _ [0, 1, 2, 3, 5, 8] _ (HS.out.alloc _) (by exact Row.lit _ (ints [0, 1, 2, 3, 5, 8]) _ _ _ (by simp) (by rfl)) (by omega) (by omega) (fun b off e => by injection e with e; injection e with e _ _; have := HS.out.lt; omega)).mono ?_
  rintro e w1 ⟨r, rfl, hx, hs, hg⟩
  have hrb : 0 ≤ r ∧ r ≤ 8 := by simp at hx; omega
  replace O_d := own_far (O_d.alloc (.cells #[.int .i64 (0), .int .i64 (1), .int .i64 (2), .int .i64 (3), .int .i64 (5), .int .i64 (8)] 2)) hpl hg
  replace O_d := O_d.leave
  replace G := (grown_alloc G (.cells #[.int .i64 (0), .int .i64 (1), .int .i64 (2), .int .i64 (3), .int .i64 (5), .int .i64 (8)] 2)).trans hg
  replace HS := Lib.hid hs
  replace KR := Lib.hid ((KR.out.alloc (.cells #[.int .i64 (0), .int .i64 (1), .int .i64 (2), .int .i64 (3), .int .i64 (5), .int .i64 (8)] 2)).grown hg (fun e => by injection e with e; omega))
  clear hx hs hg
  obtain ⟨R, hR⟩ := Int.eq_ofNat_of_zero_le hrb.1
  subst hR
  go_wp2
  go_loopw [3, 4] (fun o i wr => ∃ (k q cp : Nat) (a' : Option Addr) (ys : List Int), i = .int .i64 k ∧ o = .slice a' q cp ∧ q + k ≤ 8 ∧ Own wr (w.heap.size + 1) wr.heap.size 2 1 a' q cp (ints ys) ∧ Hid (SrcOk wr p) ∧ w.grownBy wr (some p) ∧ Hid (Blk wr w.heap.size 28 #[.int .i64 0, .int .i64 0, .slice none 0 0])) (fun _ i _ => (intOf i).toNat)
  case atStart => exact ⟨R, 0, 0, _, [], rfl, rfl, by omega, O_d, HS, G, KR⟩
  case round =>
    clear O_d HS G KR hrb
    obtain ⟨k, q, cp, a', ys, rfl, rfl, hqk, O_d, HS, G, KR⟩ := hrel
    by_cases hk : 0 < k
    · have hkI : (0 : Int) < (k : Int) := by omega
      obtain ⟨k', rfl⟩ : ∃ k', k = k' + 1 := ⟨k - 1, by omega⟩
      have hsub : ((k' + 1 : Nat) : Int) - 1 = (k' : Int) := by omega
      go_wp2_with fail
      go_at_call 54
      refine (l01Next_any _ _ _ HS.out (by omega)).mono ?_
      rintro e w2 ⟨x, rfl, ⟨hx0, hx1, -⟩, hs, hg⟩
      have hx9 := hx1 (by omega)
      replace O_d := own_far O_d hpl hg
      replace O_d := O_d.leave
      replace G := G.trans hg
      replace HS := Lib.hid hs
      replace KR := Lib.hid (KR.out.grown hg (fun e => by injection e with e; omega))
      clear hx1 hs hg
      go_wp2_with fail
      go_at_call 54
      refine (l01Next_any _ _ _ HS.out (by omega)).mono ?_
      rintro e w3 ⟨y, rfl, ⟨hy0, hy1, -⟩, hs, hg⟩
      have hy9 := hy1 (by omega)
      replace O_d := own_far O_d hpl hg
      replace O_d := O_d.leave
      replace G := G.trans hg
      replace HS := Lib.hid hs
      replace KR := Lib.hid (KR.out.grown hg (fun e => by injection e with e; omega))
      clear hy1 hs hg
      go_wp2_with fail
      go_at_call 57
      refine (l01Pick_any _ _ _ _ [0, 255, 126, 31, 248, x, y] _ (HS.out.alloc _) (by exact Row.lit _ (ints [0, 255, 126, 31, 248, x, y]) _ _ _ (by simp) (by rfl)) (by omega) (by omega) (fun b off e => by injection e with e; injection e with e _ _; have := HS.out.lt; omega)).mono ?_
      rintro e w4 ⟨v, rfl, hx, hs, hg⟩
      replace O_d := own_far (O_d.alloc (.cells #[.int .i64 (0), .int .i64 (255), .int .i64 (126), .int .i64 (31), .int .i64 (248), .int .i64 (x), .int .i64 (y)] 2)) hpl hg
      replace O_d := O_d.leave
      replace G := (grown_alloc G (.cells #[.int .i64 (0), .int .i64 (255), .int .i64 (126), .int .i64 (31), .int .i64 (248), .int .i64 (x), .int .i64 (y)] 2)).trans hg
      replace HS := Lib.hid hs
      replace KR := Lib.hid ((KR.out.alloc (.cells #[.int .i64 (0), .int .i64 (255), .int .i64 (126), .int .i64 (31), .int .i64 (248), .int .i64 (x), .int .i64 (y)] 2)).grown hg (fun e => by injection e with e; omega))
      clear hx hs hg
      have hszG := G.size
      have HSa := Lib.hid (HS.out.alloc (.cells #[.int .i64 (v)] 2))
      have Ga := Lib.hid (grown_alloc G (.cells #[.int .i64 (v)] 2))
      have KRa := Lib.hid (KR.out.alloc (.cells #[.int .i64 (v)] 2))
      have hkl := KR.out.lt
      clear HS G KR
      go_wp2_with (at_builtin; refine wpList_app _ rfl (.tmp 14) (.tmp 22) _ rfl Try.underlying22 info_i64 rfl (by decide) rfl (O_d.alloc _) rfl (Row.one _ _ _) (ints_one [v]) (by decide) (by simp only [maxLen]; omega) (by omega) (by simp; omega) ?_; intro A_d c_d w5 O2 hb _)
      have G := grown_below Ga.out (hb.mono (by omega))
      have HS := Lib.hid (HSa.out.below hb hpl)
      have KR := Lib.hid (KRa.out.below hb (by omega))
      go_roundw
      case rel => exact ⟨k', q + 1, c_d, A_d, ys ++ [v], by go_num, rfl, by omega, by rw [ints_app]; exact O2, HS, G, KR⟩
      case measure => simp [intOf] <;> omega
    · obtain rfl : k = 0 := by omega
      clear hk
      go_wp2_with fail
      go_at_call 54
      refine (l01Next_any _ _ _ HS.out (by omega)).mono ?_
      rintro e w2 ⟨k1, rfl, ⟨hk10, hk11, -⟩, hs, hg⟩
      have hk19 := hk11 (by omega)
      replace O_d := own_far O_d hpl hg
      replace O_d := O_d.leave
      replace G := G.trans hg
      replace HS := Lib.hid hs
      replace KR := Lib.hid (KR.out.grown hg (fun e => by injection e with e; omega))
      clear hk11 hs hg
      go_wp2_with fail
      go_at_call 54
      refine (l01Next_any _ _ _ HS.out (by omega)).mono ?_
      rintro e w3 ⟨m1, rfl, ⟨hm10, hm11, -⟩, hs, hg⟩
      have hm19 := hm11 (by omega)
      replace O_d := own_far O_d hpl hg
      replace O_d := O_d.leave
      replace G := G.trans hg
      replace HS := Lib.hid hs
      replace KR := Lib.hid (KR.out.grown hg (fun e => by injection e with e; omega))
      clear hm11 hs hg
      obtain ⟨X, hX⟩ : ∃ X, w3.heap.size = X := ⟨_, rfl⟩
      rw [hX] at O_d
      have hpX : p < X := by have := HS.out.lt; omega
      have hwX : w.heap.size < X := by have := KR.out.lt; omega
      have KF := Lib.hid (Blk.new' w3 28 #[.int .i64 k1, .int .i64 m1, .slice a' q cp] (g := X) hX.symm)
      replace G := grown_alloc G (.cells #[.int .i64 k1, .int .i64 m1, .slice a' q cp] 28)
      replace HS := Lib.hid (HS.out.alloc (.cells #[.int .i64 k1, .int .i64 m1, .slice a' q cp] 28))
      replace KR := Lib.hid (KR.out.alloc (.cells #[.int .i64 k1, .int .i64 m1, .slice a' q cp] 28))
      replace O_d := O_d.alloc (.cells #[.int .i64 k1, .int .i64 m1, .slice a' q cp] 28)
      go_wp2_with fail
      go_at_call 54
      refine (l01Next_any _ _ _ HS.out (by omega)).mono ?_
      rintro e w4 ⟨t, rfl, ⟨ht0, ht1, -⟩, hs, hg⟩
      have ht9 := ht1 (by omega)
      replace O_d := own_far O_d hpl hg
      replace G := G.trans hg
      replace HS := Lib.hid hs
      replace KR := Lib.hid (KR.out.grown hg (fun e => by injection e with e; omega))
      replace KF := Lib.hid (KF.out.grown hg (fun e => by injection e with e; omega))
      clear ht1 hs hg
      have hq8 : q ≤ 8 := by omega
      by_cases t0 : t = 0
      · subst t0
        go_wp2_with fail
        go_at_call 57
        refine (l01Pick_any _ _ _ _ [-1, 15, 16] _ (HS.out.alloc _) (by exact Row.lit _ (ints [-1, 15, 16]) _ _ _ (by simp) (by rfl)) (by omega) (by omega) (fun b off e => by injection e with e; injection e with e _ _; have := HS.out.lt; omega)).mono ?_
        rintro e w5 ⟨v, rfl, hx, hs, hg⟩
        replace O_d := own_far (O_d.alloc (.cells #[.int .i64 (-1), .int .i64 (15), .int .i64 (16)] 2)) hpl hg
        replace G := (grown_alloc G (.cells #[.int .i64 (-1), .int .i64 (15), .int .i64 (16)] 2)).trans hg
        replace HS := Lib.hid hs
        replace KR := Lib.hid ((KR.out.alloc (.cells #[.int .i64 (-1), .int .i64 (15), .int .i64 (16)] 2)).grown hg (fun e => by injection e with e; omega))
        replace KF := Lib.hid ((KF.out.alloc (.cells #[.int .i64 (-1), .int .i64 (15), .int .i64 (16)] 2)).grown hg (fun e => by injection e with e; omega))
        clear hx hs hg
        have u0 : w5.cell? ⟨X, 0, none⟩ = some (.int .i64 k1) := KF.out.cell 0
        have h0 := KF.out.frozen 0
        have hxl := KF.out.lt
        obtain ⟨wz, hwz⟩ : ∃ wz, w5.setCell ⟨X, 0, none⟩ (.int .i64 v) = wz := ⟨_, rfl⟩
        have KF2 := Lib.hid (show Blk wz X 28 #[.int .i64 v, .int .i64 m1, .slice a' q cp] from hwz ▸ (by have h := KF.out.set_ 0 (.int .i64 v); simpa using h))
        have KR2 := Lib.hid (show Blk wz w.heap.size 28 #[.int .i64 0, .int .i64 0, .slice none 0 0] from hwz ▸ KR.out.far (by simp; omega) _)
        have G2 := Lib.hid (show w.grownBy wz (some p) from hwz ▸ grown_below G ((Below.refl _ _).setCell (p := ⟨X, 0, none⟩) (Nat.le_of_lt hwX) _))
        have HS2 := Lib.hid (show SrcOk wz p from hwz ▸ HS.out.below ((Below.refl (p + 1) w5).setCell (p := ⟨X, 0, none⟩) hpX _) (Nat.lt_succ_self p))
        have O2 := Lib.hid (show Own wz (w.heap.size + 1) X 2 1 a' q cp (ints ys) from hwz ▸ O_d.setFar (p := ⟨X, 0, none⟩) (.inr (Nat.le_refl _)) _)
        go_upto_region 18 with (fail)
        clear hwz u0 h0 hxl KF KR G HS O_d
        have KF := KF2
        have KR := KR2
        have G := G2.out
        have HS := HS2
        have O_d := O2.out
        have u0 : wz.cell? ⟨X, 0, none⟩ = some (.int .i64 (v)) := KF.out.cell 0
        have u1 : wz.cell? ⟨X, 1, none⟩ = some (.int .i64 (m1)) := KF.out.cell 1
        have u2 : wz.cell? ⟨X, 2, none⟩ = some (.slice a' q cp) := KF.out.cell 2
        have hxl := KF.out.lt
        have HF := Lib.hid (fun W4 e4 => draw_fin (k := v) (m := m1) (a := a') (n := q) (c := cp) (ys := ys) KR.out rfl hpw HS.out G O_d (W4 := W4) e4)
        have q0 : wz.cell? ⟨w.heap.size, 0, none⟩ = some (.int .i64 0) := KR.out.cell 0
        have q1 : wz.cell? ⟨w.heap.size, 1, none⟩ = some (.int .i64 0) := KR.out.cell 1
        have q2 : wz.cell? ⟨w.heap.size, 2, none⟩ = some (.slice none 0 0) := KR.out.cell 2
        have f0 := KR.out.frozen 0
        have f1 := KR.out.frozen 1
        have f2 := KR.out.frozen 2
        have hzl := KR.out.lt
        go_wp2
        obtain ⟨z0, z1, z2, ho, hs4, hg4⟩ := HF.out _ rfl
        exact bodyPost_ret (v := .agg #[.int .i64 (v), .int .i64 (m1), .slice a' q cp]) (by simp only [results, Try.results52, Array.size]; simp [go_sem, z0, z1, z2]) rfl ⟨v, m1, a', q, cp, ys, rfl, ho, by omega, hs4, hg4⟩
      · have f0 : (t == 0) = false := by simpa using t0
        clear t0
        by_cases t1 : t = 1
        · subst t1
          go_wp2_with fail
          go_at_call 57
          refine (l01Pick_any _ _ _ _ [-1, 255, 256] _ (HS.out.alloc _) (by exact Row.lit _ (ints [-1, 255, 256]) _ _ _ (by simp) (by rfl)) (by omega) (by omega) (fun b off e => by injection e with e; injection e with e _ _; have := HS.out.lt; omega)).mono ?_
          rintro e w5 ⟨v, rfl, hx, hs, hg⟩
          replace O_d := own_far (O_d.alloc (.cells #[.int .i64 (-1), .int .i64 (255), .int .i64 (256)] 2)) hpl hg
          replace G := (grown_alloc G (.cells #[.int .i64 (-1), .int .i64 (255), .int .i64 (256)] 2)).trans hg
          replace HS := Lib.hid hs
          replace KR := Lib.hid ((KR.out.alloc (.cells #[.int .i64 (-1), .int .i64 (255), .int .i64 (256)] 2)).grown hg (fun e => by injection e with e; omega))
          replace KF := Lib.hid ((KF.out.alloc (.cells #[.int .i64 (-1), .int .i64 (255), .int .i64 (256)] 2)).grown hg (fun e => by injection e with e; omega))
          clear hx hs hg
          have u1 : w5.cell? ⟨X, 1, none⟩ = some (.int .i64 m1) := KF.out.cell 1
          have h1 := KF.out.frozen 1
          have hxl := KF.out.lt
          obtain ⟨wz, hwz⟩ : ∃ wz, w5.setCell ⟨X, 1, none⟩ (.int .i64 v) = wz := ⟨_, rfl⟩
          have KF2 := Lib.hid (show Blk wz X 28 #[.int .i64 k1, .int .i64 v, .slice a' q cp] from hwz ▸ (by have h := KF.out.set_ 1 (.int .i64 v); simpa using h))
          have KR2 := Lib.hid (show Blk wz w.heap.size 28 #[.int .i64 0, .int .i64 0, .slice none 0 0] from hwz ▸ KR.out.far (by simp; omega) _)
          have G2 := Lib.hid (show w.grownBy wz (some p) from hwz ▸ grown_below G ((Below.refl _ _).setCell (p := ⟨X, 1, none⟩) (Nat.le_of_lt hwX) _))
          have HS2 := Lib.hid (show SrcOk wz p from hwz ▸ HS.out.below ((Below.refl (p + 1) w5).setCell (p := ⟨X, 1, none⟩) hpX _) (Nat.lt_succ_self p))
          have O2 := Lib.hid (show Own wz (w.heap.size + 1) X 2 1 a' q cp (ints ys) from hwz ▸ O_d.setFar (p := ⟨X, 1, none⟩) (.inr (Nat.le_refl _)) _)
          go_upto_region 18 with (fail)
          clear hwz u1 h1 hxl KF KR G HS O_d
          have KF := KF2
          have KR := KR2
          have G := G2.out
          have HS := HS2
          have O_d := O2.out
          have u0 : wz.cell? ⟨X, 0, none⟩ = some (.int .i64 (k1)) := KF.out.cell 0
          have u1 : wz.cell? ⟨X, 1, none⟩ = some (.int .i64 (v)) := KF.out.cell 1
          have u2 : wz.cell? ⟨X, 2, none⟩ = some (.slice a' q cp) := KF.out.cell 2
          have hxl := KF.out.lt
          have HF := Lib.hid (fun W4 e4 => draw_fin (k := k1) (m := v) (a := a') (n := q) (c := cp) (ys := ys) KR.out rfl hpw HS.out G O_d (W4 := W4) e4)
          have q0 : wz.cell? ⟨w.heap.size, 0, none⟩ = some (.int .i64 0) := KR.out.cell 0
          have q1 : wz.cell? ⟨w.heap.size, 1, none⟩ = some (.int .i64 0) := KR.out.cell 1
          have q2 : wz.cell? ⟨w.heap.size, 2, none⟩ = some (.slice none 0 0) := KR.out.cell 2
          have f0 := KR.out.frozen 0
          have f1 := KR.out.frozen 1
          have f2 := KR.out.frozen 2
          have hzl := KR.out.lt
          go_wp2
          obtain ⟨z0, z1, z2, ho, hs4, hg4⟩ := HF.out _ rfl
          exact bodyPost_ret (v := .agg #[.int .i64 (k1), .int .i64 (v), .slice a' q cp]) (by simp only [results, Try.results52, Array.size]; simp [go_sem, z0, z1, z2]) rfl ⟨k1, v, a', q, cp, ys, rfl, ho, by omega, hs4, hg4⟩
        · have f1 : (t == 1) = false := by simpa using t1
          clear t1
          by_cases t2 : t = 2
          · subst t2
            clear KF hpX
            have hwX2 := hwX
            replace O_d := O_d.leave
            go_wp2
            go_loopw [3] (fun o wr => ∃ (q cp : Nat) (a' : Option Addr) (ys : List Int), o = .slice a' q cp ∧ q ≤ 26 ∧ Own wr (w.heap.size + 1) wr.heap.size 2 1 a' q cp (ints ys) ∧ Hid (SrcOk wr p) ∧ w.grownBy wr (some p) ∧ Hid (Blk wr w.heap.size 28 #[.int .i64 0, .int .i64 0, .slice none 0 0])) (fun o _ => 30 - slen o)
            case atStart => exact ⟨q, cp, a', ys, rfl, by omega, O_d, HS, G, KR⟩
            case round =>
              clear O_d HS G KR
              obtain ⟨q, cp, a', ys, rfl, hq26, O_d, HS, G, KR⟩ := hrel
              go_wp2_with fail
              go_at_call 54
              refine (l01Next_any _ _ _ HS.out (by omega)).mono ?_
              rintro e w5 ⟨s, rfl, ⟨hs0, hs1, -⟩, hs, hg⟩
              have hs9 := hs1 (by omega)
              replace O_d := own_far O_d hpl hg
              replace O_d := O_d.leave
              replace G := G.trans hg
              replace HS := Lib.hid hs
              replace KR := Lib.hid (KR.out.grown hg (fun e => by injection e with e; omega))
              clear hs1 hs hg
              by_cases hlt : (q : Int) < 24 + s
              · have hq25 : q ≤ 24 := by omega
                have hszG := G.size
                have HSa := Lib.hid (HS.out.alloc (.cells #[.int .i64 255] 2))
                have Ga := Lib.hid (grown_alloc G (.cells #[.int .i64 255] 2))
                have KRa := Lib.hid (KR.out.alloc (.cells #[.int .i64 255] 2))
                have hkl := KR.out.lt
                clear HS G KR
                go_wp2_with (at_builtin; refine wpList_app _ rfl (.tmp 52) (.tmp 53) _ rfl Try.underlying22 info_i64 rfl (by decide) rfl (O_d.alloc _) rfl (Row.one _ _ _) (ints_one [255]) (by decide) (by simp only [maxLen]; omega) (by omega) (by simp; omega) ?_; intro A_d c_d w6 O2 hb _)
                have G := grown_below Ga.out (hb.mono (by omega))
                have HS := Lib.hid (HSa.out.below hb hpl)
                have KR := Lib.hid (KRa.out.below hb (by omega))
                go_roundw
                case rel => exact ⟨q + 1, c_d, A_d, ys ++ [255], rfl, by omega, by rw [ints_app]; exact O2, HS, G, KR⟩
                case measure => simp [slen] <;> omega
              · have hnl : ¬ (q : Int) < 24 + s := hlt
                have HF := Lib.hid (fun W4 e4 => draw_fin (k := 15) (m := 255) (a := a') (n := q) (c := cp) (ys := ys) KR.out rfl hpw HS.out G O_d (W4 := W4) e4)
                have q0 : w5.cell? ⟨w.heap.size, 0, none⟩ = some (.int .i64 0) := KR.out.cell 0
                have q1 : w5.cell? ⟨w.heap.size, 1, none⟩ = some (.int .i64 0) := KR.out.cell 1
                have q2 : w5.cell? ⟨w.heap.size, 2, none⟩ = some (.slice none 0 0) := KR.out.cell 2
                have f0 := KR.out.frozen 0
                have f1 := KR.out.frozen 1
                have f2 := KR.out.frozen 2
                have hzl := KR.out.lt
                go_wp2
                obtain ⟨z0, z1, z2, ho, hs4, hg4⟩ := HF.out _ rfl
                exact bodyPost_ret (v := .agg #[.int .i64 (15), .int .i64 (255), .slice a' q cp]) (by simp only [results, Try.results52, Array.size]; simp [go_sem, z0, z1, z2]) rfl ⟨15, 255, a', q, cp, ys, rfl, ho, by omega, hs4, hg4⟩
          · have f2 : (t == 2) = false := by simpa using t2
            clear t2
            by_cases t3 : t = 3
            · subst t3
              go_wp2_with fail
              go_at_call 57
              refine (l01Pick_any _ _ _ _ [-1, 256, 255] _ (HS.out.alloc _) (by exact Row.lit _ (ints [-1, 256, 255]) _ _ _ (by simp) (by rfl)) (by omega) (by omega) (fun b off e => by injection e with e; injection e with e _ _; have := HS.out.lt; omega)).mono ?_
              rintro e w5 ⟨v, rfl, hx, hs, hg⟩
              replace O_d := own_far (O_d.alloc (.cells #[.int .i64 (-1), .int .i64 (256), .int .i64 (255)] 2)) hpl hg
              replace G := (grown_alloc G (.cells #[.int .i64 (-1), .int .i64 (256), .int .i64 (255)] 2)).trans hg
              replace HS := Lib.hid hs
              replace KR := Lib.hid ((KR.out.alloc (.cells #[.int .i64 (-1), .int .i64 (256), .int .i64 (255)] 2)).grown hg (fun e => by injection e with e; omega))
              replace KF := Lib.hid ((KF.out.alloc (.cells #[.int .i64 (-1), .int .i64 (256), .int .i64 (255)] 2)).grown hg (fun e => by injection e with e; omega))
              clear hx hs hg
              have O1 := (Own.lit1 w5 v 2).mono (lo' := w.heap.size + 1) (by have := KR.out.lt; omega) (Nat.le_refl _)
              replace G := grown_alloc G (.cells #[.int .i64 v] 2)
              replace HS := Lib.hid (HS.out.alloc (.cells #[.int .i64 v] 2))
              replace KR := Lib.hid (KR.out.alloc (.cells #[.int .i64 v] 2))
              obtain ⟨wz, hwz⟩ : ∃ wz, w5.alloc (.cells #[.int .i64 v] 2) = wz := ⟨_, rfl⟩
              obtain ⟨Y, hY⟩ : ∃ Y, w5.heap.size = Y := ⟨_, rfl⟩
              rw [hwz] at O1 G HS KR
              rw [hY] at O1
              clear KF O_d
              have HF := Lib.hid (fun W4 e4 => draw_fin (k := 0) (m := 0) (a := (some ⟨Y, 0, none⟩)) (n := 1) (c := 1) (ys := [v]) KR.out rfl hpw HS.out G O1 (W4 := W4) e4)
              have q0 : wz.cell? ⟨w.heap.size, 0, none⟩ = some (.int .i64 0) := KR.out.cell 0
              have q1 : wz.cell? ⟨w.heap.size, 1, none⟩ = some (.int .i64 0) := KR.out.cell 1
              have q2 : wz.cell? ⟨w.heap.size, 2, none⟩ = some (.slice none 0 0) := KR.out.cell 2
              have f0 := KR.out.frozen 0
              have f1 := KR.out.frozen 1
              have f2 := KR.out.frozen 2
              have hzl := KR.out.lt
              go_wp2
              obtain ⟨z0, z1, z2, ho, hs4, hg4⟩ := HF.out _ rfl
              exact bodyPost_ret (v := .agg #[.int .i64 (0), .int .i64 (0), .slice (some ⟨Y, 0, none⟩) 1 1]) (by simp only [results, Try.results52, Array.size]; simp [go_sem, z0, z1, z2]) rfl ⟨0, 0, (some ⟨Y, 0, none⟩), 1, 1, [v], rfl, ho, by omega, hs4, hg4⟩
            · have f3 : (t == 3) = false := by simpa using t3
              clear t3
              have u0 : w4.cell? ⟨X, 0, none⟩ = some (.int .i64 (k1)) := KF.out.cell 0
              have u1 : w4.cell? ⟨X, 1, none⟩ = some (.int .i64 (m1)) := KF.out.cell 1
              have u2 : w4.cell? ⟨X, 2, none⟩ = some (.slice a' q cp) := KF.out.cell 2
              have hxl := KF.out.lt
              have HF := Lib.hid (fun W4 e4 => draw_fin (k := k1) (m := m1) (a := a') (n := q) (c := cp) (ys := ys) KR.out rfl hpw HS.out G O_d (W4 := W4) e4)
              have q0 : w4.cell? ⟨w.heap.size, 0, none⟩ = some (.int .i64 0) := KR.out.cell 0
              have q1 : w4.cell? ⟨w.heap.size, 1, none⟩ = some (.int .i64 0) := KR.out.cell 1
              have q2 : w4.cell? ⟨w.heap.size, 2, none⟩ = some (.slice none 0 0) := KR.out.cell 2
              have f0 := KR.out.frozen 0
              have f1 := KR.out.frozen 1
              have f2 := KR.out.frozen 2
              have hzl := KR.out.lt
              go_wp2
              obtain ⟨z0, z1, z2, ho, hs4, hg4⟩ := HF.out _ rfl
              exact bodyPost_ret (v := .agg #[.int .i64 (k1), .int .i64 (m1), .slice a' q cp]) (by simp only [results, Try.results52, Array.size]; simp [go_sem, z0, z1, z2]) rfl ⟨k1, m1, a', q, cp, ys, rfl, ho, by omega, hs4, hg4⟩
end Go.Proofs.Ytmljcbfpennjkaa
