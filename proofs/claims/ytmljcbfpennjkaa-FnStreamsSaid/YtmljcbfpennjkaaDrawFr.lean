/- What the laws of frames draw, whatever the code. -/
import Derived.Test.YtmljcbfpennjkaaDrawStream
namespace Go.Proofs.Ytmljcbfpennjkaa
open Go.RowKit
set_option maxRecDepth 100000
set_option linter.unusedVariables false
set_option linter.unusedSimpArgs false

def BitDraw (w : World) (e : Ending) (w' : World) : Prop := ∃ (a : Option Addr) (q c : Nat) (ys : List Int), e = .returned (.slice a q c) ∧ Row w' 1 a q (ints ys) ∧ q ≤ 9000 ∧ q ≤ c ∧ c ≤ maxLen ∧ Below w.heap.size w w'
def FrDraw (w : World) (e : Ending) (w' : World) : Prop := ∃ (k m : Int) (a : Option Addr) (n c : Nat) (ys : List Int), e = .returned (.agg #[.int .i64 k, .int .i64 m, .slice a n c]) ∧ Row w' 1 a n (ints ys) ∧ n ≤ 100 ∧ Below w.heap.size w w'
def TwoBits (w : World) (e : Ending) (w' : World) : Prop := ∃ (a : Option Addr) (q c : Nat) (xs : List Int) (b : Option Addr) (r d : Nat) (ys : List Int), e = .returned (.tuple #[.slice a q c, .slice b r d]) ∧ Row w' 1 a q (ints xs) ∧ Row w' 1 b r (ints ys) ∧ q ≤ 1300 ∧ r ≤ 100 ∧ Below w.heap.size w w'

theorem fr_fin {w W3 : World} {cs : Array Value} (hR : Blk W3 w.heap.size 28 cs) (h3 : cs.size = 3) (hB : Below w.heap.size w W3)
    {k m : Int} {a : Option Addr} {n c : Nat} {ys : List Int} (hO : Own W3 (w.heap.size + 1) W3.heap.size 2 1 a n c (ints ys)) {W4 : World} (e4 : ((W3.setCell ⟨w.heap.size, 0, none⟩ (.int .i64 k)).setCell ⟨w.heap.size, 1, none⟩ (.int .i64 m)).setCell ⟨w.heap.size, 2, none⟩ (.slice a n c) = W4) :
    W4.cell? ⟨w.heap.size, 0, none⟩ = some (.int .i64 k) ∧ W4.cell? ⟨w.heap.size, 1, none⟩ = some (.int .i64 m) ∧ W4.cell? ⟨w.heap.size, 2, none⟩ = some (.slice a n c) ∧ Own W4 w.heap.size W4.heap.size 2 1 a n c (ints ys) ∧ Below w.heap.size w W4 := by
  have hblk : Blk W4 w.heap.size 28 (((cs.setIfInBounds 0 (.int .i64 k)).setIfInBounds 1 (.int .i64 m)).setIfInBounds 2 (.slice a n c)) := by
    rw [← e4]; exact ((hR.set_ 0 _).set_ 1 _).set_ 2 _
  have hb4 : Below w.heap.size w W4 := by
    rw [← e4]; exact ((hB.setCell (p := ⟨w.heap.size, 0, none⟩) (Nat.le_refl _) _).setCell (p := ⟨w.heap.size, 1, none⟩) (Nat.le_refl _) _).setCell (p := ⟨w.heap.size, 2, none⟩) (Nat.le_refl _) _
  have ho4 : Own W4 (w.heap.size + 1) W4.heap.size 2 1 a n c (ints ys) := by
    rw [← e4]
    exact (((hO.setFar (p := ⟨w.heap.size, 0, none⟩) (.inl (by simp)) _).setFar (p := ⟨w.heap.size, 1, none⟩) (.inl (by simp)) _).setFar (p := ⟨w.heap.size, 2, none⟩) (.inl (by simp)) _).leave
  have c0 := hblk.cell 0
  have c1 := hblk.cell 1
  have c2 := hblk.cell 2
  refine ⟨?_, ?_, ?_, ho4.mono (by omega) (Nat.le_refl _), hb4⟩
  · rw [c0]; simp [h3]
  · rw [c1]; simp [h3]
  · rw [c2]; simp [h3]

set_option maxHeartbeats 3200000 in
theorem drawFrameBits_any (a : Option Addr) (n c : Nat) (bs : List Nat) (w : World) (h : Code8 w a n bs) :
    Calls Try.prog 27 #[.slice a n c] w (FrDraw w) := by
  have B0 := (Below.refl w.heap.size w).alloc (Nat.le_refl _) (.cells #[.int .i64 0, .int .i64 0, .slice none 0 0] 28)
  have K0 := Lib.hid (Blk.new w 28 #[.int .i64 0, .int .i64 0, .slice none 0 0])
  have HC := Lib.hid (h.below B0 (Nat.le_refl _))
  go_enter Try.func27, Try.ntmps27
  go_wp2_with fail
  go_at_call 53
  refine (l01From_any _ _ _ _ _ HC.out).mono ?_
  rintro e w1 ⟨p, rfl, hp, hs, b⟩
  replace K0 := Lib.hid (K0.out.belowSelf b)
  have hsz := B0.size
  have B1 := B0.trans (b.mono hsz)
  have hp1 : w.heap.size + 1 ≤ p := by simp at hp; omega
  clear hp b
  go_wp2_with fail
  go_at_call 52
  refine (l25DrawFrame_any _ _ hs).mono ?_
  intro e w2 hd
  obtain ⟨k, m, a1, n1, c1, ys, rfl, O, hn, hs2, hg⟩ := hd
  have B2 := Lib.hid (below_next' B1 (by omega) hg)
  replace K0 := Lib.hid (K0.out.grown hg (fun e => by injection e with e; omega))
  have q0 : w2.cell? ⟨w.heap.size, 0, none⟩ = some (.int .i64 0) := K0.out.cell 0
  have q1 : w2.cell? ⟨w.heap.size, 1, none⟩ = some (.int .i64 0) := K0.out.cell 1
  have q2 : w2.cell? ⟨w.heap.size, 2, none⟩ = some (.slice none 0 0) := K0.out.cell 2
  have f0 := K0.out.frozen 0
  have f1 := K0.out.frozen 1
  have f2 := K0.out.frozen 2
  have hzl := K0.out.lt
  have OR := Lib.hid (O.mono (lo' := w.heap.size + 1) (by have := B1.size; have := hs.lt; omega) (Nat.le_refl _))
  have HF := Lib.hid (fun W4 e4 => fr_fin (k := k) (m := m) (a := a1) (n := n1) (c := c1) (ys := ys) K0.out rfl B2.out OR.out (W4 := W4) e4)
  clear hg hs2 O hs B1
  go_wp2
  obtain ⟨z0, z1, z2, ho, hb⟩ := HF.out _ rfl
  exact bodyPost_ret (v := .agg #[.int .i64 k, .int .i64 m, .slice a1 n1 c1]) (by simp only [results, Try.results27, Array.size]; simp [go_sem, z0, z1, z2]) rfl ⟨k, m, a1, n1, c1, ys, rfl, ho.row, hn, hb⟩

set_option maxHeartbeats 3200000 in
theorem drawReadFrame_any (a : Option Addr) (n c : Nat) (bs : List Nat) (w : World) (h : Code8 w a n bs) :
    Calls Try.prog 28 #[.slice a n c] w (BitDraw w) := by
  go_enter Try.func28, Try.ntmps28
  go_wp2_with fail
  go_at_call 53
  refine (l01From_any _ _ _ _ _ h).mono ?_
  rintro e w1 ⟨p, rfl, hp, hs, B⟩
  have hp1 : w.heap.size ≤ p := by omega
  clear hp
  go_wp2_with fail
  go_at_call 54
  refine (l01Next_any _ _ _ hs (by omega)).mono ?_
  rintro e w2 ⟨t, rfl, -, hs2, hg⟩
  replace B := below_next' B hp1 hg
  have HS := Lib.hid hs2
  clear hs hs2 hg
  by_cases t0 : t = 0
  · subst t0
    go_wp2_with fail
    go_at_call 55
    refine (l25DrawBits_any _ _ _ HS.out (by omega)).mono ?_
    intro e w3 hd
    obtain ⟨a1, q, c1, ys, rfl, O, hq, -, hg⟩ := hd
    obtain ⟨h1, h2⟩ := ocap O
    replace B := below_next' B hp1 hg
    go_wp2
    go_ret
    exact ⟨_, _, _, ys, rfl, O.row, by omega, h1, h2, B⟩
  · have f0 : (t == 0) = false := by simpa using t0
    clear t0
    go_wp2_with fail
    go_at_call 56
    refine (l25DrawStream_any _ _ HS.out).mono ?_
    intro e w3 hd
    obtain ⟨a1, q, c1, ys, rfl, O, hq, -, hg⟩ := hd
    obtain ⟨h1, h2⟩ := ocap O
    replace B := below_next' B hp1 hg
    go_wp2
    go_ret
    exact ⟨_, _, _, ys, rfl, O.row, by omega, h1, h2, B⟩

set_option maxHeartbeats 6400000 in
theorem drawFrameCheck_any (a : Option Addr) (n c : Nat) (bs : List Nat) (w : World) (h : Code8 w a n bs) :
    Calls Try.prog 29 #[.slice a n c] w (BitDraw w) := by
  go_enter Try.func29, Try.ntmps29
  go_wp2_with fail
  go_at_call 53
  refine (l01From_any _ _ _ _ _ h).mono ?_
  rintro e w1 ⟨p, rfl, hp, hs, B⟩
  have hp1 : w.heap.size ≤ p := by omega
  have hpw := hs.lt
  have HS := Lib.hid hs
  have G := World.grownBy.refl w1 (some p)
  clear hp hs
  have O_d := (Own.lit0 w1 2 1).mono (lo' := w1.heap.size) (hi' := (w1.alloc (.cells #[] 2)).heap.size) (by have := G.size; omega) (by simp)
  replace G := grown_alloc G (.cells #[] 2)
  replace HS := Lib.hid (HS.out.alloc (.cells #[] 2))
  go_wp2_with fail
  go_at_call 54
  refine (l01Next_any _ _ _ HS.out (by omega)).mono ?_
  rintro e w2 ⟨R, rfl, ⟨hR0, hR1, -⟩, hs, hg⟩
  have hR9 := hR1 (by omega)
  replace O_d := (own_far O_d hpw hg).leave
  replace G := G.trans hg
  replace HS := Lib.hid hs
  clear hR1 hs hg
  obtain ⟨R, rfl⟩ := Int.eq_ofNat_of_zero_le hR0
  go_wp2
  go_loopw [4, 5] (fun o i wr => ∃ (k q cp : Nat) (a' : Option Addr) (ys : List Int), i = .int .i64 k ∧ o = .slice a' q cp ∧ q + k ≤ 12 ∧ Own wr w1.heap.size wr.heap.size 2 1 a' q cp (ints ys) ∧ Hid (SrcOk wr p) ∧ w1.grownBy wr (some p)) (fun _ i _ => (intOf i).toNat)
  case atStart => exact ⟨R, 0, 0, _, [], rfl, rfl, by omega, O_d, HS, G⟩
  case round =>
    clear O_d HS G
    obtain ⟨k, q, cp, a', ys, rfl, rfl, hqk, O_d, HS, G⟩ := hrel
    by_cases hk : 0 < k
    · have hkI : (0 : Int) < (k : Int) := by omega
      obtain ⟨k', rfl⟩ : ∃ k', k = k' + 1 := ⟨k - 1, by omega⟩
      have hsub : ((k' + 1 : Nat) : Int) - 1 = (k' : Int) := by omega
      go_wp2_with fail
      go_at_call 54
      refine (l01Next_any _ _ _ HS.out (by omega)).mono ?_
      rintro e w3 ⟨x, rfl, ⟨hx0, hx1, -⟩, hs, hg⟩
      have hx9 := hx1 (by omega)
      replace O_d := (own_far O_d hpw hg).leave
      replace G := G.trans hg
      replace HS := Lib.hid hs
      clear hx1 hs hg
      have hszG := G.size
      have HSa := Lib.hid (HS.out.alloc (.cells #[.int .i64 (x)] 2))
      have Ga := Lib.hid (grown_alloc G (.cells #[.int .i64 (x)] 2))
      clear HS G
      go_wp2_with (at_builtin; refine wpList_app _ rfl (.tmp 15) (.tmp 18) _ rfl Try.underlying22 info_i64 rfl (by decide) rfl (O_d.alloc _) rfl (Row.one _ _ _) (ints_one [x]) (by decide) (by simp only [maxLen]; omega) (by omega) (by simp; omega) ?_; intro A_d c_d w4 O2 hb _)
      have G := grown_below Ga.out hb
      have HS := Lib.hid (HSa.out.below hb hpw)
      go_roundw
      case rel => exact ⟨k', q + 1, c_d, A_d, ys ++ [x], by go_num, rfl, by omega, by rw [ints_app]; exact O2, HS, G⟩
      case measure => simp [intOf] <;> omega
    · obtain rfl : k = 0 := by omega
      clear hk
      go_wp2_with fail
      go_at_call 54
      refine (l01Next_any _ _ _ HS.out (by omega)).mono ?_
      rintro e w3 ⟨t, rfl, ⟨ht0, ht1, -⟩, hs, hg⟩
      have ht9 := ht1 (by omega)
      replace O_d := (own_far O_d hpw hg).leave
      replace G := G.trans hg
      replace HS := Lib.hid hs
      clear ht1 hs hg
      by_cases t0 : t = 0
      · subst t0
        go_wp2_with fail
        go_at_call 57
        refine (l01Pick_any _ _ _ _ [-1, 255, 256] _ (HS.out.alloc _) (by exact Row.lit _ (ints [-1, 255, 256]) _ _ _ (by simp) (by rfl)) (by omega) (by omega) (fun b off e => by injection e with e; injection e with e _ _; have := HS.out.lt; omega)).mono ?_
        rintro e w4 ⟨x, rfl, hx, hs, hg⟩
        replace O_d := (own_far (O_d.alloc (.cells #[.int .i64 (-1), .int .i64 (255), .int .i64 (256)] 2)) hpw hg).leave
        replace G := (grown_alloc G (.cells #[.int .i64 (-1), .int .i64 (255), .int .i64 (256)] 2)).trans hg
        replace HS := Lib.hid hs
        clear hx hs hg
        have hszG := G.size
        have HSa := Lib.hid (HS.out.alloc (.cells #[.int .i64 (x)] 2))
        have Ga := Lib.hid (grown_alloc G (.cells #[.int .i64 (x)] 2))
        clear HS G
        go_wp2_with (at_builtin; refine wpList_app _ rfl (.tmp 24) (.tmp 28) _ rfl Try.underlying22 info_i64 rfl (by decide) rfl (O_d.alloc _) rfl (Row.one _ _ _) (ints_one [x]) (by decide) (by simp only [maxLen]; omega) (by omega) (by simp; omega) ?_; intro A_d c_d w5 O2 hb _)
        have G := grown_below Ga.out hb
        have HS := Lib.hid (HSa.out.below hb hpw)
        have O3 : Own w5 w1.heap.size w5.heap.size 2 1 A_d (q + 1) c_d (ints (ys ++ [x])) := by rw [ints_app]; exact O2
        obtain ⟨hc1, hc2⟩ := ocap O3
        go_wp2
        go_ret
        exact ⟨_, _, _, ys ++ [x], rfl, O3.row, by omega, hc1, hc2, below_next' B hp1 G⟩
      · have f0 : (t == 0) = false := by simpa using t0
        clear t0
        by_cases t1 : t = 1
        · subst t1
          go_wp2
          go_loopw [4] (fun o wr => ∃ (q cp : Nat) (a' : Option Addr) (ys : List Int), o = .slice a' q cp ∧ q ≤ 30 ∧ Own wr w1.heap.size wr.heap.size 2 1 a' q cp (ints ys) ∧ Hid (SrcOk wr p) ∧ w1.grownBy wr (some p)) (fun o _ => 40 - slen o)
          case atStart => exact ⟨q, cp, a', ys, rfl, by omega, O_d, HS, G⟩
          case round =>
            clear O_d HS G
            obtain ⟨q, cp, a', ys, rfl, hq30, O_d, HS, G⟩ := hrel
            go_wp2_with fail
            go_at_call 54
            refine (l01Next_any _ _ _ HS.out (by omega)).mono ?_
            rintro e w4 ⟨s, rfl, ⟨hs0, hs1, -⟩, hs, hg⟩
            have hs9 := hs1 (by omega)
            replace O_d := (own_far O_d hpw hg).leave
            replace G := G.trans hg
            replace HS := Lib.hid hs
            clear hs1 hs hg
            by_cases hlt : (q : Int) < 28 + s
            · have hq25 : q ≤ 29 := by omega
              have hszG := G.size
              have HSa := Lib.hid (HS.out.alloc (.cells #[.int .i64 (7)] 2))
              have Ga := Lib.hid (grown_alloc G (.cells #[.int .i64 (7)] 2))
              clear HS G
              go_wp2_with (at_builtin; refine wpList_app _ rfl (.tmp 38) (.tmp 39) _ rfl Try.underlying22 info_i64 rfl (by decide) rfl (O_d.alloc _) rfl (Row.one _ _ _) (ints_one [7]) (by decide) (by simp only [maxLen]; omega) (by omega) (by simp; omega) ?_; intro A_d c_d w5 O2 hb _)
              have G := grown_below Ga.out hb
              have HS := Lib.hid (HSa.out.below hb hpw)
              go_roundw
              case rel => exact ⟨q + 1, c_d, A_d, ys ++ [7], rfl, by omega, by rw [ints_app]; exact O2, HS, G⟩
              case measure => simp [slen] <;> omega
            · have hnl : ¬ (q : Int) < 28 + s := hlt
              obtain ⟨hc1, hc2⟩ := ocap O_d
              go_wp2
              go_ret
              exact ⟨_, _, _, ys, rfl, O_d.row, by omega, hc1, hc2, below_next' B hp1 G⟩
        · have f1 : (t == 1) = false := by simpa using t1
          clear t1
          obtain ⟨hc1, hc2⟩ := ocap O_d
          go_wp2
          go_ret
          exact ⟨_, _, _, ys, rfl, O_d.row, by omega, hc1, hc2, below_next' B hp1 G⟩

set_option maxHeartbeats 6400000 in
theorem drawDamageBits_any (a : Option Addr) (n c : Nat) (bs : List Nat) (w : World) (h : Code8 w a n bs) :
    Calls Try.prog 40 #[.slice a n c] w (TwoBits w) := by
  go_enter Try.func40, Try.ntmps40
  go_wp2_with fail
  go_at_call 53
  refine (l01From_any _ _ _ _ _ h).mono ?_
  rintro e w1 ⟨p, rfl, hp, hs, B⟩
  have hp1 : w.heap.size ≤ p := by omega
  have hpw := hs.lt
  have HS := Lib.hid hs
  have G := World.grownBy.refl w1 (some p)
  clear hp hs
  go_wp2_with fail
  go_at_call 56
  refine (l25DrawStream_any _ _ HS.out).mono ?_
  intro e w2 hd
  obtain ⟨aX, qX, cX, zs, rfl, O_x, hqX, hs, hg⟩ := hd
  replace G := G.trans hg
  replace HS := Lib.hid hs
  clear hs hg
  obtain ⟨H, hH⟩ : ∃ H, w2.heap.size = H := ⟨_, rfl⟩
  rw [hH] at O_x
  have hpH : p < H := by have := HS.out.lt; omega
  have hw1H : w1.heap.size ≤ H := by have := G.size; omega
  have O_d := (Own.lit0 w2 2 1).mono (lo' := H) (hi' := (w2.alloc (.cells #[] 2)).heap.size) (by omega) (by simp)
  rw [hH] at O_d
  replace O_x := O_x.alloc (.cells #[] 2)
  replace G := grown_alloc G (.cells #[] 2)
  replace HS := Lib.hid (HS.out.alloc (.cells #[] 2))
  have HH := Lib.hid hH
  have hHw : H ≤ (w2.alloc (.cells #[] 2)).heap.size := by simp; omega
  go_wp2_with fail
  go_at_call 54
  refine (l01Next_any _ _ _ HS.out (by omega)).mono ?_
  rintro e w3 ⟨R, rfl, ⟨hR0, hR1, -⟩, hs, hg⟩
  have hR9 := hR1 (by omega)
  replace hHw := Nat.le_trans (Nat.le_trans hHw (Nat.le_refl _)) hg.size
  replace O_d := (own_far O_d hpH hg).leave
  replace O_x := own_far O_x hpw hg
  replace G := G.trans hg
  replace HS := Lib.hid hs
  clear hR1 hs hg
  obtain ⟨R, rfl⟩ := Int.eq_ofNat_of_zero_le hR0
  go_wp2
  go_loopw [6, 7, 8] (fun o z i wr => ∃ (k q cp : Nat) (a' : Option Addr) (ys : List Int) (zz : Int), i = .int .i64 k ∧ z = .int .i64 zz ∧ -1 ≤ zz ∧ zz + 30 * (k : Int) ≤ 200 ∧ o = .slice a' q cp ∧ q + k ≤ 4 ∧ Own wr H wr.heap.size 2 1 a' q cp (ints ys) ∧ Own wr w1.heap.size H 2 1 aX qX cX (ints zs) ∧ Hid (SrcOk wr p) ∧ w1.grownBy wr (some p) ∧ H ≤ wr.heap.size) (fun _ _ i _ => (intOf i).toNat)
  case atStart => exact ⟨R, 0, 0, _, [], -1, rfl, rfl, by omega, by omega, rfl, by omega, O_d, O_x, HS, G, hHw⟩
  case round =>
    clear O_d O_x HS G hH hHw
    obtain ⟨k, q, cp, a', ys, zz, rfl, rfl, hz1, hz2, rfl, hqk, O_d, O_x, HS, G, hHw⟩ := hrel
    by_cases hk : 0 < k
    · have hkI : (0 : Int) < (k : Int) := by omega
      obtain ⟨k', rfl⟩ : ∃ k', k = k' + 1 := ⟨k - 1, by omega⟩
      have hsub : ((k' + 1 : Nat) : Int) - 1 = (k' : Int) := by omega
      go_wp2_with fail
      go_at_call 54
      refine (l01Next_any _ _ _ HS.out (by omega)).mono ?_
      rintro e w4 ⟨x, rfl, ⟨hx0, hx1, -⟩, hs, hg⟩
      have hx9 := hx1 (by omega)
      replace hHw := Nat.le_trans (Nat.le_trans hHw (Nat.le_refl _)) hg.size
      replace O_d := (own_far O_d hpH hg).leave
      replace O_x := own_far O_x hpw hg
      replace G := G.trans hg
      replace HS := Lib.hid hs
      clear hx1 hs hg
      have hszG := G.size
      have hszG := G.size
      obtain ⟨zn, hzn⟩ : ∃ zn, zz + 1 + x = zn := ⟨_, rfl⟩
      have HSa := Lib.hid (HS.out.alloc (.cells #[.int .i64 zn] 2))
      have Ga := Lib.hid (grown_alloc G (.cells #[.int .i64 zn] 2))
      have O_xa := Lib.hid (O_x.alloc (.cells #[.int .i64 zn] 2))
      clear HS G O_x
      go_wp2_with (at_builtin; refine wpList_app _ rfl (.tmp 25) (.tmp 27) _ rfl Try.underlying22 info_i64 rfl (by decide) rfl (O_d.alloc _) rfl (Row.one _ _ _) (ints_one [zn]) (by decide) (by simp only [maxLen]; omega) (by omega) (by simp; omega) ?_; intro A_d c_d w5 O2 hb _)
      have G := grown_below Ga.out (hb.mono hw1H)
      have HS := Lib.hid (HSa.out.below hb hpH)
      have O_x := O_xa.out.below hb (.inl (Nat.le_refl _))
      go_roundw
      case rel => exact ⟨k', q + 1, c_d, A_d, ys ++ [zn], zn, by go_num, rfl, by omega, by omega, rfl, by omega, by rw [ints_app]; exact O2, O_x, HS, G, Nat.le_trans (Nat.le_trans hHw (by simp)) hb.size⟩
      case measure => simp [intOf] <;> omega
    · obtain rfl : k = 0 := by omega
      clear hk
      go_wp2_with fail
      go_at_call 54
      refine (l01Next_any _ _ _ HS.out (by omega)).mono ?_
      rintro e w4 ⟨t, rfl, ⟨ht0, ht1, -⟩, hs, hg⟩
      have ht9 := ht1 (by omega)
      replace hHw := Nat.le_trans (Nat.le_trans hHw (Nat.le_refl _)) hg.size
      replace O_d := (own_far O_d hpH hg).leave
      replace O_x := own_far O_x hpw hg
      replace G := G.trans hg
      replace HS := Lib.hid hs
      clear ht1 hs hg
      by_cases t0 : t = 0
      · subst t0
        have hszG := G.size
        have HSa := Lib.hid (HS.out.alloc (.cells #[.int .i64 0] 2))
        have Ga := Lib.hid (grown_alloc G (.cells #[.int .i64 0] 2))
        have O_xa := Lib.hid (O_x.alloc (.cells #[.int .i64 0] 2))
        clear HS G O_x
        go_wp2_with (at_builtin; refine wpList_app _ rfl (.tmp 32) (.tmp 33) _ rfl Try.underlying22 info_i64 rfl (by decide) rfl (O_d.alloc _) rfl (Row.one _ _ _) (ints_one [0]) (by decide) (by simp only [maxLen]; omega) (by omega) (by simp; omega) ?_; intro A_d c_d w5 O2 hb _)
        have G := grown_below Ga.out (hb.mono hw1H)
        have O_x := O_xa.out.below hb (.inl (Nat.le_refl _))
        go_wp2
        go_ret2
        exact ⟨_, _, _, zs, _, _, _, ys ++ [0], rfl, O_x.row, (by rw [ints_app]; exact O2.row), by omega, by omega, below_next' B hp1 G⟩
      · have f0 : (t == 0) = false := by simpa using t0
        clear t0
        go_wp2
        go_ret2
        exact ⟨_, _, _, zs, _, _, _, ys, rfl, O_x.row, O_d.row, by omega, by omega, below_next' B hp1 G⟩
end Go.Proofs.Ytmljcbfpennjkaa
