/- Two codes that are drawn, and a length, whatever the code. -/
import Derived.Test.YtbdlihocnpppaaaDrawCode
namespace Go.Proofs.Ytbdlihocnpppaaa
open Go.RowKit
set_option maxRecDepth 100000
set_option linter.unusedVariables false

theorem Row.apart1 {w w' : World} {s n g : Nat} {a : Option Addr} {vs : List Value} (h : Row w s a n vs) (hs : 0 < s) (hg : w.grownBy w' (some g)) (hr : 0 < n → ∀ b off, a = some ⟨b, off, none⟩ → b ≠ g) : Row w' s a n vs := by
  rcases Nat.eq_zero_or_pos n with h0 | h0
  · exact ⟨h.1, fun hn => absurd hn (by omega)⟩
  · exact h.apart hs hg fun b off e h' => hr h0 b off e (by injection h' with h'; exact h'.symm)
theorem Row.lt {w : World} {s n : Nat} {a : Option Addr} {vs : List Value} (h : Row w s a n vs) (hs : 0 < s) : 0 < n → ∀ b off, a = some ⟨b, off, none⟩ → b < w.heap.size := by
  intro hn b off e
  obtain ⟨b', off', e', hc⟩ := h.2 hn
  rw [e] at e'
  injection e' with e'
  injection e' with e' _ _
  subst e'
  have h0 : 0 < vs.length := by rw [h.1]; exact Nat.mul_pos hn hs
  exact World.block_lt_of_cell? w _ (hc 0 vs[0] (List.getElem?_eq_getElem h0))

/-- Two lists that are drawn from a code. -/
def TwoDraw (w : World) (e : Ending) (w' : World) : Prop := ∃ (a : Option Addr) (q c : Nat) (xs : List Int) (b : Option Addr) (r d : Nat) (ys : List Int),
  e = .returned (.tuple #[.slice a q c, .slice b r d]) ∧ Row w' 1 a q (ints xs) ∧ Row w' 1 b r (ints ys) ∧ q ≤ 1300 ∧ r ≤ 1300 ∧ Below w.heap.size w w'

set_option maxHeartbeats 6400000 in
theorem drawCodeDistance_any (a : Option Addr) (n c : Nat) (bs : List Nat) (w : World) (h : Code8 w a n bs) :
    Calls Try.prog 5 #[.slice a n c] w (TwoDraw w) := by
  go_enter Try.func5, Try.ntmps5
  go_wp2_with fail
  go_at_call 19
  refine (l01From_any _ _ _ _ _ h).mono ?_
  rintro e w1 ⟨p, rfl, hp, hs, B⟩
  have hp1 : w.heap.size ≤ p := by omega
  clear hp
  go_wp2_with fail
  go_at_call 20
  refine (l27DrawCode_any _ _ hs).mono ?_
  intro e w2 hd
  obtain ⟨aX, q, cX, xs, rfl, rX, hq, hs2, hg, hfar⟩ := hd
  replace B := below_next' B hp1 hg
  have HF := Lib.hid hfar
  have HL := Lib.hid (rX.lt (by omega))
  clear hg hs hfar
  go_wp2_with fail
  go_at_call 21
  refine (l01Own_any _ _ _ _ _ rX (by omega)).mono ?_
  rintro e w3 ⟨aY, cY, rfl, oY, hb⟩
  replace B := B.trans (hb.mono B.size)
  replace rX := rX.below hb (Nat.le_refl _)
  have hs3 := hs2.below hb hs2.lt
  have hpw := hs2.lt
  have B2 := B.size
  clear hb hs2
  go_wp2_with fail
  go_at_call 22
  refine (l01Next_any _ _ _ hs3 (by omega)).mono ?_
  rintro e w4 ⟨t, rfl, ⟨ht0, ht1, -⟩, hs4, hg⟩
  have ht9 := ht1 (by omega)
  obtain ⟨T', rfl⟩ := Int.eq_ofNat_of_zero_le ht0
  replace B := below_next' B hp1 hg
  replace rX := rX.apart1 (by omega) hg (fun h0 b off e => by have := HF.out h0 b off e; omega)
  replace oY := (own_far oY hpw hg).leave
  have HS := Lib.hid hs4
  have HX := Lib.hid rX
  clear ht1 hg hs4 hs3 rX
  go_wp2
  go_loopw [7] (fun i wr => ∃ (k : Nat) (ys : List Int), i = .int .i64 k ∧ k ≤ 4 ∧ Own wr w2.heap.size wr.heap.size 2 1 aY q cY (ints ys) ∧ Hid (SrcOk wr p) ∧ Hid (Row wr 1 aX q (ints xs)) ∧ Below w.heap.size w wr) (fun i _ => (intOf i).toNat)
  case atStart => exact ⟨T', xs, rfl, by omega, oY, HS, HX, B⟩
  case round =>
    clear oY HS HX B
    obtain ⟨k, ys, rfl, hk, oY, hs, hX, B⟩ := hrel
    by_cases hgo : 0 < k ∧ 0 < q
    · obtain ⟨hk0, hq0⟩ := hgo
      have hkI : (0 : Int) < (k : Int) := by omega
      have hqI : (0 : Int) < (q : Int) := by omega
      go_wp2_with fail
      go_at_call 22
      refine (l01Next_any _ _ _ hs.out (by omega)).mono ?_
      rintro e w5 ⟨r, rfl, ⟨hr0, hr1, hr2⟩, hs5, hg⟩
      have hrq : r < q := by by_cases h1 : (1 : Int) < q <;> omega
      obtain ⟨R, rfl⟩ := Int.eq_ofNat_of_zero_le hr0
      have hRq : R < q := by omega
      have o5 := (own_far oY hpw hg).leave
      have B5 := below_next' B hp1 hg
      have X5 := hX.out.apart1 (by omega) hg (fun h0 b off e => by have := HF.out h0 b off e; omega)
      obtain ⟨g, rfl, hg1, -, hg3⟩ := o5.head (by omega)
      have hfz := o5.frozenAt R
      have hlen := o5.row.len
      obtain ⟨y, hy⟩ : ∃ y, ys[R]? = some y := ⟨_, List.getElem?_eq_getElem (by omega)⟩
      have hcv : w5.cell? ⟨g, R, none⟩ = some (.int .i64 y) := by
        rw [o5.cellAt R (by omega)]
        simp [ints, hy]
      obtain ⟨z, hz⟩ : ∃ z, wrap64 (1 - y) = z := ⟨_, rfl⟩
      have hst := o5.stored R (.int .i64 z)
      have e1 : (ints ys).set R (.int .i64 z) = ints (ys.set R z) := by simp [ints, List.map_set]
      rw [e1] at hst
      have HO := Lib.hid hst.1.leave
      have HX6 := Lib.hid (X5.apart1 (by omega) hst.2 (fun h0 b off e => by have := HL.out h0 b off e; omega))
      have HB6 := Lib.hid (below_next' B5 (by omega) hst.2)
      have HS6 := Lib.hid (show SrcOk (w5.setCell ⟨g, R, none⟩ (.int .i64 z)) p from hs5.below ((Below.refl w2.heap.size w5).setCell (p := ⟨g, R, none⟩) hg1 _) hpw)
      clear hr1 hr2 hs5 hg o5 B5 X5 hlen hy hst e1 oY hs hX B
      go_wp2
      go_roundw
      case rel => exact ⟨k - 1, ys.set R z, by go_num, by omega, HO.out, HS6, HX6, HB6.out⟩
      case measure => simp [intOf] <;> omega
    · have hor : k = 0 ∨ (0 < k ∧ q = 0) := by omega
      clear hgo
      rcases hor with rfl | ⟨hk0, rfl⟩
      all_goals
        go_wp2_with fail
        go_at_call 22
        refine (l01Next_any _ _ _ hs.out (by omega)).mono ?_
        rintro e w5 ⟨t, rfl, -, hs5, hg⟩
        have o5 := (own_far oY hpw hg).leave
        have B5 := below_next' B hp1 hg
        have X5 := hX.out.apart1 (by omega) hg (fun h0 b off e => by have := HF.out h0 b off e; omega)
        have hY5 := o5.row
        clear hg oY hX B o5 hs
        by_cases t0 : t = 0
        · subst t0
          go_wp2_with fail
          go_at_call 20
          refine (l27DrawCode_any _ _ hs5).mono ?_
          intro e w6 hd
          obtain ⟨aZ, m, cZ, zs, rfl, rZ, hm, -, hg, -⟩ := hd
          replace B5 := below_next' B5 hp1 hg
          replace X5 := X5.apart1 (by omega) hg (fun h0 b off e => by have := HF.out h0 b off e; omega)
          clear hg hs5 hY5
          go_wp2
          go_ret2
          exact ⟨_, _, _, _, _, _, _, _, rfl, X5, rZ, by omega, hm, B5⟩
        · have f0 : (t == 0) = false := by simpa using t0
          clear t0
          go_wp2
          go_ret2
          exact ⟨_, _, _, _, _, _, _, _, rfl, X5, hY5, by omega, by omega, B5⟩

theorem drawCountWeights_any (a : Option Addr) (n c : Nat) (bs : List Nat) (w : World) (h : Code8 w a n bs) :
    Calls Try.prog 8 #[.slice a n c] w fun e w' => ∃ k : Int, e = .returned (.int .i64 k) ∧ -1 ≤ k ∧ k ≤ 11 ∧ Below w.heap.size w w' := by
  go_enter Try.func8, Try.ntmps8
  go_wp2_with fail
  go_at_call 19
  refine (l01From_any _ _ _ _ _ h).mono ?_
  rintro e w1 ⟨p, rfl, hp, hs, B⟩
  have hp1 : w.heap.size ≤ p := by omega
  have hl := hs.lt
  have HS := Lib.hid hs
  clear hp hs
  go_wp2_with fail
  go_at_call 27
  refine (l01Pick_any _ _ _ _ [0, 1, 2, 3, 4, 5, 6, 8, 10, 11, -1] _ (HS.out.alloc _) (by exact Row.lit _ (ints [0, 1, 2, 3, 4, 5, 6, 8, 10, 11, -1]) _ _ _ (by simp) (by rfl)) (by omega) (by omega) (fun b off e => by injection e with e; injection e with e _ _; omega)).mono ?_
  rintro e w2 ⟨x, rfl, hx, -, hg⟩
  have hxb : -1 ≤ x ∧ x ≤ 11 := by simp at hx; omega
  replace B := below_next' (B.alloc B.size (.cells (ints [0, 1, 2, 3, 4, 5, 6, 8, 10, 11, -1]).toArray 2)) hp1 hg
  clear hx hg HS
  go_wp2
  go_ret
  exact ⟨x, rfl, hxb.1, hxb.2, B⟩

theorem freeDistance_impl (w : World) : Calls Try.prog 15 #[] w fun e w' => e = .returned (.int .i64 5) ∧ w = w' := by
  go_enter Try.func15, Try.ntmps15
  go_wp2
  go_ret
  exact ⟨rfl, rfl⟩

theorem freeDistance_spec (w : World) : Calls Try.prog 16 #[] w fun e w' => e = .returned (.int .i64 5) ∧ w = w' := by
  go_enter Try.func16, Try.ntmps16
  go_wp2
  go_ret
  exact ⟨rfl, rfl⟩
end Go.Proofs.Ytbdlihocnpppaaa
