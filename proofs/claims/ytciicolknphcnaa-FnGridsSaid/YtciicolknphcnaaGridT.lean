/- GridSoundings: the plain function and the reference's walk. -/
import Derived.Test.YtciicolknphcnaaGridS
import Derived.Handy
namespace Go.Proofs.Ytciicolknphcnaa
open Go.RowKit
set_option maxRecDepth 100000
set_option linter.unusedVariables false
set_option linter.unusedSimpArgs false
set_option linter.unusedVariables false

def gStep (s x y : Int) (g : List Int × List (Int × Int)) (t : I4) : List Int × List (Int × Int) := if cellAt s x y t.1 t.2.1 < 0 then g else (addC g.1 (cellAt s x y t.1 t.2.1).toNat, addD g.1 g.2 (cellAt s x y t.1 t.2.1).toNat (lowOf t, highOf t))
def gridF (s x y : Int) (ss : List I4) (g : List Int × List (Int × Int)) : List Int × List (Int × Int) := ss.foldl (gStep s x y) g
def grid0 (N : Nat) : List Int × List (Int × Int) := (List.replicate N 0, List.replicate N (0, 0))
def gridL (s x y : Int) (ss : List I4) : List Int × List (Int × Int) := gridF s x y ss (grid0 (x * y).toNat)
def gridSnd (s x y : Int) (ss : List I4) : (Int × Int × Int) × (List Int × List (Int × Int)) × Int := if sndsOk ss then (if shapeOk s x y then ((s, x, y), gridL s x y ss, 0) else ((0, 0, 0), ([], []), 2)) else ((0, 0, 0), ([], []), 1)

def GInv (s x y : Int) (ss : List I4) (N k : Nat) (cs : List Int) (ds : List (Int × Int)) : Prop := (∀ c ∈ cs, 0 ≤ c ∧ c ≤ k) ∧ gridF s x y (ss.drop k) (cs, ds) = gridF s x y ss (grid0 N)
theorem GInv.start (s x y : Int) (ss : List I4) (N : Nat) : GInv s x y ss N 0 (List.replicate N 0) (List.replicate N (0, 0)) := ⟨fun c hc => by have := List.eq_of_mem_replicate hc; omega, rfl⟩
theorem GInv.skip {s x y : Int} {ss : List I4} {N k : Nat} {cs : List Int} {ds : List (Int × Int)} {t : I4} (h : GInv s x y ss N k cs ds) (ht : ss[k]? = some t) (hc : cellAt s x y t.1 t.2.1 < 0) : GInv s x y ss N (k + 1) cs ds := by
  refine ⟨fun c hc => by have := h.1 c hc; omega, ?_⟩
  rw [← h.2, drop_at ht]
  simp [gridF, gStep, hc]
theorem GInv.add {s x y : Int} {ss : List I4} {N k i : Nat} {cs : List Int} {ds : List (Int × Int)} {t : I4} (h : GInv s x y ss N k cs ds) (ht : ss[k]? = some t) (hc : cellAt s x y t.1 t.2.1 = (i : Int)) : GInv s x y ss N (k + 1) (addC cs i) (addD cs ds i (lowOf t, highOf t)) := by
  refine ⟨fun c hcm => ?_, ?_⟩
  · rcases List.mem_or_eq_of_mem_set hcm with hm | rfl
    · have := h.1 c hm; omega
    · cases hg : cs[i]? with
      | none => simp; omega
      | some d => have := h.1 d (List.mem_of_getElem? hg); simp; omega
  · rw [← h.2, drop_at ht]
    have hn : ¬ cellAt s x y t.1 t.2.1 < 0 := by omega
    simp only [gridF, List.foldl_cons, gStep, hn, if_false]
    rw [hc]; rfl
theorem GInv.done {s x y : Int} {ss : List I4} {N k n : Nat} {cs : List Int} {ds : List (Int × Int)} (h : GInv s x y ss N k cs ds) (hl : ss.length = n) (hk : ¬ k < n) (hN : x * y = (N : Int)) : gridL s x y ss = (cs, ds) := by
  rw [gridL, hN, Int.toNat_natCast, ← h.2, List.drop_eq_nil_of_le (by omega)]
  rfl

def GridPost (s x y : Int) (ss : List I4) (w : World) (e : Ending) (w' : World) : Prop := ∃ (a b : Option Addr) (p q n : Nat), e = .returned (.tuple #[.agg #[.int .i64 (gridSnd s x y ss).1.1, .int .i64 (gridSnd s x y ss).1.2.1, .int .i64 (gridSnd s x y ss).1.2.2, .slice a n n, .slice b n n], .int .i64 (gridSnd s x y ss).2.2]) ∧ p ≠ q ∧ w.heap.size ≤ p ∧ w.heap.size ≤ q ∧ n ≤ 900 ∧ Own w' p (p + 1) 2 1 a n n (ints (gridSnd s x y ss).2.1.1) ∧ Own w' q (q + 1) 49 2 b n n (prs (gridSnd s x y ss).2.1.2) ∧ Below w.heap.size w w'
theorem gridPost_no {s x y : Int} {ss : List I4} {w w' : World} {v : Int} (h : gridSnd s x y ss = ((0, 0, 0), ([], []), v)) (B : Below w.heap.size w w') : GridPost s x y ss w (.returned (.tuple #[.agg #[.int .i64 0, .int .i64 0, .int .i64 0, .slice none 0 0, .slice none 0 0], .int .i64 v])) w' := by
  rw [GridPost, h]
  exact ⟨none, none, w.heap.size, w.heap.size + 1, 0, rfl, by omega, by omega, by omega, by omega, Own.nil_ _ _ _ _ _, Own.nil_ _ _ _ _ _, B⟩

theorem Blk.five {w : World} {b t : Nat} {v0 v1 v2 v3 v4 : Value} (h : Blk w b t #[v0, v1, v2, v3, v4]) (u0 u1 u2 u3 u4 : Value) : Blk (((((w.setCell ⟨b, 0, none⟩ u0).setCell ⟨b, 1, none⟩ u1).setCell ⟨b, 2, none⟩ u2).setCell ⟨b, 3, none⟩ u3).setCell ⟨b, 4, none⟩ u4) b t #[u0, u1, u2, u3, u4] := by
  have := ((((h.set_ 0 u0).set_ 1 u1).set_ 2 u2).set_ 3 u3).set_ 4 u4
  simpa using this
theorem own_five {w : World} {b lo hi E S n c : Nat} {a : Option Addr} {vs : List Value} (h : Own w lo hi E S a n c vs) (hb : b < lo ∨ hi ≤ b) (u0 u1 u2 u3 u4 : Value) : Own (((((w.setCell ⟨b, 0, none⟩ u0).setCell ⟨b, 1, none⟩ u1).setCell ⟨b, 2, none⟩ u2).setCell ⟨b, 3, none⟩ u3).setCell ⟨b, 4, none⟩ u4) lo hi E S a n c vs :=
  ((((h.setFar hb _).setFar hb _).setFar hb _).setFar hb _).setFar hb _
theorem below_five {w w' : World} {b : Nat} (h : Below b w w') (u0 u1 u2 u3 u4 : Value) : Below b w (((((w'.setCell ⟨b, 0, none⟩ u0).setCell ⟨b, 1, none⟩ u1).setCell ⟨b, 2, none⟩ u2).setCell ⟨b, 3, none⟩ u3).setCell ⟨b, 4, none⟩ u4) :=
  ((((h.setCell (Nat.le_refl _) _).setCell (Nat.le_refl _) _).setCell (Nat.le_refl _) _).setCell (Nat.le_refl _) _).setCell (Nat.le_refl _) _
/-- What the rounds keep: the grid's two rows, its box R, the result's box. -/
structure GSt (w wr : World) (R p q N : Nat) (s x y : Int) (cs : List Int) (ds : List (Int × Int)) : Prop where
  c : Own wr p (p + 1) 2 1 (some ⟨p, 0, none⟩) N N (ints cs)
  d : Own wr q (q + 1) 49 2 (some ⟨q, 0, none⟩) N N (prs ds)
  r : Blk wr R 27 #[.int .i64 s, .int .i64 x, .int .i64 y, .slice (some ⟨p, 0, none⟩) N N, .slice (some ⟨q, 0, none⟩) N N]
  b : Blk wr w.heap.size 27 #[.int .i64 0, .int .i64 0, .int .i64 0, .slice none 0 0, .slice none 0 0]
  B : Below w.heap.size w wr
  pq : p ≠ q
  pR : p ≠ R ∧ q ≠ R
  p0 : w.heap.size < p ∧ w.heap.size < q ∧ w.heap.size < R
section
variable {w wr wr' : World} {R p q N : Nat} {s x y : Int} {cs : List Int} {ds : List (Int × Int)}
theorem GSt.below (h : GSt w wr R p q N s x y cs ds) (hb : Below wr.heap.size wr wr') : GSt w wr' R p q N s x y cs ds :=
  { c := h.c.below hb (.inr (Nat.le_refl _)), d := h.d.below hb (.inr (Nat.le_refl _)), r := h.r.belowSelf hb, b := h.b.belowSelf hb, B := h.B.trans (hb.mono h.B.size), pq := h.pq, pR := h.pR, p0 := h.p0 }
theorem GSt.drew (h : GSt w wr R p q N s x y cs ds) : GSt w wr.drew R p q N s x y cs ds :=
  { c := h.c.drew, d := h.d.drew, r := h.r.drew, b := h.b.drew, B := h.B.drew, pq := h.pq, pR := h.pR, p0 := h.p0 }
theorem GSt.alloc (h : GSt w wr R p q N s x y cs ds) (o : Obj) : GSt w (wr.alloc o) R p q N s x y cs ds := h.below ((Below.refl _ _).alloc (Nat.le_refl _) o)
theorem GSt.addD (h : GSt w wr R p q N s x y cs ds) {ds' : List (Int × Int)} (hd : Own wr' q (q + 1) 49 2 (some ⟨q, 0, none⟩) N N (prs ds')) (hg : wr.grownBy wr' (some q)) : GSt w wr' R p q N s x y cs ds' :=
  { c := h.c.apart hg (fun g e => by injection e with e; have := h.pq; omega), d := hd, r := h.r.grown hg (fun e => by injection e with e; have := h.pR; omega), b := h.b.grown hg (fun e => by injection e with e; have := h.p0; omega), B := h.B.grown hg h.B.size (fun g e => by injection e with e; have := h.p0; omega), pq := h.pq, pR := h.pR, p0 := h.p0 }
theorem GSt.addC (h : GSt w wr R p q N s x y cs ds) {cs' : List Int} (hc : Own wr' p (p + 1) 2 1 (some ⟨p, 0, none⟩) N N (ints cs')) (hg : wr.grownBy wr' (some p)) : GSt w wr' R p q N s x y cs' ds :=
  { d := h.d.apart hg (fun g e => by injection e with e; have := h.pq; omega), c := hc, r := h.r.grown hg (fun e => by injection e with e; have := h.pR; omega), b := h.b.grown hg (fun e => by injection e with e; have := h.p0; omega), B := h.B.grown hg h.B.size (fun g e => by injection e with e; have := h.p0; omega), pq := h.pq, pR := h.pR, p0 := h.p0 }
end

set_option maxHeartbeats 12800000 in
theorem gridSnd_spec (s x y : Int) (a : Option Addr) (n c : Nat) (ss : List I4) (w : World) (h : Row w 4 a n (frs ss)) (hn : n ≤ 1048576) :
    Calls Try.prog 6 #[.int .i64 s, .int .i64 x, .int .i64 y, .slice a n c] w fun e w' => GridPost s x y ss w e w' := by
  have h1 := h.alloc4 (.cells #[.int .i64 0, .int .i64 0, .int .i64 0, .slice none 0 0, .slice none 0 0] 27)
  have K := Lib.hid (Blk.new w 27 #[.int .i64 0, .int .i64 0, .int .i64 0, .slice none 0 0, .slice none 0 0])
  have B := Lib.hid ((Below.refl w.heap.size w).alloc (Nat.le_refl _) (.cells #[.int .i64 0, .int .i64 0, .int .i64 0, .slice none 0 0, .slice none 0 0] 27))
  cases hsn : sndsOk ss
  · go_enter Try.func6, Try.ntmps6
    go_wp2_with fail
    go_at_call 25
    refine (areSoundings_spec _ _ _ _ _ h1 hn).mono ?_
    rintro e w2 ⟨rfl, hb⟩
    have K2 := K.out.belowSelf hb
    have B2 := B.out.trans (hb.mono B.out.size)
    have z0 : w2.cell? ⟨w.heap.size, 0, none⟩ = some (.int .i64 0) := K2.cell 0; have fz0 := K2.frozen 0
    have z1 : w2.cell? ⟨w.heap.size, 1, none⟩ = some (.int .i64 0) := K2.cell 1; have fz1 := K2.frozen 1
    have z2 : w2.cell? ⟨w.heap.size, 2, none⟩ = some (.int .i64 0) := K2.cell 2; have fz2 := K2.frozen 2
    have z3 : w2.cell? ⟨w.heap.size, 3, none⟩ = some (.slice none 0 0) := K2.cell 3; have fz3 := K2.frozen 3
    have z4 : w2.cell? ⟨w.heap.size, 4, none⟩ = some (.slice none 0 0) := K2.cell 4; have fz4 := K2.frozen 4
    have hlt := K2.lt
    clear hb
    rw [hsn]
    go_wp2
    obtain ⟨w6, hw6⟩ : ∃ w6, ((((w2.setCell ⟨w.heap.size, 0, none⟩ (.int .i64 0)).setCell ⟨w.heap.size, 1, none⟩ (.int .i64 0)).setCell ⟨w.heap.size, 2, none⟩ (.int .i64 0)).setCell ⟨w.heap.size, 3, none⟩ (.slice none 0 0)).setCell ⟨w.heap.size, 4, none⟩ (.slice none 0 0) = w6 := ⟨_, rfl⟩
    have K6 : Blk w6 w.heap.size 27 #[.int .i64 0, .int .i64 0, .int .i64 0, .slice none 0 0, .slice none 0 0] := hw6 ▸ K2.five _ _ _ _ _
    have B6 : Below w.heap.size w w6 := hw6 ▸ below_five B2 _ _ _ _ _
    rw [hw6]
    clear z0 z1 z2 z3 z4 fz0 fz1 fz2 fz3 fz4
    have z0 : w6.cell? ⟨w.heap.size, 0, none⟩ = some (.int .i64 0) := K6.cell 0; have fz0 := K6.frozen 0
    have z1 : w6.cell? ⟨w.heap.size, 1, none⟩ = some (.int .i64 0) := K6.cell 1; have fz1 := K6.frozen 1
    have z2 : w6.cell? ⟨w.heap.size, 2, none⟩ = some (.int .i64 0) := K6.cell 2; have fz2 := K6.frozen 2
    have z3 : w6.cell? ⟨w.heap.size, 3, none⟩ = some (.slice none 0 0) := K6.cell 3; have fz3 := K6.frozen 3
    have z4 : w6.cell? ⟨w.heap.size, 4, none⟩ = some (.slice none 0 0) := K6.cell 4; have fz4 := K6.frozen 4
    exact bodyPost_ret (v := .tuple #[.agg #[.int .i64 0, .int .i64 0, .int .i64 0, .slice none 0 0, .slice none 0 0], .int .i64 1]) (by simp [results, go_sem, z0, z1, z2, z3, z4]) rfl (gridPost_no (by simp [gridSnd, hsn]) B6)
  cases hsh : shapeOk s x y
  · go_enter Try.func6, Try.ntmps6
    go_wp2_with fail
    go_at_call 25
    refine (areSoundings_spec _ _ _ _ _ h1 hn).mono ?_
    rintro e w2 ⟨rfl, hb⟩
    have K2 := K.out.belowSelf hb
    have B2 := B.out.trans (hb.mono B.out.size)
    have z0 : w2.cell? ⟨w.heap.size, 0, none⟩ = some (.int .i64 0) := K2.cell 0; have fz0 := K2.frozen 0
    have z1 : w2.cell? ⟨w.heap.size, 1, none⟩ = some (.int .i64 0) := K2.cell 1; have fz1 := K2.frozen 1
    have z2 : w2.cell? ⟨w.heap.size, 2, none⟩ = some (.int .i64 0) := K2.cell 2; have fz2 := K2.frozen 2
    have z3 : w2.cell? ⟨w.heap.size, 3, none⟩ = some (.slice none 0 0) := K2.cell 3; have fz3 := K2.frozen 3
    have z4 : w2.cell? ⟨w.heap.size, 4, none⟩ = some (.slice none 0 0) := K2.cell 4; have fz4 := K2.frozen 4
    have hlt := K2.lt
    clear hb
    rw [hsn]
    go_wp2_with fail
    go_at_call 26
    refine (l22Size_any _ _ _ _).mono ?_
    rintro e w3 ⟨rfl, rfl⟩
    rw [hsh]
    go_wp2
    obtain ⟨w6, hw6⟩ : ∃ w6, ((((w2.setCell ⟨w.heap.size, 0, none⟩ (.int .i64 0)).setCell ⟨w.heap.size, 1, none⟩ (.int .i64 0)).setCell ⟨w.heap.size, 2, none⟩ (.int .i64 0)).setCell ⟨w.heap.size, 3, none⟩ (.slice none 0 0)).setCell ⟨w.heap.size, 4, none⟩ (.slice none 0 0) = w6 := ⟨_, rfl⟩
    have K6 : Blk w6 w.heap.size 27 #[.int .i64 0, .int .i64 0, .int .i64 0, .slice none 0 0, .slice none 0 0] := hw6 ▸ K2.five _ _ _ _ _
    have B6 : Below w.heap.size w w6 := hw6 ▸ below_five B2 _ _ _ _ _
    rw [hw6]
    clear z0 z1 z2 z3 z4 fz0 fz1 fz2 fz3 fz4
    have z0 : w6.cell? ⟨w.heap.size, 0, none⟩ = some (.int .i64 0) := K6.cell 0; have fz0 := K6.frozen 0
    have z1 : w6.cell? ⟨w.heap.size, 1, none⟩ = some (.int .i64 0) := K6.cell 1; have fz1 := K6.frozen 1
    have z2 : w6.cell? ⟨w.heap.size, 2, none⟩ = some (.int .i64 0) := K6.cell 2; have fz2 := K6.frozen 2
    have z3 : w6.cell? ⟨w.heap.size, 3, none⟩ = some (.slice none 0 0) := K6.cell 3; have fz3 := K6.frozen 3
    have z4 : w6.cell? ⟨w.heap.size, 4, none⟩ = some (.slice none 0 0) := K6.cell 4; have fz4 := K6.frozen 4
    exact bodyPost_ret (v := .tuple #[.agg #[.int .i64 0, .int .i64 0, .int .i64 0, .slice none 0 0, .slice none 0 0], .int .i64 2]) (by simp [results, go_sem, z0, z1, z2, z3, z4]) rfl (gridPost_no (by simp [gridSnd, hsn, hsh]) B6)
  obtain ⟨gs, gx, gy⟩ := shapeOk_true hsh
  have hm := sndsOk_len hsn h.len4
  obtain ⟨N, hN⟩ := Int.eq_ofNat_of_zero_le (Int.mul_nonneg (show 0 ≤ x by omega) (show 0 ≤ y by omega))
  have hN9 : N ≤ 900 := by
    have := Int.mul_le_mul gx.2 gy.2 (by omega) (by omega)
    omega
  have HN := Lib.hid hN
  clear hN
  have hend : ∀ cs ds, gridL s x y ss = (cs, ds) → gridSnd s x y ss = ((s, x, y), (cs, ds), 0) := fun cs ds e => by simp [gridSnd, hsn, hsh, e]
  go_enter Try.func6, Try.ntmps6
  go_wp2_with fail
  go_at_call 25
  refine (areSoundings_spec _ _ _ _ _ h1 hn).mono ?_
  rintro e w2 ⟨rfl, hb⟩
  have K2 := K.out.belowSelf hb
  have B2 := B.out.trans (hb.mono B.out.size)
  have z0 : w2.cell? ⟨w.heap.size, 0, none⟩ = some (.int .i64 0) := K2.cell 0; have fz0 := K2.frozen 0
  have z1 : w2.cell? ⟨w.heap.size, 1, none⟩ = some (.int .i64 0) := K2.cell 1; have fz1 := K2.frozen 1
  have z2 : w2.cell? ⟨w.heap.size, 2, none⟩ = some (.int .i64 0) := K2.cell 2; have fz2 := K2.frozen 2
  have z3 : w2.cell? ⟨w.heap.size, 3, none⟩ = some (.slice none 0 0) := K2.cell 3; have fz3 := K2.frozen 3
  have z4 : w2.cell? ⟨w.heap.size, 4, none⟩ = some (.slice none 0 0) := K2.cell 4; have fz4 := K2.frozen 4
  have hlt := K2.lt
  clear hb
  rw [hsn]
  go_wp2_with fail
  go_at_call 26
  refine (l22Size_any _ _ _ _).mono ?_
  rintro e w3 ⟨rfl, rfl⟩
  rw [hsh]
  go_wp2_with fail
  go_at_call 27
  refine (l22New_any _ _ _ N _ HN.out hN9).mono ?_
  rintro e w4 ⟨p, q, hpq, hp, hq, rfl, Oc, Od, hb4⟩
  have hp4 := (Oc.lt p rfl).2.2; have hq4 := (Od.lt q rfl).2.2
  have hz2 := hb4.size
  obtain ⟨R, hR⟩ : ∃ R, w4.heap.size = R := ⟨_, rfl⟩
  obtain ⟨w5, hw5⟩ : ∃ w5, w4.alloc (.cells #[.int .i64 s, .int .i64 x, .int .i64 y, .slice (some ⟨p, 0, none⟩) N N, .slice (some ⟨q, 0, none⟩) N N] 27) = w5 := ⟨_, rfl⟩
  have G : GSt w w5 R p q N s x y (List.replicate N 0) (List.replicate N (0, 0)) := by
    subst hw5; subst hR
    exact { c := Oc.alloc _, d := Od.alloc _, r := Blk.new _ _ _, b := (K2.belowSelf hb4).alloc _, B := (B2.trans (hb4.mono B2.size)).alloc (by omega) _, pq := hpq, pR := ⟨by omega, by omega⟩, p0 := ⟨by omega, by omega, by omega⟩ }
  clear z0 z1 z2 z3 z4 fz0 fz1 fz2 fz3 fz4 Oc Od hb4 K2 B2 hlt hp hq hp4 hq4 hz2
  go_wp2_with fail
  go_loopw [11] (fun i wr => ∃ (k : Nat) (cs : List Int) (ds : List (Int × Int)), i = .int .i64 k ∧ k ≤ n ∧ GSt w wr R p q N s x y cs ds ∧ Hid (GInv s x y ss N k cs ds)) (fun i _ => n - (intOf i).toNat)
  case atStart => exact ⟨0, _, _, rfl, Nat.zero_le _, G, Lib.hid (GInv.start _ _ _ _ _)⟩
  case round =>
    clear G
    obtain ⟨k, cs, ds, rfl, hk, G, HI⟩ := hrel
    by_cases hlt : k < n
    · obtain ⟨b, off, X, Y, Z, U, rfl, ⟨hc0, hc1, hc2, hc3⟩, hx⟩ := (h.below4 G.B (Nat.le_refl _)).at4 hlt
      obtain ⟨tx, ty, tz, tu⟩ := sndOk_bd (sndsOk_get hsn hx.out)
      have HG := Lib.hid G
      clear G
      have r0 : wr.cell? ⟨R, 0, none⟩ = some (.int .i64 s) := HG.out.r.cell 0
      have r1 : wr.cell? ⟨R, 1, none⟩ = some (.int .i64 x) := HG.out.r.cell 1
      have r2 : wr.cell? ⟨R, 2, none⟩ = some (.int .i64 y) := HG.out.r.cell 2
      have r3 : wr.cell? ⟨R, 3, none⟩ = some (.slice (some ⟨p, 0, none⟩) N N) := HG.out.r.cell 3
      have r4 : wr.cell? ⟨R, 4, none⟩ = some (.slice (some ⟨q, 0, none⟩) N N) := HG.out.r.cell 4
      go_wp2_with fail
      refine wp_region_held_drew (S := fun w' => (w'.cell? ⟨R, 0, none⟩ = some (.int .i64 s) ∧ w'.cell? ⟨R, 1, none⟩ = some (.int .i64 x) ∧ w'.cell? ⟨R, 2, none⟩ = some (.int .i64 y) ∧ w'.cell? ⟨R, 3, none⟩ = some (.slice (some ⟨p, 0, none⟩) N N) ∧ w'.cell? ⟨R, 4, none⟩ = some (.slice (some ⟨q, 0, none⟩) N N)) ∧ w'.cell? ⟨b, off + k * 4, none⟩ = some (.int .i64 X) ∧ w'.cell? ⟨b, off + k * 4 + 1, none⟩ = some (.int .i64 Y) ∧ w'.cell? ⟨b, off + k * 4 + 2, none⟩ = some (.int .i64 Z) ∧ w'.cell? ⟨b, off + k * 4 + 3, none⟩ = some (.int .i64 U)) (by kernel_rfl) (⟨⟨HG.out.r.cell 0, HG.out.r.cell 1, HG.out.r.cell 2, HG.out.r.cell 3, HG.out.r.cell 4⟩, hc0, hc1, hc2, hc3⟩) (fun hHeld => ?_)
      refine wpAnyH_take (i := 0) (oi := ?oix0) (v := ?vx0) ?hix0 (by kernel_rfl) (by kernel_rfl) (by kernel_rfl) ?hQx0 ?hyx0 (by assumption) ?hrx0
      case hix0 => (simp only [List.getElem?_toArray, List.getElem?_cons_succ, List.getElem?_cons_zero]; rfl)
      case hQx0 => exact fun _ _ _ h => h
      case hyx0 => (refine Or.inl ⟨by rfl, ?_⟩; intro w hSw; (try dsimp only at hSw); (go_simp <;> with_reducible rfl))
      (try simp only [Act.put, List.setIfInBounds_toArray, List.set_cons_zero, List.set_cons_succ])
      refine wpAnyH_take (i := 1) (oi := ?oix1) (v := ?vx1) ?hix1 (by kernel_rfl) (by kernel_rfl) (by kernel_rfl) ?hQx1 ?hyx1 (by assumption) ?hrx1
      case hix1 => (simp only [List.getElem?_toArray, List.getElem?_cons_succ, List.getElem?_cons_zero]; rfl)
      case hQx1 => exact fun _ _ _ h => h
      case hyx1 => (refine Or.inl ⟨by rfl, ?_⟩; intro w hSw; (try dsimp only at hSw); (go_simp <;> with_reducible rfl))
      (try simp only [Act.put, List.setIfInBounds_toArray, List.set_cons_zero, List.set_cons_succ])
      refine wpAnyH_take (i := 2) (oi := ?oix2) (v := ?vx2) ?hix2 (by kernel_rfl) (by kernel_rfl) (by kernel_rfl) ?hQx2 ?hyx2 (by assumption) ?hrx2
      case hix2 => (simp only [List.getElem?_toArray, List.getElem?_cons_succ, List.getElem?_cons_zero]; rfl)
      case hQx2 => exact fun _ _ _ h => h
      case hyx2 => (refine Or.inl ⟨by rfl, ?_⟩; intro w hSw; (try dsimp only at hSw); (go_simp <;> with_reducible rfl))
      (try simp only [Act.put, List.setIfInBounds_toArray, List.set_cons_zero, List.set_cons_succ])
      refine wpAnyH_take (i := 3) (oi := ?oix3) (v := ?vx3) ?hix3 (by kernel_rfl) (by kernel_rfl) (by kernel_rfl) ?hQx3 ?hyx3 (by assumption) ?hrx3
      case hix3 => (simp only [List.getElem?_toArray, List.getElem?_cons_succ, List.getElem?_cons_zero]; rfl)
      case hQx3 => exact fun _ _ _ h => h
      case hyx3 => (refine Or.inl ⟨by rfl, ?_⟩; intro w hSw; (try dsimp only at hSw); (go_simp <;> with_reducible rfl))
      (try simp only [Act.put, List.setIfInBounds_toArray, List.set_cons_zero, List.set_cons_succ])
      refine wpAnyH_take (i := 4) (oi := ?oix4) (v := ?vx4) ?hix4 (by kernel_rfl) (by kernel_rfl) (by kernel_rfl) ?hQx4 ?hyx4 (by assumption) ?hrx4
      case hix4 => (simp only [List.getElem?_toArray, List.getElem?_cons_succ, List.getElem?_cons_zero]; rfl)
      case hQx4 => exact fun _ _ _ h => h
      case hyx4 => (refine Or.inl ⟨by rfl, ?_⟩; intro w hSw; (try dsimp only at hSw); (go_simp <;> with_reducible rfl))
      (try simp only [Act.put, List.setIfInBounds_toArray, List.set_cons_zero, List.set_cons_succ])
      refine wpAnyH_take (i := 5) (oi := ?oix5) (v := ?vx5) ?hix5 (by kernel_rfl) (by kernel_rfl) (by kernel_rfl) ?hQx5 ?hyx5 (by assumption) ?hrx5
      case hix5 => (simp only [List.getElem?_toArray, List.getElem?_cons_succ, List.getElem?_cons_zero]; rfl)
      case hQx5 => exact fun _ _ _ h => h
      case hyx5 => (refine Or.inl ⟨by rfl, ?_⟩; intro w hSw; (try dsimp only at hSw); (go_simp <;> with_reducible rfl))
      (try simp only [Act.put, List.setIfInBounds_toArray, List.set_cons_zero, List.set_cons_succ])
      refine wpAnyH_take (i := 6) (oi := ?oix6) (v := ?vx6) ?hix6 (by kernel_rfl) (by kernel_rfl) (by kernel_rfl) ?hQx6 ?hyx6 (by assumption) ?hrx6
      case hix6 => (simp only [List.getElem?_toArray, List.getElem?_cons_succ, List.getElem?_cons_zero]; rfl)
      case hQx6 => exact fun _ _ _ h => h
      case hyx6 => (refine Or.inl ⟨by rfl, ?_⟩; intro w hSw; (try dsimp only at hSw); (go_simp <;> with_reducible rfl))
      (try simp only [Act.put, List.setIfInBounds_toArray, List.set_cons_zero, List.set_cons_succ])
      refine wpAnyH_take (i := 7) (oi := ?oix7) (v := ?vx7) ?hix7 (by kernel_rfl) (by kernel_rfl) (by kernel_rfl) ?hQx7 ?hyx7 (by assumption) ?hrx7
      case hix7 => (simp only [List.getElem?_toArray, List.getElem?_cons_succ, List.getElem?_cons_zero]; rfl)
      case hQx7 => exact fun _ _ _ h => h
      case hyx7 => (refine Or.inl ⟨by rfl, ?_⟩; intro w hSw; (try dsimp only at hSw); (go_simp <;> with_reducible rfl))
      (try simp only [Act.put, List.setIfInBounds_toArray, List.set_cons_zero, List.set_cons_succ])
      refine wpAnyH_take (i := 8) (oi := ?oix8) (v := ?vx8) ?hix8 (by kernel_rfl) (by kernel_rfl) (by kernel_rfl) ?hQx8 ?hyx8 (by assumption) ?hrx8
      case hix8 => (simp only [List.getElem?_toArray, List.getElem?_cons_succ, List.getElem?_cons_zero]; rfl)
      case hQx8 => exact fun _ _ _ h => h
      case hyx8 => (refine Or.inl ⟨by rfl, ?_⟩; intro w hSw; (try dsimp only at hSw); (go_simp <;> with_reducible rfl))
      (try simp only [Act.put, List.setIfInBounds_toArray, List.set_cons_zero, List.set_cons_succ])
      refine wpAnyH_take (i := 9) (oi := ?oix9) (v := ?vx9) ?hix9 (by kernel_rfl) (by kernel_rfl) (by kernel_rfl) ?hQx9 ?hyx9 (by assumption) ?hrx9
      case hix9 => (simp only [List.getElem?_toArray, List.getElem?_cons_succ, List.getElem?_cons_zero]; rfl)
      case hQx9 => exact fun _ _ _ h => h
      case hyx9 => (refine Or.inl ⟨by rfl, ?_⟩; intro w hSw; (try dsimp only at hSw); (go_simp <;> with_reducible rfl))
      (try simp only [Act.put, List.setIfInBounds_toArray, List.set_cons_zero, List.set_cons_succ])
      refine wpAnyH_take (i := 10) (oi := ?oix10) (v := ?vx10) ?hix10 (by kernel_rfl) (by kernel_rfl) (by kernel_rfl) ?hQx10 ?hyx10 (by assumption) ?hrx10
      case hix10 => (simp only [List.getElem?_toArray, List.getElem?_cons_succ, List.getElem?_cons_zero]; rfl)
      case hQx10 => exact fun _ _ _ h => h
      case hyx10 => (refine Or.inl ⟨by rfl, ?_⟩; intro w hSw; (try dsimp only at hSw); (go_simp <;> with_reducible rfl))
      (try simp only [Act.put, List.setIfInBounds_toArray, List.set_cons_zero, List.set_cons_succ])
      refine wpAnyH_ready (rs := [11]) (by kernel_rfl) (by simp) ?_
      refine AllReadyH.cons (o := ?oix11) ?hix11 ?hax11 AllReadyH.nil
      case hix11 => (simp only [List.getElem?_toArray, List.getElem?_cons_succ, List.getElem?_cons_zero]; rfl)
      intro K hK
      go_simp
      go_at_call 28
      refine (l22Cell_any _ _ _ _ _ _ _ _ _ _ _ _ gs gx gy tx ty).mono ?_
      rintro e w7 ⟨rfl, hb⟩
      replace HG := Lib.hid (HG.out.drew.below hb)
      have L7 := Lib.hid ((h.below4 HG.out.B (Nat.le_refl _)).get4_ hx.out)
      clear hb
      refine hK.out _ _ (⟨⟨HG.out.r.cell 0, HG.out.r.cell 1, HG.out.r.cell 2, HG.out.r.cell 3, HG.out.r.cell 4⟩, L7.out⟩) (fun hHeld => ?_)
      clear hK K
      (try simp only [Act.put, List.setIfInBounds_toArray, List.set_cons_zero, List.set_cons_succ])
      refine wpAnyH_take (i := 12) (oi := ?oix12) (v := ?vx12) ?hix12 (by kernel_rfl) (by kernel_rfl) (by kernel_rfl) ?hQx12 ?hyx12 (by assumption) ?hrx12
      case hix12 => (simp only [List.getElem?_toArray, List.getElem?_cons_succ, List.getElem?_cons_zero]; rfl)
      case hQx12 => exact fun _ _ _ h => h
      case hyx12 => (refine Or.inl ⟨by rfl, ?_⟩; intro w hSw; (try dsimp only at hSw); (go_simp <;> with_reducible rfl))
      (try simp only [Act.put, List.setIfInBounds_toArray, List.set_cons_zero, List.set_cons_succ])
      refine wpAnyH_done (by kernel_rfl) ?_ _
      have hbd := cellAt_bd gs.1 gx gy tx.1 ty.1
      obtain ⟨V, hV⟩ : ∃ V, cellAt s x y X Y = V := ⟨_, rfl⟩
      rw [hV] at hbd ⊢
      have HV := Lib.hid hV
      clear hV
      rcases hbd with hneg | ⟨h0, hlx⟩
      · have hneg2 : V < 0 := by omega
        have hskip := Lib.hid (HI.out.skip (t := (X, Y, Z, U)) hx.out (by rw [HV.out]; exact hneg2))
        subst hneg
        clear hneg2
        go_wp2
        go_roundw
        case rel => exact ⟨k + 1, cs, ds, by go_num, by omega, HG.out, hskip⟩
        case measure => simp [intOf] <;> omega
      · obtain ⟨i, rfl⟩ := Int.eq_ofNat_of_zero_le h0
        have hiN : i < N := by have := HN.out; omega
        have hi0 : (0 : Int) ≤ (i : Int) := by omega
        clear hlx h0
        have hadd := Lib.hid (HI.out.add (t := (X, Y, Z, U)) hx.out HV.out)
        obtain ⟨c0, hcx, hcc⟩ := cGet HG.out.c hiN
        have hcb := HI.out.1 c0 (List.mem_of_getElem? hcx)
        have HX := Lib.hid hcx
        clear hcx
        clear r0 r1 r2 r3 r4 hc0 hc1 hc2 hc3
        have r0 : w7.cell? ⟨R, 0, none⟩ = some (.int .i64 s) := HG.out.r.cell 0
        have r1 : w7.cell? ⟨R, 1, none⟩ = some (.int .i64 x) := HG.out.r.cell 1
        have r2 : w7.cell? ⟨R, 2, none⟩ = some (.int .i64 y) := HG.out.r.cell 2
        have r3 : w7.cell? ⟨R, 3, none⟩ = some (.slice (some ⟨p, 0, none⟩) N N) := HG.out.r.cell 3
        have r4 : w7.cell? ⟨R, 4, none⟩ = some (.slice (some ⟨q, 0, none⟩) N N) := HG.out.r.cell 4
        obtain ⟨hc0, hc1, hc2, hc3⟩ := L7.out
        go_wp2_with fail
        refine wp_region_held_drew (S := fun w' => ((w'.cell? ⟨R, 0, none⟩ = some (.int .i64 s) ∧ w'.cell? ⟨R, 1, none⟩ = some (.int .i64 x) ∧ w'.cell? ⟨R, 2, none⟩ = some (.int .i64 y) ∧ w'.cell? ⟨R, 3, none⟩ = some (.slice (some ⟨p, 0, none⟩) N N) ∧ w'.cell? ⟨R, 4, none⟩ = some (.slice (some ⟨q, 0, none⟩) N N)) ∧ w'.cell? ⟨b, off + k * 4, none⟩ = some (.int .i64 X) ∧ w'.cell? ⟨b, off + k * 4 + 1, none⟩ = some (.int .i64 Y) ∧ w'.cell? ⟨b, off + k * 4 + 2, none⟩ = some (.int .i64 Z) ∧ w'.cell? ⟨b, off + k * 4 + 3, none⟩ = some (.int .i64 U)) ∧ w'.cell? ⟨p, i, none⟩ = some (.int .i64 c0)) (by kernel_rfl) (⟨⟨⟨HG.out.r.cell 0, HG.out.r.cell 1, HG.out.r.cell 2, HG.out.r.cell 3, HG.out.r.cell 4⟩, hc0, hc1, hc2, hc3⟩, hcc⟩) (fun hHeld => ?_)
        refine wpAnyH_take (i := 0) (oi := ?oiy0) (v := ?vy0) ?hiy0 (by kernel_rfl) (by kernel_rfl) (by kernel_rfl) ?hQy0 ?hyy0 (by assumption) ?hry0
        case hiy0 => (simp only [List.getElem?_toArray, List.getElem?_cons_succ, List.getElem?_cons_zero]; rfl)
        case hQy0 => exact fun _ _ _ h => h
        case hyy0 => (refine Or.inl ⟨by rfl, ?_⟩; intro w hSw; (try dsimp only at hSw); (go_simp <;> with_reducible rfl))
        (try simp only [Act.put, List.setIfInBounds_toArray, List.set_cons_zero, List.set_cons_succ])
        refine wpAnyH_take (i := 1) (oi := ?oiy1) (v := ?vy1) ?hiy1 (by kernel_rfl) (by kernel_rfl) (by kernel_rfl) ?hQy1 ?hyy1 (by assumption) ?hry1
        case hiy1 => (simp only [List.getElem?_toArray, List.getElem?_cons_succ, List.getElem?_cons_zero]; rfl)
        case hQy1 => exact fun _ _ _ h => h
        case hyy1 => (refine Or.inl ⟨by rfl, ?_⟩; intro w hSw; (try dsimp only at hSw); (go_simp <;> with_reducible rfl))
        (try simp only [Act.put, List.setIfInBounds_toArray, List.set_cons_zero, List.set_cons_succ])
        refine wpAnyH_take (i := 2) (oi := ?oiy2) (v := ?vy2) ?hiy2 (by kernel_rfl) (by kernel_rfl) (by kernel_rfl) ?hQy2 ?hyy2 (by assumption) ?hry2
        case hiy2 => (simp only [List.getElem?_toArray, List.getElem?_cons_succ, List.getElem?_cons_zero]; rfl)
        case hQy2 => exact fun _ _ _ h => h
        case hyy2 => (refine Or.inl ⟨by rfl, ?_⟩; intro w hSw; (try dsimp only at hSw); (go_simp <;> with_reducible rfl))
        (try simp only [Act.put, List.setIfInBounds_toArray, List.set_cons_zero, List.set_cons_succ])
        refine wpAnyH_take (i := 3) (oi := ?oiy3) (v := ?vy3) ?hiy3 (by kernel_rfl) (by kernel_rfl) (by kernel_rfl) ?hQy3 ?hyy3 (by assumption) ?hry3
        case hiy3 => (simp only [List.getElem?_toArray, List.getElem?_cons_succ, List.getElem?_cons_zero]; rfl)
        case hQy3 => exact fun _ _ _ h => h
        case hyy3 => (refine Or.inl ⟨by rfl, ?_⟩; intro w hSw; (try dsimp only at hSw); (go_simp <;> with_reducible rfl))
        (try simp only [Act.put, List.setIfInBounds_toArray, List.set_cons_zero, List.set_cons_succ])
        refine wpAnyH_take (i := 4) (oi := ?oiy4) (v := ?vy4) ?hiy4 (by kernel_rfl) (by kernel_rfl) (by kernel_rfl) ?hQy4 ?hyy4 (by assumption) ?hry4
        case hiy4 => (simp only [List.getElem?_toArray, List.getElem?_cons_succ, List.getElem?_cons_zero]; rfl)
        case hQy4 => exact fun _ _ _ h => h
        case hyy4 => (refine Or.inl ⟨by rfl, ?_⟩; intro w hSw; (try dsimp only at hSw); (go_simp <;> with_reducible rfl))
        (try simp only [Act.put, List.setIfInBounds_toArray, List.set_cons_zero, List.set_cons_succ])
        refine wpAnyH_take (i := 5) (oi := ?oiy5) (v := ?vy5) ?hiy5 (by kernel_rfl) (by kernel_rfl) (by kernel_rfl) ?hQy5 ?hyy5 (by assumption) ?hry5
        case hiy5 => (simp only [List.getElem?_toArray, List.getElem?_cons_succ, List.getElem?_cons_zero]; rfl)
        case hQy5 => exact fun _ _ _ h => h
        case hyy5 => (refine Or.inl ⟨by rfl, ?_⟩; intro w hSw; (try dsimp only at hSw); (go_simp <;> with_reducible rfl))
        (try simp only [Act.put, List.setIfInBounds_toArray, List.set_cons_zero, List.set_cons_succ])
        refine wpAnyH_take (i := 6) (oi := ?oiy6) (v := ?vy6) ?hiy6 (by kernel_rfl) (by kernel_rfl) (by kernel_rfl) ?hQy6 ?hyy6 (by assumption) ?hry6
        case hiy6 => (simp only [List.getElem?_toArray, List.getElem?_cons_succ, List.getElem?_cons_zero]; rfl)
        case hQy6 => exact fun _ _ _ h => h
        case hyy6 => (refine Or.inl ⟨by rfl, ?_⟩; intro w hSw; (try dsimp only at hSw); (go_simp <;> with_reducible rfl))
        (try simp only [Act.put, List.setIfInBounds_toArray, List.set_cons_zero, List.set_cons_succ])
        refine wpAnyH_take (i := 7) (oi := ?oiy7) (v := ?vy7) ?hiy7 (by kernel_rfl) (by kernel_rfl) (by kernel_rfl) ?hQy7 ?hyy7 (by assumption) ?hry7
        case hiy7 => (simp only [List.getElem?_toArray, List.getElem?_cons_succ, List.getElem?_cons_zero]; rfl)
        case hQy7 => exact fun _ _ _ h => h
        case hyy7 => (refine Or.inl ⟨by rfl, ?_⟩; intro w hSw; (try dsimp only at hSw); (go_simp <;> with_reducible rfl))
        (try simp only [Act.put, List.setIfInBounds_toArray, List.set_cons_zero, List.set_cons_succ])
        refine wpAnyH_take (i := 8) (oi := ?oiy8) (v := ?vy8) ?hiy8 (by kernel_rfl) (by kernel_rfl) (by kernel_rfl) ?hQy8 ?hyy8 (by assumption) ?hry8
        case hiy8 => (simp only [List.getElem?_toArray, List.getElem?_cons_succ, List.getElem?_cons_zero]; rfl)
        case hQy8 => exact fun _ _ _ h => h
        case hyy8 => (refine Or.inl ⟨by rfl, ?_⟩; intro w hSw; (try dsimp only at hSw); (go_simp <;> with_reducible rfl))
        (try simp only [Act.put, List.setIfInBounds_toArray, List.set_cons_zero, List.set_cons_succ])
        refine wpAnyH_take (i := 9) (oi := ?oiy9) (v := ?vy9) ?hiy9 (by kernel_rfl) (by kernel_rfl) (by kernel_rfl) ?hQy9 ?hyy9 (by assumption) ?hry9
        case hiy9 => (simp only [List.getElem?_toArray, List.getElem?_cons_succ, List.getElem?_cons_zero]; rfl)
        case hQy9 => exact fun _ _ _ h => h
        case hyy9 => (refine Or.inl ⟨by rfl, ?_⟩; intro w hSw; (try dsimp only at hSw); (go_simp <;> with_reducible rfl))
        (try simp only [Act.put, List.setIfInBounds_toArray, List.set_cons_zero, List.set_cons_succ])
        refine wpAnyH_take (i := 10) (oi := ?oiy10) (v := ?vy10) ?hiy10 (by kernel_rfl) (by kernel_rfl) (by kernel_rfl) ?hQy10 ?hyy10 (by assumption) ?hry10
        case hiy10 => (simp only [List.getElem?_toArray, List.getElem?_cons_succ, List.getElem?_cons_zero]; rfl)
        case hQy10 => exact fun _ _ _ h => h
        case hyy10 => (refine Or.inl ⟨by rfl, ?_⟩; intro w hSw; (try dsimp only at hSw); (go_simp <;> with_reducible rfl))
        (try simp only [Act.put, List.setIfInBounds_toArray, List.set_cons_zero, List.set_cons_succ])
        refine wpAnyH_take (i := 11) (oi := ?oiy11) (v := ?vy11) ?hiy11 (by kernel_rfl) (by kernel_rfl) (by kernel_rfl) ?hQy11 ?hyy11 (by assumption) ?hry11
        case hiy11 => (simp only [List.getElem?_toArray, List.getElem?_cons_succ, List.getElem?_cons_zero]; rfl)
        case hQy11 => exact fun _ _ _ h => h
        case hyy11 => (refine Or.inl ⟨by rfl, ?_⟩; intro w hSw; (try dsimp only at hSw); (go_simp <;> with_reducible rfl))
        (try simp only [Act.put, List.setIfInBounds_toArray, List.set_cons_zero, List.set_cons_succ])
        refine wpAnyH_ready (rs := [12]) (by kernel_rfl) (by simp) ?_
        refine AllReadyH.cons (o := ?oiy12) ?hiy12 ?hay12 AllReadyH.nil
        case hiy12 => (simp only [List.getElem?_toArray, List.getElem?_cons_succ, List.getElem?_cons_zero]; rfl)
        intro K hK
        go_simp
        go_at_call 30
        refine (l21Bounds_any _ _ _ _ _ tz tu).mono ?_
        rintro e w8 ⟨rfl, hb⟩
        replace HG := Lib.hid (HG.out.drew.below hb)
        have L8 := Lib.hid ((h.below4 HG.out.B (Nat.le_refl _)).get4_ hx.out)
        have C8 := Lib.hid ((HG.out.c.cellAt i (by omega)).trans (ints_get HX.out))
        clear hb
        refine hK.out _ _ (⟨⟨⟨HG.out.r.cell 0, HG.out.r.cell 1, HG.out.r.cell 2, HG.out.r.cell 3, HG.out.r.cell 4⟩, by first | exact L9.out | exact L8.out⟩, by first | exact C9.out | exact C8.out⟩) (fun hHeld => ?_)
        clear hK K
        (try simp only [Act.put, List.setIfInBounds_toArray, List.set_cons_zero, List.set_cons_succ])
        refine wpAnyH_ready (rs := [13]) (by kernel_rfl) (by simp) ?_
        refine AllReadyH.cons (o := ?oiy13) ?hiy13 ?hay13 AllReadyH.nil
        case hiy13 => (simp only [List.getElem?_toArray, List.getElem?_cons_succ, List.getElem?_cons_zero]; rfl)
        intro K hK
        go_simp
        go_at_call 29
        refine (l22Add_any _ _ _ _ _ _ _ _ _ _ _ _ _ _ HG.out.d hiN (by omega)).mono ?_
        rintro e w9 ⟨⟨v, rfl⟩, Od, hg⟩
        replace HG := Lib.hid (HG.out.addD Od hg)
        have L9 := Lib.hid ((h.below4 HG.out.B (Nat.le_refl _)).get4_ hx.out)
        have C9 := Lib.hid ((HG.out.c.cellAt i (by omega)).trans (ints_get HX.out))
        clear Od hg
        refine hK.out _ _ (⟨⟨⟨HG.out.r.cell 0, HG.out.r.cell 1, HG.out.r.cell 2, HG.out.r.cell 3, HG.out.r.cell 4⟩, by first | exact L9.out | exact L8.out⟩, by first | exact C9.out | exact C8.out⟩) (fun hHeld => ?_)
        clear hK K
        (try simp only [Act.put, List.setIfInBounds_toArray, List.set_cons_zero, List.set_cons_succ])
        refine wpAnyH_done (by kernel_rfl) ?_ _
        clear r0 r1 r2 r3 r4 hc0 hc1 hc2 hc3 hcc L7 L8
        have r0 : w9.cell? ⟨R, 0, none⟩ = some (.int .i64 s) := HG.out.r.cell 0
        have r1 : w9.cell? ⟨R, 1, none⟩ = some (.int .i64 x) := HG.out.r.cell 1
        have r2 : w9.cell? ⟨R, 2, none⟩ = some (.int .i64 y) := HG.out.r.cell 2
        have r3 : w9.cell? ⟨R, 3, none⟩ = some (.slice (some ⟨p, 0, none⟩) N N) := HG.out.r.cell 3
        have r4 : w9.cell? ⟨R, 4, none⟩ = some (.slice (some ⟨q, 0, none⟩) N N) := HG.out.r.cell 4
        have hcc : w9.cell? ⟨p, i, none⟩ = some (.int .i64 c0) := C9.out
        have fp := HG.out.c.frozenAt i
        clear C8 C9 L9
        go_wp2_with fail
        go_region
        have hst := HG.out.c.stored i (.int .i64 (c0 + 1))
        rw [ints_set] at hst
        have HG2 := Lib.hid ((HG.out.addC hst.1 hst.2).drew)
        clear hst HG
        have hadd2 : Hid (GInv s x y ss N (k + 1) (cs.set i (c0 + 1)) (ds.set i (if decide (0 < c0) then hullP (ds[i]?.getD (0, 0)) (Z - U, Z + U) else (Z - U, Z + U)))) := by
          have e1 : addC cs i = cs.set i (c0 + 1) := by simp [addC, HX.out]
          have e2 : addD cs ds i (lowOf (X, Y, Z, U), highOf (X, Y, Z, U)) = ds.set i (if decide (0 < c0) then hullP (ds[i]?.getD (0, 0)) (Z - U, Z + U) else (Z - U, Z + U)) := by
            rw [addD, HX.out, Option.getD_some]
            rcases Int.lt_or_eq_of_le hcb.1 with h1 | h1
            · rw [if_neg (by omega), if_pos (by simpa using h1)]; rfl
            · rw [if_pos h1.symm, if_neg (by simp; omega)]; rfl
          have := hadd.out
          rw [e1, e2] at this
          exact this
        clear hadd
        go_wp2
        go_roundw
        case rel => exact ⟨k + 1, _, _, by go_num, by omega, HG2.out, hadd2⟩
        case measure => simp [intOf] <;> omega
    · have hd := hend _ _ (HI.out.done h.len4 hlt HN.out)
      have r0 : wr.cell? ⟨R, 0, none⟩ = some (.int .i64 s) := G.r.cell 0
      have r1 : wr.cell? ⟨R, 1, none⟩ = some (.int .i64 x) := G.r.cell 1
      have r2 : wr.cell? ⟨R, 2, none⟩ = some (.int .i64 y) := G.r.cell 2
      have r3 : wr.cell? ⟨R, 3, none⟩ = some (.slice (some ⟨p, 0, none⟩) N N) := G.r.cell 3
      have r4 : wr.cell? ⟨R, 4, none⟩ = some (.slice (some ⟨q, 0, none⟩) N N) := G.r.cell 4
      have z0 : wr.cell? ⟨w.heap.size, 0, none⟩ = some (.int .i64 0) := G.b.cell 0; have fz0 := G.b.frozen 0
      have z1 : wr.cell? ⟨w.heap.size, 1, none⟩ = some (.int .i64 0) := G.b.cell 1; have fz1 := G.b.frozen 1
      have z2 : wr.cell? ⟨w.heap.size, 2, none⟩ = some (.int .i64 0) := G.b.cell 2; have fz2 := G.b.frozen 2
      have z3 : wr.cell? ⟨w.heap.size, 3, none⟩ = some (.slice none 0 0) := G.b.cell 3; have fz3 := G.b.frozen 3
      have z4 : wr.cell? ⟨w.heap.size, 4, none⟩ = some (.slice none 0 0) := G.b.cell 4; have fz4 := G.b.frozen 4
      go_wp2
      obtain ⟨w6, hw6⟩ : ∃ w6, ((((wr.setCell ⟨w.heap.size, 0, none⟩ (.int .i64 s)).setCell ⟨w.heap.size, 1, none⟩ (.int .i64 x)).setCell ⟨w.heap.size, 2, none⟩ (.int .i64 y)).setCell ⟨w.heap.size, 3, none⟩ (.slice (some ⟨p, 0, none⟩) N N)).setCell ⟨w.heap.size, 4, none⟩ (.slice (some ⟨q, 0, none⟩) N N) = w6 := ⟨_, rfl⟩
      have K6 : Blk w6 w.heap.size 27 #[.int .i64 s, .int .i64 x, .int .i64 y, .slice (some ⟨p, 0, none⟩) N N, .slice (some ⟨q, 0, none⟩) N N] := hw6 ▸ G.b.five _ _ _ _ _
      have B6 : Below w.heap.size w w6 := hw6 ▸ below_five G.B _ _ _ _ _
      have C6 : Own w6 p (p + 1) 2 1 (some ⟨p, 0, none⟩) N N (ints cs) := hw6 ▸ own_five G.c (by have := G.p0; omega) _ _ _ _ _
      have D6 : Own w6 q (q + 1) 49 2 (some ⟨q, 0, none⟩) N N (prs ds) := hw6 ▸ own_five G.d (by have := G.p0; omega) _ _ _ _ _
      rw [hw6]
      clear z0 z1 z2 z3 z4 fz0 fz1 fz2 fz3 fz4
      have z0 : w6.cell? ⟨w.heap.size, 0, none⟩ = some (.int .i64 s) := K6.cell 0
      have z1 : w6.cell? ⟨w.heap.size, 1, none⟩ = some (.int .i64 x) := K6.cell 1
      have z2 : w6.cell? ⟨w.heap.size, 2, none⟩ = some (.int .i64 y) := K6.cell 2
      have z3 : w6.cell? ⟨w.heap.size, 3, none⟩ = some (.slice (some ⟨p, 0, none⟩) N N) := K6.cell 3
      have z4 : w6.cell? ⟨w.heap.size, 4, none⟩ = some (.slice (some ⟨q, 0, none⟩) N N) := K6.cell 4
      refine bodyPost_ret (v := .tuple #[.agg #[.int .i64 s, .int .i64 x, .int .i64 y, .slice (some ⟨p, 0, none⟩) N N, .slice (some ⟨q, 0, none⟩) N N], .int .i64 0]) (by simp [results, go_sem, z0, z1, z2, z3, z4]) rfl ?_
      rw [GridPost, hd]
      exact ⟨_, _, p, q, N, rfl, G.pq, by have := G.p0; omega, by have := G.p0; omega, hN9, C6, D6, B6⟩
end Go.Proofs.Ytciicolknphcnaa
