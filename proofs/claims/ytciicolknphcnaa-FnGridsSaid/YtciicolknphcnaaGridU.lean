/- GridSoundings: the program's walk. -/
import Derived.Test.YtciicolknphcnaaGridT
namespace Go.Proofs.Ytciicolknphcnaa
open Go.RowKit
set_option maxRecDepth 100000
set_option linter.unusedVariables false
set_option linter.unusedSimpArgs false
set_option linter.unusedVariables false

theorem GSt.add2 {w wr wr' w1 : World} {R p q N : Nat} {s x y : Int} {cs cs' : List Int} {ds ds' : List (Int × Int)} (h : GSt w wr R p q N s x y cs ds) (hc : Own wr' p (p + 1) 2 1 (some ⟨p, 0, none⟩) N N (ints cs')) (hd : Own wr' q (q + 1) 49 2 (some ⟨q, 0, none⟩) N N (prs ds')) (g1 : wr.grownBy w1 (some q)) (g2 : w1.grownBy wr' (some p)) : GSt w wr' R p q N s x y cs' ds' :=
  { c := hc, d := hd, r := (h.r.grown g1 (fun e => by injection e with e; have := h.pR; omega)).grown g2 (fun e => by injection e with e; have := h.pR; omega), b := (h.b.grown g1 (fun e => by injection e with e; have := h.p0; omega)).grown g2 (fun e => by injection e with e; have := h.p0; omega), B := (h.B.grown g1 h.B.size (fun g e => by injection e with e; have := h.p0; omega)).grown g2 (Nat.le_trans h.B.size g1.size) (fun g e => by injection e with e; have := h.p0; omega), pq := h.pq, pR := h.pR, p0 := h.p0 }

theorem gridNew0 (s x y : Int) {w w2 : World} {H N : Nat} (hH : w2.heap.size = H) (hlt : w.heap.size < H) (hN : N ≤ 900) (K : Blk w2 w.heap.size 27 #[.int .i64 0, .int .i64 0, .int .i64 0, .slice none 0 0, .slice none 0 0]) (B : Below w.heap.size w w2) : GSt w (((w2.alloc (.cells (madeCells #[.int .i64 0] N) 2)).alloc (.cells (madeCells #[.int .i64 0, .int .i64 0] (N * 2)) 49)).alloc (.cells #[.int .i64 s, .int .i64 x, .int .i64 y, .slice (some ⟨H, 0, none⟩) N N, .slice (some ⟨(H + 1), 0, none⟩) N N] 27)).drew (H + 1 + 1) H (H + 1) N s x y (List.replicate N 0) (List.replicate N (0, 0)) := by
  subst hH
  have h1 := Own.made w2 (.int .i64 0) (n := N) (E := 2) (by simp only [maxLen]; omega)
  have h2 := Own.madeK (w2.alloc (.cells (madeCells #[.int .i64 0] N) 2)) #[.int .i64 0, .int .i64 0] (n := N) (E := 49) (s := 2) (by simp only [maxLen]; omega)
  rw [made_prs] at h2
  rw [show (List.replicate N (Value.int .i64 0)) = ints (List.replicate N 0) by simp [ints]] at h1
  simp only [World.heap_alloc_size'] at h1 h2
  exact { c := ((h1.alloc _).alloc _).drew, d := (h2.alloc _).drew, r := ((Blk.new' _ _ _ (by simp))).drew, b := (((K.alloc _).alloc _).alloc _).drew, B := (((B.alloc (by omega) _).alloc (by simp; omega) _).alloc (by simp; omega) _).drew, pq := by omega, pR := ⟨by omega, by omega⟩, p0 := ⟨by omega, by omega, by omega⟩ }
theorem gridNew1 (s x y : Int) {w w2 : World} {H N : Nat} (hH : w2.heap.size = H) (hlt : w.heap.size < H) (hN : N ≤ 900) (K : Blk w2 w.heap.size 27 #[.int .i64 0, .int .i64 0, .int .i64 0, .slice none 0 0, .slice none 0 0]) (B : Below w.heap.size w w2) : GSt w (((w2.alloc (.cells (madeCells #[.int .i64 0] N) 2)).alloc (.cells #[.int .i64 s, .int .i64 x, .int .i64 y, .slice (some ⟨H, 0, none⟩) N N, .slice (some ⟨(H + 1 + 1), 0, none⟩) N N] 27)).alloc (.cells (madeCells #[.int .i64 0, .int .i64 0] (N * 2)) 49)).drew (H + 1) H (H + 1 + 1) N s x y (List.replicate N 0) (List.replicate N (0, 0)) := by
  subst hH
  have h1 := Own.made w2 (.int .i64 0) (n := N) (E := 2) (by simp only [maxLen]; omega)
  have h2 := Own.madeK ((w2.alloc (.cells (madeCells #[.int .i64 0] N) 2)).alloc (.cells #[.int .i64 s, .int .i64 x, .int .i64 y, .slice (some ⟨w2.heap.size, 0, none⟩) N N, .slice (some ⟨(w2.heap.size + 1 + 1), 0, none⟩) N N] 27)) #[.int .i64 0, .int .i64 0] (n := N) (E := 49) (s := 2) (by simp only [maxLen]; omega)
  rw [made_prs] at h2
  rw [show (List.replicate N (Value.int .i64 0)) = ints (List.replicate N 0) by simp [ints]] at h1
  simp only [World.heap_alloc_size'] at h1 h2
  exact { c := ((h1.alloc _).alloc _).drew, d := (h2).drew, r := ((Blk.new' _ _ _ (by simp)).alloc _).drew, b := (((K.alloc _).alloc _).alloc _).drew, B := (((B.alloc (by omega) _).alloc (by simp; omega) _).alloc (by simp; omega) _).drew, pq := by omega, pR := ⟨by omega, by omega⟩, p0 := ⟨by omega, by omega, by omega⟩ }
theorem gridNew2 (s x y : Int) {w w2 : World} {H N : Nat} (hH : w2.heap.size = H) (hlt : w.heap.size < H) (hN : N ≤ 900) (K : Blk w2 w.heap.size 27 #[.int .i64 0, .int .i64 0, .int .i64 0, .slice none 0 0, .slice none 0 0]) (B : Below w.heap.size w w2) : GSt w (((w2.alloc (.cells (madeCells #[.int .i64 0, .int .i64 0] (N * 2)) 49)).alloc (.cells (madeCells #[.int .i64 0] N) 2)).alloc (.cells #[.int .i64 s, .int .i64 x, .int .i64 y, .slice (some ⟨(H + 1), 0, none⟩) N N, .slice (some ⟨H, 0, none⟩) N N] 27)).drew (H + 1 + 1) (H + 1) H N s x y (List.replicate N 0) (List.replicate N (0, 0)) := by
  subst hH
  have h1 := Own.made (w2.alloc (.cells (madeCells #[.int .i64 0, .int .i64 0] (N * 2)) 49)) (.int .i64 0) (n := N) (E := 2) (by simp only [maxLen]; omega)
  have h2 := Own.madeK w2 #[.int .i64 0, .int .i64 0] (n := N) (E := 49) (s := 2) (by simp only [maxLen]; omega)
  rw [made_prs] at h2
  rw [show (List.replicate N (Value.int .i64 0)) = ints (List.replicate N 0) by simp [ints]] at h1
  simp only [World.heap_alloc_size'] at h1 h2
  exact { c := (h1.alloc _).drew, d := ((h2.alloc _).alloc _).drew, r := ((Blk.new' _ _ _ (by simp))).drew, b := (((K.alloc _).alloc _).alloc _).drew, B := (((B.alloc (by omega) _).alloc (by simp; omega) _).alloc (by simp; omega) _).drew, pq := by omega, pR := ⟨by omega, by omega⟩, p0 := ⟨by omega, by omega, by omega⟩ }
theorem gridNew3 (s x y : Int) {w w2 : World} {H N : Nat} (hH : w2.heap.size = H) (hlt : w.heap.size < H) (hN : N ≤ 900) (K : Blk w2 w.heap.size 27 #[.int .i64 0, .int .i64 0, .int .i64 0, .slice none 0 0, .slice none 0 0]) (B : Below w.heap.size w w2) : GSt w (((w2.alloc (.cells (madeCells #[.int .i64 0, .int .i64 0] (N * 2)) 49)).alloc (.cells #[.int .i64 s, .int .i64 x, .int .i64 y, .slice (some ⟨(H + 1 + 1), 0, none⟩) N N, .slice (some ⟨H, 0, none⟩) N N] 27)).alloc (.cells (madeCells #[.int .i64 0] N) 2)).drew (H + 1) (H + 1 + 1) H N s x y (List.replicate N 0) (List.replicate N (0, 0)) := by
  subst hH
  have h1 := Own.made ((w2.alloc (.cells (madeCells #[.int .i64 0, .int .i64 0] (N * 2)) 49)).alloc (.cells #[.int .i64 s, .int .i64 x, .int .i64 y, .slice (some ⟨(w2.heap.size + 1 + 1), 0, none⟩) N N, .slice (some ⟨w2.heap.size, 0, none⟩) N N] 27)) (.int .i64 0) (n := N) (E := 2) (by simp only [maxLen]; omega)
  have h2 := Own.madeK w2 #[.int .i64 0, .int .i64 0] (n := N) (E := 49) (s := 2) (by simp only [maxLen]; omega)
  rw [made_prs] at h2
  rw [show (List.replicate N (Value.int .i64 0)) = ints (List.replicate N 0) by simp [ints]] at h1
  simp only [World.heap_alloc_size'] at h1 h2
  exact { c := (h1).drew, d := ((h2.alloc _).alloc _).drew, r := ((Blk.new' _ _ _ (by simp)).alloc _).drew, b := (((K.alloc _).alloc _).alloc _).drew, B := (((B.alloc (by omega) _).alloc (by simp; omega) _).alloc (by simp; omega) _).drew, pq := by omega, pR := ⟨by omega, by omega⟩, p0 := ⟨by omega, by omega, by omega⟩ }
theorem gridNew4 (s x y : Int) {w w2 : World} {H N : Nat} (hH : w2.heap.size = H) (hlt : w.heap.size < H) (hN : N ≤ 900) (K : Blk w2 w.heap.size 27 #[.int .i64 0, .int .i64 0, .int .i64 0, .slice none 0 0, .slice none 0 0]) (B : Below w.heap.size w w2) : GSt w (((w2.alloc (.cells #[.int .i64 s, .int .i64 x, .int .i64 y, .slice (some ⟨(H + 1), 0, none⟩) N N, .slice (some ⟨(H + 1 + 1), 0, none⟩) N N] 27)).alloc (.cells (madeCells #[.int .i64 0] N) 2)).alloc (.cells (madeCells #[.int .i64 0, .int .i64 0] (N * 2)) 49)).drew H (H + 1) (H + 1 + 1) N s x y (List.replicate N 0) (List.replicate N (0, 0)) := by
  subst hH
  have h1 := Own.made (w2.alloc (.cells #[.int .i64 s, .int .i64 x, .int .i64 y, .slice (some ⟨(w2.heap.size + 1), 0, none⟩) N N, .slice (some ⟨(w2.heap.size + 1 + 1), 0, none⟩) N N] 27)) (.int .i64 0) (n := N) (E := 2) (by simp only [maxLen]; omega)
  have h2 := Own.madeK ((w2.alloc (.cells #[.int .i64 s, .int .i64 x, .int .i64 y, .slice (some ⟨(w2.heap.size + 1), 0, none⟩) N N, .slice (some ⟨(w2.heap.size + 1 + 1), 0, none⟩) N N] 27)).alloc (.cells (madeCells #[.int .i64 0] N) 2)) #[.int .i64 0, .int .i64 0] (n := N) (E := 49) (s := 2) (by simp only [maxLen]; omega)
  rw [made_prs] at h2
  rw [show (List.replicate N (Value.int .i64 0)) = ints (List.replicate N 0) by simp [ints]] at h1
  simp only [World.heap_alloc_size'] at h1 h2
  exact { c := (h1.alloc _).drew, d := (h2).drew, r := (((Blk.new' _ _ _ (by simp)).alloc _).alloc _).drew, b := (((K.alloc _).alloc _).alloc _).drew, B := (((B.alloc (by omega) _).alloc (by simp; omega) _).alloc (by simp; omega) _).drew, pq := by omega, pR := ⟨by omega, by omega⟩, p0 := ⟨by omega, by omega, by omega⟩ }
theorem gridNew5 (s x y : Int) {w w2 : World} {H N : Nat} (hH : w2.heap.size = H) (hlt : w.heap.size < H) (hN : N ≤ 900) (K : Blk w2 w.heap.size 27 #[.int .i64 0, .int .i64 0, .int .i64 0, .slice none 0 0, .slice none 0 0]) (B : Below w.heap.size w w2) : GSt w (((w2.alloc (.cells #[.int .i64 s, .int .i64 x, .int .i64 y, .slice (some ⟨(H + 1 + 1), 0, none⟩) N N, .slice (some ⟨(H + 1), 0, none⟩) N N] 27)).alloc (.cells (madeCells #[.int .i64 0, .int .i64 0] (N * 2)) 49)).alloc (.cells (madeCells #[.int .i64 0] N) 2)).drew H (H + 1 + 1) (H + 1) N s x y (List.replicate N 0) (List.replicate N (0, 0)) := by
  subst hH
  have h1 := Own.made ((w2.alloc (.cells #[.int .i64 s, .int .i64 x, .int .i64 y, .slice (some ⟨(w2.heap.size + 1 + 1), 0, none⟩) N N, .slice (some ⟨(w2.heap.size + 1), 0, none⟩) N N] 27)).alloc (.cells (madeCells #[.int .i64 0, .int .i64 0] (N * 2)) 49)) (.int .i64 0) (n := N) (E := 2) (by simp only [maxLen]; omega)
  have h2 := Own.madeK (w2.alloc (.cells #[.int .i64 s, .int .i64 x, .int .i64 y, .slice (some ⟨(w2.heap.size + 1 + 1), 0, none⟩) N N, .slice (some ⟨(w2.heap.size + 1), 0, none⟩) N N] 27)) #[.int .i64 0, .int .i64 0] (n := N) (E := 49) (s := 2) (by simp only [maxLen]; omega)
  rw [made_prs] at h2
  rw [show (List.replicate N (Value.int .i64 0)) = ints (List.replicate N 0) by simp [ints]] at h1
  simp only [World.heap_alloc_size'] at h1 h2
  exact { c := (h1).drew, d := (h2.alloc _).drew, r := (((Blk.new' _ _ _ (by simp)).alloc _).alloc _).drew, b := (((K.alloc _).alloc _).alloc _).drew, B := (((B.alloc (by omega) _).alloc (by simp; omega) _).alloc (by simp; omega) _).drew, pq := by omega, pR := ⟨by omega, by omega⟩, p0 := ⟨by omega, by omega, by omega⟩ }

set_option maxHeartbeats 51200000 in
theorem gridSnd_impl (s x y : Int) (a : Option Addr) (n c : Nat) (ss : List I4) (w : World) (h : Row w 4 a n (frs ss)) (hn : n ≤ 1048576) :
    Calls Try.prog 8 #[.int .i64 s, .int .i64 x, .int .i64 y, .slice a n c] w fun e w' => GridPost s x y ss w e w' := by
  have h1 := h.alloc4 (.cells #[.int .i64 0, .int .i64 0, .int .i64 0, .slice none 0 0, .slice none 0 0] 27)
  have K := Lib.hid (Blk.new w 27 #[.int .i64 0, .int .i64 0, .int .i64 0, .slice none 0 0, .slice none 0 0])
  have B := Lib.hid ((Below.refl w.heap.size w).alloc (Nat.le_refl _) (.cells #[.int .i64 0, .int .i64 0, .int .i64 0, .slice none 0 0, .slice none 0 0] 27))
  cases hsn : sndsOk ss
  · go_enter Try.func8, Try.ntmps8
    go_wp2_with fail
    go_at_call 32
    refine (areSoundings_impl _ _ _ _ _ h1 hn).mono ?_
    rintro e w2 ⟨rfl, hb⟩
    have K2 := K.out.belowSelf hb
    have B2 := B.out.trans (hb.mono B.out.size)
    have z0 : w2.cell? ⟨w.heap.size, 0, none⟩ = some (.int .i64 0) := K2.cell 0; have fz0 := K2.frozen 0
    have z1 : w2.cell? ⟨w.heap.size, 1, none⟩ = some (.int .i64 0) := K2.cell 1; have fz1 := K2.frozen 1
    have z2 : w2.cell? ⟨w.heap.size, 2, none⟩ = some (.int .i64 0) := K2.cell 2; have fz2 := K2.frozen 2
    have z3 : w2.cell? ⟨w.heap.size, 3, none⟩ = some (.slice none 0 0) := K2.cell 3; have fz3 := K2.frozen 3
    have z4 : w2.cell? ⟨w.heap.size, 4, none⟩ = some (.slice none 0 0) := K2.cell 4; have fz4 := K2.frozen 4
    have hlt := K2.lt
    clear hb
    rw [hsn]
    go_wp2
    obtain ⟨w6, hw6⟩ : ∃ w6, ((((w2.setCell ⟨w.heap.size, 0, none⟩ (.int .i64 0)).setCell ⟨w.heap.size, 1, none⟩ (.int .i64 0)).setCell ⟨w.heap.size, 2, none⟩ (.int .i64 0)).setCell ⟨w.heap.size, 3, none⟩ (.slice none 0 0)).setCell ⟨w.heap.size, 4, none⟩ (.slice none 0 0) = w6 := ⟨_, rfl⟩
    have K6 : Blk w6 w.heap.size 27 #[.int .i64 0, .int .i64 0, .int .i64 0, .slice none 0 0, .slice none 0 0] := hw6 ▸ K2.five _ _ _ _ _
    have B6 : Below w.heap.size w w6 := hw6 ▸ below_five B2 _ _ _ _ _
    rw [hw6]
    clear z0 z1 z2 z3 z4 fz0 fz1 fz2 fz3 fz4
    have z0 : w6.cell? ⟨w.heap.size, 0, none⟩ = some (.int .i64 0) := K6.cell 0; have fz0 := K6.frozen 0
    have z1 : w6.cell? ⟨w.heap.size, 1, none⟩ = some (.int .i64 0) := K6.cell 1; have fz1 := K6.frozen 1
    have z2 : w6.cell? ⟨w.heap.size, 2, none⟩ = some (.int .i64 0) := K6.cell 2; have fz2 := K6.frozen 2
    have z3 : w6.cell? ⟨w.heap.size, 3, none⟩ = some (.slice none 0 0) := K6.cell 3; have fz3 := K6.frozen 3
    have z4 : w6.cell? ⟨w.heap.size, 4, none⟩ = some (.slice none 0 0) := K6.cell 4; have fz4 := K6.frozen 4
    exact bodyPost_ret (v := .tuple #[.agg #[.int .i64 0, .int .i64 0, .int .i64 0, .slice none 0 0, .slice none 0 0], .int .i64 1]) (by simp [results, go_sem, z0, z1, z2, z3, z4]) rfl (gridPost_no (by simp [gridSnd, hsn]) B6)
  cases hsh : shapeOk s x y
  · go_enter Try.func8, Try.ntmps8
    go_wp2_with fail
    go_at_call 32
    refine (areSoundings_impl _ _ _ _ _ h1 hn).mono ?_
    rintro e w2 ⟨rfl, hb⟩
    have K2 := K.out.belowSelf hb
    have B2 := B.out.trans (hb.mono B.out.size)
    have z0 : w2.cell? ⟨w.heap.size, 0, none⟩ = some (.int .i64 0) := K2.cell 0; have fz0 := K2.frozen 0
    have z1 : w2.cell? ⟨w.heap.size, 1, none⟩ = some (.int .i64 0) := K2.cell 1; have fz1 := K2.frozen 1
    have z2 : w2.cell? ⟨w.heap.size, 2, none⟩ = some (.int .i64 0) := K2.cell 2; have fz2 := K2.frozen 2
    have z3 : w2.cell? ⟨w.heap.size, 3, none⟩ = some (.slice none 0 0) := K2.cell 3; have fz3 := K2.frozen 3
    have z4 : w2.cell? ⟨w.heap.size, 4, none⟩ = some (.slice none 0 0) := K2.cell 4; have fz4 := K2.frozen 4
    have hlt := K2.lt
    clear hb
    rw [hsn]
    go_wp2_with fail
    go_at_call 33
    refine (isGridShape_any _ _ _ _).mono ?_
    rintro e w3 ⟨rfl, rfl⟩
    rw [hsh]
    go_wp2
    obtain ⟨w6, hw6⟩ : ∃ w6, ((((w2.setCell ⟨w.heap.size, 0, none⟩ (.int .i64 0)).setCell ⟨w.heap.size, 1, none⟩ (.int .i64 0)).setCell ⟨w.heap.size, 2, none⟩ (.int .i64 0)).setCell ⟨w.heap.size, 3, none⟩ (.slice none 0 0)).setCell ⟨w.heap.size, 4, none⟩ (.slice none 0 0) = w6 := ⟨_, rfl⟩
    have K6 : Blk w6 w.heap.size 27 #[.int .i64 0, .int .i64 0, .int .i64 0, .slice none 0 0, .slice none 0 0] := hw6 ▸ K2.five _ _ _ _ _
    have B6 : Below w.heap.size w w6 := hw6 ▸ below_five B2 _ _ _ _ _
    rw [hw6]
    clear z0 z1 z2 z3 z4 fz0 fz1 fz2 fz3 fz4
    have z0 : w6.cell? ⟨w.heap.size, 0, none⟩ = some (.int .i64 0) := K6.cell 0; have fz0 := K6.frozen 0
    have z1 : w6.cell? ⟨w.heap.size, 1, none⟩ = some (.int .i64 0) := K6.cell 1; have fz1 := K6.frozen 1
    have z2 : w6.cell? ⟨w.heap.size, 2, none⟩ = some (.int .i64 0) := K6.cell 2; have fz2 := K6.frozen 2
    have z3 : w6.cell? ⟨w.heap.size, 3, none⟩ = some (.slice none 0 0) := K6.cell 3; have fz3 := K6.frozen 3
    have z4 : w6.cell? ⟨w.heap.size, 4, none⟩ = some (.slice none 0 0) := K6.cell 4; have fz4 := K6.frozen 4
    exact bodyPost_ret (v := .tuple #[.agg #[.int .i64 0, .int .i64 0, .int .i64 0, .slice none 0 0, .slice none 0 0], .int .i64 2]) (by simp [results, go_sem, z0, z1, z2, z3, z4]) rfl (gridPost_no (by simp [gridSnd, hsn, hsh]) B6)
  obtain ⟨gs, gx, gy⟩ := shapeOk_true hsh
  have hm := sndsOk_len hsn h.len4
  obtain ⟨N, hN⟩ := Int.eq_ofNat_of_zero_le (Int.mul_nonneg (show 0 ≤ x by omega) (show 0 ≤ y by omega))
  have hN9 : N ≤ 900 := by
    have := Int.mul_le_mul gx.2 gy.2 (by omega) (by omega)
    omega
  have HN := Lib.hid hN
  clear hN
  have hend : ∀ cs ds, gridL s x y ss = (cs, ds) → gridSnd s x y ss = ((s, x, y), (cs, ds), 0) := fun cs ds e => by simp [gridSnd, hsn, hsh, e]
  go_enter Try.func8, Try.ntmps8
  go_wp2_with fail
  go_at_call 32
  refine (areSoundings_impl _ _ _ _ _ h1 hn).mono ?_
  rintro e w2 ⟨rfl, hb⟩
  have K2 := K.out.belowSelf hb
  have B2 := B.out.trans (hb.mono B.out.size)
  have z0 : w2.cell? ⟨w.heap.size, 0, none⟩ = some (.int .i64 0) := K2.cell 0; have fz0 := K2.frozen 0
  have z1 : w2.cell? ⟨w.heap.size, 1, none⟩ = some (.int .i64 0) := K2.cell 1; have fz1 := K2.frozen 1
  have z2 : w2.cell? ⟨w.heap.size, 2, none⟩ = some (.int .i64 0) := K2.cell 2; have fz2 := K2.frozen 2
  have z3 : w2.cell? ⟨w.heap.size, 3, none⟩ = some (.slice none 0 0) := K2.cell 3; have fz3 := K2.frozen 3
  have z4 : w2.cell? ⟨w.heap.size, 4, none⟩ = some (.slice none 0 0) := K2.cell 4; have fz4 := K2.frozen 4
  have hlt := K2.lt
  clear hb
  rw [hsn]
  go_wp2_with fail
  go_at_call 33
  refine (isGridShape_any _ _ _ _).mono ?_
  rintro e w3 ⟨rfl, rfl⟩
  rw [hsh]
  have hmk : ∀ w, (Instr.makeSlice 24 (.int .i64 (N : Int)) (.int .i64 (N : Int))).run Try.prog w = .ok (.slice (some ⟨w.heap.size, 0, none⟩) N N) (w.alloc (.cells (madeCells #[.int .i64 0] N) 2)) := run_make_row' (P := Try.prog) 24 2 (.int .i64 0) 8 Try.underlying24 info_i64 rfl .i64 .i64 N (by omega) (by omega)
  have hmk2 := run_make_rowK (P := Try.prog) 25 49 info_Interval Try.underlying25 N (by omega) (by omega)
  have hxy : x * y = (N : Int) := HN.out
  obtain ⟨H, hH⟩ : ∃ H, w2.heap.size = H := ⟨_, rfl⟩
  have hlt2 : w.heap.size < H := hH ▸ hlt
  clear z0 z1 z2 z3 z4 fz0 fz1 fz2 fz3 fz4
  go_wp2_with fail
  go_region
  · have G := gridNew0 s x y hH hlt2 hN9 K2 B2
    obtain ⟨w5, hw5⟩ : ∃ w5, (((w2.alloc (.cells (madeCells #[.int .i64 0] N) 2)).alloc (.cells (madeCells #[.int .i64 0, .int .i64 0] (N * 2)) 49)).alloc (.cells #[.int .i64 s, .int .i64 x, .int .i64 y, .slice (some ⟨H, 0, none⟩) N N, .slice (some ⟨(H + 1), 0, none⟩) N N] 27)).drew = w5 := ⟨_, rfl⟩
    rw [hw5] at G ⊢
    obtain ⟨R, h_2⟩ : ∃ z, H + 1 + 1 = z := ⟨_, rfl⟩
    rw [h_2] at G ⊢
    obtain ⟨q, h_1⟩ : ∃ z, H + 1 = z := ⟨_, rfl⟩
    rw [h_1] at G ⊢
    obtain ⟨p, h_0⟩ : ∃ z, H = z := ⟨_, rfl⟩
    rw [h_0] at G ⊢
    clear hw5 h_0 h_1 h_2 hmk hmk2 hxy hH hlt2 K2 B2 hlt
    go_wp2_with fail
    go_loopw [40] (fun i wr => ∃ (k : Nat) (cs : List Int) (ds : List (Int × Int)), i = .int .i64 k ∧ k ≤ n ∧ GSt w wr R p q N s x y cs ds ∧ Hid (GInv s x y ss N k cs ds)) (fun i _ => n - (intOf i).toNat)
    case atStart => exact ⟨0, _, _, rfl, Nat.zero_le _, G, Lib.hid (GInv.start _ _ _ _ _)⟩
    case round =>
      clear G
      obtain ⟨k, cs, ds, rfl, hk, G, HI⟩ := hrel
      by_cases hlt : k < n
      · obtain ⟨b, off, X, Y, Z, U, rfl, ⟨hc0, hc1, hc2, hc3⟩, hx⟩ := (h.below4 G.B (Nat.le_refl _)).at4 hlt
        obtain ⟨tx, ty, tz, tu⟩ := sndOk_bd (sndsOk_get hsn hx.out)
        obtain ⟨wa, hwa⟩ : ∃ wa, wr.alloc (.cells #[.int .i64 X, .int .i64 Y, .int .i64 Z, .int .i64 U] 47) = wa := ⟨_, rfl⟩
        obtain ⟨S, hS⟩ : ∃ S, wr.heap.size = S := ⟨_, rfl⟩
        have hpS : p < S := hS ▸ (G.c.lt p rfl).2.2
        have hqS : q < S := hS ▸ (G.d.lt q rfl).2.2
        have HG := Lib.hid (show GSt w wa R p q N s x y cs ds from hwa ▸ G.alloc _)
        have HS := Lib.hid (show Blk wa S 47 #[.int .i64 X, .int .i64 Y, .int .i64 Z, .int .i64 U] from hwa ▸ Blk.new' _ _ _ hS.symm)
        have r0 : wa.cell? ⟨R, 0, none⟩ = some (.int .i64 s) := HG.out.r.cell 0
        have r1 : wa.cell? ⟨R, 1, none⟩ = some (.int .i64 x) := HG.out.r.cell 1
        have r2 : wa.cell? ⟨R, 2, none⟩ = some (.int .i64 y) := HG.out.r.cell 2
        have r3 : wa.cell? ⟨R, 3, none⟩ = some (.slice (some ⟨p, 0, none⟩) N N) := HG.out.r.cell 3
        have r4 : wa.cell? ⟨R, 4, none⟩ = some (.slice (some ⟨q, 0, none⟩) N N) := HG.out.r.cell 4
        have s0 : wa.cell? ⟨S, 0, none⟩ = some (.int .i64 X) := HS.out.cell 0
        have s1 : wa.cell? ⟨S, 1, none⟩ = some (.int .i64 Y) := HS.out.cell 1
        have s2 : wa.cell? ⟨S, 2, none⟩ = some (.int .i64 Z) := HS.out.cell 2
        have s3 : wa.cell? ⟨S, 3, none⟩ = some (.int .i64 U) := HS.out.cell 3
        clear G
        go_wp2_with fail
        go_at_call 34
        refine (cell_any _ _ _ _ _ _ _ _ _ _ _ _ gs gx gy tx ty).mono ?_
        rintro e w7 ⟨rfl, hb⟩
        replace HG := Lib.hid (HG.out.below hb)
        replace HS := Lib.hid (HS.out.belowSelf hb)
        clear hb r0 r1 r2 r3 r4 s0 s1 s2 s3 hc0 hc1 hc2 hc3 hwa hS
        have hbd := cellAt_bd gs.1 gx gy tx.1 ty.1
        obtain ⟨V, hV⟩ : ∃ V, cellAt s x y X Y = V := ⟨_, rfl⟩
        rw [hV] at hbd ⊢
        have HV := Lib.hid hV
        clear hV
        rcases hbd with hneg | ⟨h0, hlx⟩
        · have hneg2 : V < 0 := by omega
          have hskip := Lib.hid (HI.out.skip (t := (X, Y, Z, U)) hx.out (by rw [HV.out]; exact hneg2))
          subst hneg
          clear hneg2
          go_wp2
          go_roundw
          case rel => exact ⟨k + 1, cs, ds, by go_num, by omega, HG.out, hskip⟩
          case measure => simp [intOf] <;> omega
        · obtain ⟨i, rfl⟩ := Int.eq_ofNat_of_zero_le h0
          have hiN : i < N := by have := HN.out; omega
          have hi0 : (0 : Int) ≤ (i : Int) := by omega
          clear hlx h0
          have hadd := Lib.hid (HI.out.add (t := (X, Y, Z, U)) hx.out HV.out)
          have hok := Lib.hid (fun (c : Int) (hc : c ∈ cs) => (show 0 ≤ c ∧ c ≤ 1000 by have := HI.out.1 c hc; omega))
          have r0 : w7.cell? ⟨R, 0, none⟩ = some (.int .i64 s) := HG.out.r.cell 0
          have r1 : w7.cell? ⟨R, 1, none⟩ = some (.int .i64 x) := HG.out.r.cell 1
          have r2 : w7.cell? ⟨R, 2, none⟩ = some (.int .i64 y) := HG.out.r.cell 2
          have r3 : w7.cell? ⟨R, 3, none⟩ = some (.slice (some ⟨p, 0, none⟩) N N) := HG.out.r.cell 3
          have r4 : w7.cell? ⟨R, 4, none⟩ = some (.slice (some ⟨q, 0, none⟩) N N) := HG.out.r.cell 4
          have s0 : w7.cell? ⟨S, 0, none⟩ = some (.int .i64 X) := HS.out.cell 0
          have s1 : w7.cell? ⟨S, 1, none⟩ = some (.int .i64 Y) := HS.out.cell 1
          have s2 : w7.cell? ⟨S, 2, none⟩ = some (.int .i64 Z) := HS.out.cell 2
          have s3 : w7.cell? ⟨S, 3, none⟩ = some (.int .i64 U) := HS.out.cell 3
          go_wp2_with fail
          refine wp_region_held_drew (S := fun w' => (w'.cell? ⟨R, 0, none⟩ = some (.int .i64 s) ∧ w'.cell? ⟨R, 1, none⟩ = some (.int .i64 x) ∧ w'.cell? ⟨R, 2, none⟩ = some (.int .i64 y) ∧ w'.cell? ⟨R, 3, none⟩ = some (.slice (some ⟨p, 0, none⟩) N N) ∧ w'.cell? ⟨R, 4, none⟩ = some (.slice (some ⟨q, 0, none⟩) N N)) ∧ w'.cell? ⟨S, 0, none⟩ = some (.int .i64 X) ∧ w'.cell? ⟨S, 1, none⟩ = some (.int .i64 Y) ∧ w'.cell? ⟨S, 2, none⟩ = some (.int .i64 Z) ∧ w'.cell? ⟨S, 3, none⟩ = some (.int .i64 U)) (by kernel_rfl) (⟨⟨HG.out.r.cell 0, HG.out.r.cell 1, HG.out.r.cell 2, HG.out.r.cell 3, HG.out.r.cell 4⟩, HS.out.cell 0, HS.out.cell 1, HS.out.cell 2, HS.out.cell 3⟩) (fun hHeld => ?_)
          refine wpAnyH_take (i := 0) (oi := ?oia0) (v := ?va0) ?hia0 (by kernel_rfl) (by kernel_rfl) (by kernel_rfl) ?hQa0 ?hya0 (by assumption) ?hra0
          case hia0 => (simp only [List.getElem?_toArray, List.getElem?_cons_succ, List.getElem?_cons_zero]; rfl)
          case hQa0 => exact fun _ _ _ h => h
          case hya0 => (refine Or.inl ⟨by rfl, ?_⟩; intro w hSw; (try dsimp only at hSw); (go_simp <;> with_reducible rfl))
          (try simp only [Act.put, List.setIfInBounds_toArray, List.set_cons_zero, List.set_cons_succ])
          refine wpAnyH_take (i := 1) (oi := ?oia1) (v := ?va1) ?hia1 (by kernel_rfl) (by kernel_rfl) (by kernel_rfl) ?hQa1 ?hya1 (by assumption) ?hra1
          case hia1 => (simp only [List.getElem?_toArray, List.getElem?_cons_succ, List.getElem?_cons_zero]; rfl)
          case hQa1 => exact fun _ _ _ h => h
          case hya1 => (refine Or.inl ⟨by rfl, ?_⟩; intro w hSw; (try dsimp only at hSw); (go_simp <;> with_reducible rfl))
          (try simp only [Act.put, List.setIfInBounds_toArray, List.set_cons_zero, List.set_cons_succ])
          refine wpAnyH_take (i := 2) (oi := ?oia2) (v := ?va2) ?hia2 (by kernel_rfl) (by kernel_rfl) (by kernel_rfl) ?hQa2 ?hya2 (by assumption) ?hra2
          case hia2 => (simp only [List.getElem?_toArray, List.getElem?_cons_succ, List.getElem?_cons_zero]; rfl)
          case hQa2 => exact fun _ _ _ h => h
          case hya2 => (refine Or.inl ⟨by rfl, ?_⟩; intro w hSw; (try dsimp only at hSw); (go_simp <;> with_reducible rfl))
          (try simp only [Act.put, List.setIfInBounds_toArray, List.set_cons_zero, List.set_cons_succ])
          refine wpAnyH_ready (rs := [3]) (by kernel_rfl) (by simp) ?_
          refine AllReadyH.cons (o := ?oia3) ?hia3 ?haa3 AllReadyH.nil
          case hia3 => (simp only [List.getElem?_toArray, List.getElem?_cons_succ, List.getElem?_cons_zero]; rfl)
          intro K hK
          go_simp
          go_at_call 36
          refine (bounds_any _ _ _ _ _ tz tu).mono ?_
          rintro e w8 ⟨rfl, hb⟩
          replace HG := Lib.hid (HG.out.drew.below hb)
          replace HS := Lib.hid (HS.out.drew.belowSelf hb)
          clear hb
          refine hK.out _ _ (⟨⟨HG.out.r.cell 0, HG.out.r.cell 1, HG.out.r.cell 2, HG.out.r.cell 3, HG.out.r.cell 4⟩, HS.out.cell 0, HS.out.cell 1, HS.out.cell 2, HS.out.cell 3⟩) (fun hHeld => ?_)
          clear hK K
          (try simp only [Act.put, List.setIfInBounds_toArray, List.set_cons_zero, List.set_cons_succ])
          refine wpAnyH_ready (rs := [4]) (by kernel_rfl) (by simp) ?_
          refine AllReadyH.cons (o := ?oia4) ?hia4 ?haa4 AllReadyH.nil
          case hia4 => (simp only [List.getElem?_toArray, List.getElem?_cons_succ, List.getElem?_cons_zero]; rfl)
          intro K hK
          go_simp
          go_at_call 35
          refine (add_any _ _ _ _ _ _ _ _ _ _ _ _ HG.out.c HG.out.d HG.out.pq hiN (by omega) hok.out).mono ?_
          rintro e w9 ⟨⟨v, rfl⟩, Oc, Od, w1, g1, g2⟩
          replace HG := Lib.hid (HG.out.add2 Oc Od g1 g2)
          replace HS := Lib.hid ((HS.out.grown g1 (fun e => by injection e with e; omega)).grown g2 (fun e => by injection e with e; omega))
          clear Oc Od g1 g2
          refine hK.out _ _ (⟨⟨HG.out.r.cell 0, HG.out.r.cell 1, HG.out.r.cell 2, HG.out.r.cell 3, HG.out.r.cell 4⟩, HS.out.cell 0, HS.out.cell 1, HS.out.cell 2, HS.out.cell 3⟩) (fun hHeld => ?_)
          clear hK K
          (try simp only [Act.put, List.setIfInBounds_toArray, List.set_cons_zero, List.set_cons_succ])
          refine wpAnyH_done (by kernel_rfl) ?_ _
          clear r0 r1 r2 r3 r4 s0 s1 s2 s3 HS
          go_wp2
          go_roundw
          case rel => exact ⟨k + 1, _, _, by go_num, by omega, HG.out, hadd⟩
          case measure => simp [intOf] <;> omega
      · have hd := hend _ _ (HI.out.done h.len4 hlt HN.out)
        have r0 : wr.cell? ⟨R, 0, none⟩ = some (.int .i64 s) := G.r.cell 0
        have r1 : wr.cell? ⟨R, 1, none⟩ = some (.int .i64 x) := G.r.cell 1
        have r2 : wr.cell? ⟨R, 2, none⟩ = some (.int .i64 y) := G.r.cell 2
        have r3 : wr.cell? ⟨R, 3, none⟩ = some (.slice (some ⟨p, 0, none⟩) N N) := G.r.cell 3
        have r4 : wr.cell? ⟨R, 4, none⟩ = some (.slice (some ⟨q, 0, none⟩) N N) := G.r.cell 4
        have z0 : wr.cell? ⟨w.heap.size, 0, none⟩ = some (.int .i64 0) := G.b.cell 0; have fz0 := G.b.frozen 0
        have z1 : wr.cell? ⟨w.heap.size, 1, none⟩ = some (.int .i64 0) := G.b.cell 1; have fz1 := G.b.frozen 1
        have z2 : wr.cell? ⟨w.heap.size, 2, none⟩ = some (.int .i64 0) := G.b.cell 2; have fz2 := G.b.frozen 2
        have z3 : wr.cell? ⟨w.heap.size, 3, none⟩ = some (.slice none 0 0) := G.b.cell 3; have fz3 := G.b.frozen 3
        have z4 : wr.cell? ⟨w.heap.size, 4, none⟩ = some (.slice none 0 0) := G.b.cell 4; have fz4 := G.b.frozen 4
        go_wp2
        obtain ⟨w6, hw6⟩ : ∃ w6, ((((wr.setCell ⟨w.heap.size, 0, none⟩ (.int .i64 s)).setCell ⟨w.heap.size, 1, none⟩ (.int .i64 x)).setCell ⟨w.heap.size, 2, none⟩ (.int .i64 y)).setCell ⟨w.heap.size, 3, none⟩ (.slice (some ⟨p, 0, none⟩) N N)).setCell ⟨w.heap.size, 4, none⟩ (.slice (some ⟨q, 0, none⟩) N N) = w6 := ⟨_, rfl⟩
        have K6 : Blk w6 w.heap.size 27 #[.int .i64 s, .int .i64 x, .int .i64 y, .slice (some ⟨p, 0, none⟩) N N, .slice (some ⟨q, 0, none⟩) N N] := hw6 ▸ G.b.five _ _ _ _ _
        have B6 : Below w.heap.size w w6 := hw6 ▸ below_five G.B _ _ _ _ _
        have C6 : Own w6 p (p + 1) 2 1 (some ⟨p, 0, none⟩) N N (ints cs) := hw6 ▸ own_five G.c (by have := G.p0; omega) _ _ _ _ _
        have D6 : Own w6 q (q + 1) 49 2 (some ⟨q, 0, none⟩) N N (prs ds) := hw6 ▸ own_five G.d (by have := G.p0; omega) _ _ _ _ _
        rw [hw6]
        clear z0 z1 z2 z3 z4 fz0 fz1 fz2 fz3 fz4
        have z0 : w6.cell? ⟨w.heap.size, 0, none⟩ = some (.int .i64 s) := K6.cell 0
        have z1 : w6.cell? ⟨w.heap.size, 1, none⟩ = some (.int .i64 x) := K6.cell 1
        have z2 : w6.cell? ⟨w.heap.size, 2, none⟩ = some (.int .i64 y) := K6.cell 2
        have z3 : w6.cell? ⟨w.heap.size, 3, none⟩ = some (.slice (some ⟨p, 0, none⟩) N N) := K6.cell 3
        have z4 : w6.cell? ⟨w.heap.size, 4, none⟩ = some (.slice (some ⟨q, 0, none⟩) N N) := K6.cell 4
        refine bodyPost_ret (v := .tuple #[.agg #[.int .i64 s, .int .i64 x, .int .i64 y, .slice (some ⟨p, 0, none⟩) N N, .slice (some ⟨q, 0, none⟩) N N], .int .i64 0]) (by simp [results, go_sem, z0, z1, z2, z3, z4]) rfl ?_
        rw [GridPost, hd]
        exact ⟨_, _, p, q, N, rfl, G.pq, by have := G.p0; omega, by have := G.p0; omega, hN9, C6, D6, B6⟩
  · have G := gridNew1 s x y hH hlt2 hN9 K2 B2
    obtain ⟨w5, hw5⟩ : ∃ w5, (((w2.alloc (.cells (madeCells #[.int .i64 0] N) 2)).alloc (.cells #[.int .i64 s, .int .i64 x, .int .i64 y, .slice (some ⟨H, 0, none⟩) N N, .slice (some ⟨(H + 1 + 1), 0, none⟩) N N] 27)).alloc (.cells (madeCells #[.int .i64 0, .int .i64 0] (N * 2)) 49)).drew = w5 := ⟨_, rfl⟩
    rw [hw5] at G ⊢
    obtain ⟨q, h_2⟩ : ∃ z, H + 1 + 1 = z := ⟨_, rfl⟩
    rw [h_2] at G ⊢
    obtain ⟨R, h_1⟩ : ∃ z, H + 1 = z := ⟨_, rfl⟩
    rw [h_1] at G ⊢
    obtain ⟨p, h_0⟩ : ∃ z, H = z := ⟨_, rfl⟩
    rw [h_0] at G ⊢
    clear hw5 h_0 h_1 h_2 hmk hmk2 hxy hH hlt2 K2 B2 hlt
    go_wp2_with fail
    go_loopw [40] (fun i wr => ∃ (k : Nat) (cs : List Int) (ds : List (Int × Int)), i = .int .i64 k ∧ k ≤ n ∧ GSt w wr R p q N s x y cs ds ∧ Hid (GInv s x y ss N k cs ds)) (fun i _ => n - (intOf i).toNat)
    case atStart => exact ⟨0, _, _, rfl, Nat.zero_le _, G, Lib.hid (GInv.start _ _ _ _ _)⟩
    case round =>
      clear G
      obtain ⟨k, cs, ds, rfl, hk, G, HI⟩ := hrel
      by_cases hlt : k < n
      · obtain ⟨b, off, X, Y, Z, U, rfl, ⟨hc0, hc1, hc2, hc3⟩, hx⟩ := (h.below4 G.B (Nat.le_refl _)).at4 hlt
        obtain ⟨tx, ty, tz, tu⟩ := sndOk_bd (sndsOk_get hsn hx.out)
        obtain ⟨wa, hwa⟩ : ∃ wa, wr.alloc (.cells #[.int .i64 X, .int .i64 Y, .int .i64 Z, .int .i64 U] 47) = wa := ⟨_, rfl⟩
        obtain ⟨S, hS⟩ : ∃ S, wr.heap.size = S := ⟨_, rfl⟩
        have hpS : p < S := hS ▸ (G.c.lt p rfl).2.2
        have hqS : q < S := hS ▸ (G.d.lt q rfl).2.2
        have HG := Lib.hid (show GSt w wa R p q N s x y cs ds from hwa ▸ G.alloc _)
        have HS := Lib.hid (show Blk wa S 47 #[.int .i64 X, .int .i64 Y, .int .i64 Z, .int .i64 U] from hwa ▸ Blk.new' _ _ _ hS.symm)
        have r0 : wa.cell? ⟨R, 0, none⟩ = some (.int .i64 s) := HG.out.r.cell 0
        have r1 : wa.cell? ⟨R, 1, none⟩ = some (.int .i64 x) := HG.out.r.cell 1
        have r2 : wa.cell? ⟨R, 2, none⟩ = some (.int .i64 y) := HG.out.r.cell 2
        have r3 : wa.cell? ⟨R, 3, none⟩ = some (.slice (some ⟨p, 0, none⟩) N N) := HG.out.r.cell 3
        have r4 : wa.cell? ⟨R, 4, none⟩ = some (.slice (some ⟨q, 0, none⟩) N N) := HG.out.r.cell 4
        have s0 : wa.cell? ⟨S, 0, none⟩ = some (.int .i64 X) := HS.out.cell 0
        have s1 : wa.cell? ⟨S, 1, none⟩ = some (.int .i64 Y) := HS.out.cell 1
        have s2 : wa.cell? ⟨S, 2, none⟩ = some (.int .i64 Z) := HS.out.cell 2
        have s3 : wa.cell? ⟨S, 3, none⟩ = some (.int .i64 U) := HS.out.cell 3
        clear G
        go_wp2_with fail
        go_at_call 34
        refine (cell_any _ _ _ _ _ _ _ _ _ _ _ _ gs gx gy tx ty).mono ?_
        rintro e w7 ⟨rfl, hb⟩
        replace HG := Lib.hid (HG.out.below hb)
        replace HS := Lib.hid (HS.out.belowSelf hb)
        clear hb r0 r1 r2 r3 r4 s0 s1 s2 s3 hc0 hc1 hc2 hc3 hwa hS
        have hbd := cellAt_bd gs.1 gx gy tx.1 ty.1
        obtain ⟨V, hV⟩ : ∃ V, cellAt s x y X Y = V := ⟨_, rfl⟩
        rw [hV] at hbd ⊢
        have HV := Lib.hid hV
        clear hV
        rcases hbd with hneg | ⟨h0, hlx⟩
        · have hneg2 : V < 0 := by omega
          have hskip := Lib.hid (HI.out.skip (t := (X, Y, Z, U)) hx.out (by rw [HV.out]; exact hneg2))
          subst hneg
          clear hneg2
          go_wp2
          go_roundw
          case rel => exact ⟨k + 1, cs, ds, by go_num, by omega, HG.out, hskip⟩
          case measure => simp [intOf] <;> omega
        · obtain ⟨i, rfl⟩ := Int.eq_ofNat_of_zero_le h0
          have hiN : i < N := by have := HN.out; omega
          have hi0 : (0 : Int) ≤ (i : Int) := by omega
          clear hlx h0
          have hadd := Lib.hid (HI.out.add (t := (X, Y, Z, U)) hx.out HV.out)
          have hok := Lib.hid (fun (c : Int) (hc : c ∈ cs) => (show 0 ≤ c ∧ c ≤ 1000 by have := HI.out.1 c hc; omega))
          have r0 : w7.cell? ⟨R, 0, none⟩ = some (.int .i64 s) := HG.out.r.cell 0
          have r1 : w7.cell? ⟨R, 1, none⟩ = some (.int .i64 x) := HG.out.r.cell 1
          have r2 : w7.cell? ⟨R, 2, none⟩ = some (.int .i64 y) := HG.out.r.cell 2
          have r3 : w7.cell? ⟨R, 3, none⟩ = some (.slice (some ⟨p, 0, none⟩) N N) := HG.out.r.cell 3
          have r4 : w7.cell? ⟨R, 4, none⟩ = some (.slice (some ⟨q, 0, none⟩) N N) := HG.out.r.cell 4
          have s0 : w7.cell? ⟨S, 0, none⟩ = some (.int .i64 X) := HS.out.cell 0
          have s1 : w7.cell? ⟨S, 1, none⟩ = some (.int .i64 Y) := HS.out.cell 1
          have s2 : w7.cell? ⟨S, 2, none⟩ = some (.int .i64 Z) := HS.out.cell 2
          have s3 : w7.cell? ⟨S, 3, none⟩ = some (.int .i64 U) := HS.out.cell 3
          go_wp2_with fail
          refine wp_region_held_drew (S := fun w' => (w'.cell? ⟨R, 0, none⟩ = some (.int .i64 s) ∧ w'.cell? ⟨R, 1, none⟩ = some (.int .i64 x) ∧ w'.cell? ⟨R, 2, none⟩ = some (.int .i64 y) ∧ w'.cell? ⟨R, 3, none⟩ = some (.slice (some ⟨p, 0, none⟩) N N) ∧ w'.cell? ⟨R, 4, none⟩ = some (.slice (some ⟨q, 0, none⟩) N N)) ∧ w'.cell? ⟨S, 0, none⟩ = some (.int .i64 X) ∧ w'.cell? ⟨S, 1, none⟩ = some (.int .i64 Y) ∧ w'.cell? ⟨S, 2, none⟩ = some (.int .i64 Z) ∧ w'.cell? ⟨S, 3, none⟩ = some (.int .i64 U)) (by kernel_rfl) (⟨⟨HG.out.r.cell 0, HG.out.r.cell 1, HG.out.r.cell 2, HG.out.r.cell 3, HG.out.r.cell 4⟩, HS.out.cell 0, HS.out.cell 1, HS.out.cell 2, HS.out.cell 3⟩) (fun hHeld => ?_)
          refine wpAnyH_take (i := 0) (oi := ?oib0) (v := ?vb0) ?hib0 (by kernel_rfl) (by kernel_rfl) (by kernel_rfl) ?hQb0 ?hyb0 (by assumption) ?hrb0
          case hib0 => (simp only [List.getElem?_toArray, List.getElem?_cons_succ, List.getElem?_cons_zero]; rfl)
          case hQb0 => exact fun _ _ _ h => h
          case hyb0 => (refine Or.inl ⟨by rfl, ?_⟩; intro w hSw; (try dsimp only at hSw); (go_simp <;> with_reducible rfl))
          (try simp only [Act.put, List.setIfInBounds_toArray, List.set_cons_zero, List.set_cons_succ])
          refine wpAnyH_take (i := 1) (oi := ?oib1) (v := ?vb1) ?hib1 (by kernel_rfl) (by kernel_rfl) (by kernel_rfl) ?hQb1 ?hyb1 (by assumption) ?hrb1
          case hib1 => (simp only [List.getElem?_toArray, List.getElem?_cons_succ, List.getElem?_cons_zero]; rfl)
          case hQb1 => exact fun _ _ _ h => h
          case hyb1 => (refine Or.inl ⟨by rfl, ?_⟩; intro w hSw; (try dsimp only at hSw); (go_simp <;> with_reducible rfl))
          (try simp only [Act.put, List.setIfInBounds_toArray, List.set_cons_zero, List.set_cons_succ])
          refine wpAnyH_take (i := 2) (oi := ?oib2) (v := ?vb2) ?hib2 (by kernel_rfl) (by kernel_rfl) (by kernel_rfl) ?hQb2 ?hyb2 (by assumption) ?hrb2
          case hib2 => (simp only [List.getElem?_toArray, List.getElem?_cons_succ, List.getElem?_cons_zero]; rfl)
          case hQb2 => exact fun _ _ _ h => h
          case hyb2 => (refine Or.inl ⟨by rfl, ?_⟩; intro w hSw; (try dsimp only at hSw); (go_simp <;> with_reducible rfl))
          (try simp only [Act.put, List.setIfInBounds_toArray, List.set_cons_zero, List.set_cons_succ])
          refine wpAnyH_ready (rs := [3]) (by kernel_rfl) (by simp) ?_
          refine AllReadyH.cons (o := ?oib3) ?hib3 ?hab3 AllReadyH.nil
          case hib3 => (simp only [List.getElem?_toArray, List.getElem?_cons_succ, List.getElem?_cons_zero]; rfl)
          intro K hK
          go_simp
          go_at_call 36
          refine (bounds_any _ _ _ _ _ tz tu).mono ?_
          rintro e w8 ⟨rfl, hb⟩
          replace HG := Lib.hid (HG.out.drew.below hb)
          replace HS := Lib.hid (HS.out.drew.belowSelf hb)
          clear hb
          refine hK.out _ _ (⟨⟨HG.out.r.cell 0, HG.out.r.cell 1, HG.out.r.cell 2, HG.out.r.cell 3, HG.out.r.cell 4⟩, HS.out.cell 0, HS.out.cell 1, HS.out.cell 2, HS.out.cell 3⟩) (fun hHeld => ?_)
          clear hK K
          (try simp only [Act.put, List.setIfInBounds_toArray, List.set_cons_zero, List.set_cons_succ])
          refine wpAnyH_ready (rs := [4]) (by kernel_rfl) (by simp) ?_
          refine AllReadyH.cons (o := ?oib4) ?hib4 ?hab4 AllReadyH.nil
          case hib4 => (simp only [List.getElem?_toArray, List.getElem?_cons_succ, List.getElem?_cons_zero]; rfl)
          intro K hK
          go_simp
          go_at_call 35
          refine (add_any _ _ _ _ _ _ _ _ _ _ _ _ HG.out.c HG.out.d HG.out.pq hiN (by omega) hok.out).mono ?_
          rintro e w9 ⟨⟨v, rfl⟩, Oc, Od, w1, g1, g2⟩
          replace HG := Lib.hid (HG.out.add2 Oc Od g1 g2)
          replace HS := Lib.hid ((HS.out.grown g1 (fun e => by injection e with e; omega)).grown g2 (fun e => by injection e with e; omega))
          clear Oc Od g1 g2
          refine hK.out _ _ (⟨⟨HG.out.r.cell 0, HG.out.r.cell 1, HG.out.r.cell 2, HG.out.r.cell 3, HG.out.r.cell 4⟩, HS.out.cell 0, HS.out.cell 1, HS.out.cell 2, HS.out.cell 3⟩) (fun hHeld => ?_)
          clear hK K
          (try simp only [Act.put, List.setIfInBounds_toArray, List.set_cons_zero, List.set_cons_succ])
          refine wpAnyH_done (by kernel_rfl) ?_ _
          clear r0 r1 r2 r3 r4 s0 s1 s2 s3 HS
          go_wp2
          go_roundw
          case rel => exact ⟨k + 1, _, _, by go_num, by omega, HG.out, hadd⟩
          case measure => simp [intOf] <;> omega
      · have hd := hend _ _ (HI.out.done h.len4 hlt HN.out)
        have r0 : wr.cell? ⟨R, 0, none⟩ = some (.int .i64 s) := G.r.cell 0
        have r1 : wr.cell? ⟨R, 1, none⟩ = some (.int .i64 x) := G.r.cell 1
        have r2 : wr.cell? ⟨R, 2, none⟩ = some (.int .i64 y) := G.r.cell 2
        have r3 : wr.cell? ⟨R, 3, none⟩ = some (.slice (some ⟨p, 0, none⟩) N N) := G.r.cell 3
        have r4 : wr.cell? ⟨R, 4, none⟩ = some (.slice (some ⟨q, 0, none⟩) N N) := G.r.cell 4
        have z0 : wr.cell? ⟨w.heap.size, 0, none⟩ = some (.int .i64 0) := G.b.cell 0; have fz0 := G.b.frozen 0
        have z1 : wr.cell? ⟨w.heap.size, 1, none⟩ = some (.int .i64 0) := G.b.cell 1; have fz1 := G.b.frozen 1
        have z2 : wr.cell? ⟨w.heap.size, 2, none⟩ = some (.int .i64 0) := G.b.cell 2; have fz2 := G.b.frozen 2
        have z3 : wr.cell? ⟨w.heap.size, 3, none⟩ = some (.slice none 0 0) := G.b.cell 3; have fz3 := G.b.frozen 3
        have z4 : wr.cell? ⟨w.heap.size, 4, none⟩ = some (.slice none 0 0) := G.b.cell 4; have fz4 := G.b.frozen 4
        go_wp2
        obtain ⟨w6, hw6⟩ : ∃ w6, ((((wr.setCell ⟨w.heap.size, 0, none⟩ (.int .i64 s)).setCell ⟨w.heap.size, 1, none⟩ (.int .i64 x)).setCell ⟨w.heap.size, 2, none⟩ (.int .i64 y)).setCell ⟨w.heap.size, 3, none⟩ (.slice (some ⟨p, 0, none⟩) N N)).setCell ⟨w.heap.size, 4, none⟩ (.slice (some ⟨q, 0, none⟩) N N) = w6 := ⟨_, rfl⟩
        have K6 : Blk w6 w.heap.size 27 #[.int .i64 s, .int .i64 x, .int .i64 y, .slice (some ⟨p, 0, none⟩) N N, .slice (some ⟨q, 0, none⟩) N N] := hw6 ▸ G.b.five _ _ _ _ _
        have B6 : Below w.heap.size w w6 := hw6 ▸ below_five G.B _ _ _ _ _
        have C6 : Own w6 p (p + 1) 2 1 (some ⟨p, 0, none⟩) N N (ints cs) := hw6 ▸ own_five G.c (by have := G.p0; omega) _ _ _ _ _
        have D6 : Own w6 q (q + 1) 49 2 (some ⟨q, 0, none⟩) N N (prs ds) := hw6 ▸ own_five G.d (by have := G.p0; omega) _ _ _ _ _
        rw [hw6]
        clear z0 z1 z2 z3 z4 fz0 fz1 fz2 fz3 fz4
        have z0 : w6.cell? ⟨w.heap.size, 0, none⟩ = some (.int .i64 s) := K6.cell 0
        have z1 : w6.cell? ⟨w.heap.size, 1, none⟩ = some (.int .i64 x) := K6.cell 1
        have z2 : w6.cell? ⟨w.heap.size, 2, none⟩ = some (.int .i64 y) := K6.cell 2
        have z3 : w6.cell? ⟨w.heap.size, 3, none⟩ = some (.slice (some ⟨p, 0, none⟩) N N) := K6.cell 3
        have z4 : w6.cell? ⟨w.heap.size, 4, none⟩ = some (.slice (some ⟨q, 0, none⟩) N N) := K6.cell 4
        refine bodyPost_ret (v := .tuple #[.agg #[.int .i64 s, .int .i64 x, .int .i64 y, .slice (some ⟨p, 0, none⟩) N N, .slice (some ⟨q, 0, none⟩) N N], .int .i64 0]) (by simp [results, go_sem, z0, z1, z2, z3, z4]) rfl ?_
        rw [GridPost, hd]
        exact ⟨_, _, p, q, N, rfl, G.pq, by have := G.p0; omega, by have := G.p0; omega, hN9, C6, D6, B6⟩
  · have G := gridNew2 s x y hH hlt2 hN9 K2 B2
    obtain ⟨w5, hw5⟩ : ∃ w5, (((w2.alloc (.cells (madeCells #[.int .i64 0, .int .i64 0] (N * 2)) 49)).alloc (.cells (madeCells #[.int .i64 0] N) 2)).alloc (.cells #[.int .i64 s, .int .i64 x, .int .i64 y, .slice (some ⟨(H + 1), 0, none⟩) N N, .slice (some ⟨H, 0, none⟩) N N] 27)).drew = w5 := ⟨_, rfl⟩
    rw [hw5] at G ⊢
    obtain ⟨R, h_2⟩ : ∃ z, H + 1 + 1 = z := ⟨_, rfl⟩
    rw [h_2] at G ⊢
    obtain ⟨p, h_1⟩ : ∃ z, H + 1 = z := ⟨_, rfl⟩
    rw [h_1] at G ⊢
    obtain ⟨q, h_0⟩ : ∃ z, H = z := ⟨_, rfl⟩
    rw [h_0] at G ⊢
    clear hw5 h_0 h_1 h_2 hmk hmk2 hxy hH hlt2 K2 B2 hlt
    go_wp2_with fail
    go_loopw [40] (fun i wr => ∃ (k : Nat) (cs : List Int) (ds : List (Int × Int)), i = .int .i64 k ∧ k ≤ n ∧ GSt w wr R p q N s x y cs ds ∧ Hid (GInv s x y ss N k cs ds)) (fun i _ => n - (intOf i).toNat)
    case atStart => exact ⟨0, _, _, rfl, Nat.zero_le _, G, Lib.hid (GInv.start _ _ _ _ _)⟩
    case round =>
      clear G
      obtain ⟨k, cs, ds, rfl, hk, G, HI⟩ := hrel
      by_cases hlt : k < n
      · obtain ⟨b, off, X, Y, Z, U, rfl, ⟨hc0, hc1, hc2, hc3⟩, hx⟩ := (h.below4 G.B (Nat.le_refl _)).at4 hlt
        obtain ⟨tx, ty, tz, tu⟩ := sndOk_bd (sndsOk_get hsn hx.out)
        obtain ⟨wa, hwa⟩ : ∃ wa, wr.alloc (.cells #[.int .i64 X, .int .i64 Y, .int .i64 Z, .int .i64 U] 47) = wa := ⟨_, rfl⟩
        obtain ⟨S, hS⟩ : ∃ S, wr.heap.size = S := ⟨_, rfl⟩
        have hpS : p < S := hS ▸ (G.c.lt p rfl).2.2
        have hqS : q < S := hS ▸ (G.d.lt q rfl).2.2
        have HG := Lib.hid (show GSt w wa R p q N s x y cs ds from hwa ▸ G.alloc _)
        have HS := Lib.hid (show Blk wa S 47 #[.int .i64 X, .int .i64 Y, .int .i64 Z, .int .i64 U] from hwa ▸ Blk.new' _ _ _ hS.symm)
        have r0 : wa.cell? ⟨R, 0, none⟩ = some (.int .i64 s) := HG.out.r.cell 0
        have r1 : wa.cell? ⟨R, 1, none⟩ = some (.int .i64 x) := HG.out.r.cell 1
        have r2 : wa.cell? ⟨R, 2, none⟩ = some (.int .i64 y) := HG.out.r.cell 2
        have r3 : wa.cell? ⟨R, 3, none⟩ = some (.slice (some ⟨p, 0, none⟩) N N) := HG.out.r.cell 3
        have r4 : wa.cell? ⟨R, 4, none⟩ = some (.slice (some ⟨q, 0, none⟩) N N) := HG.out.r.cell 4
        have s0 : wa.cell? ⟨S, 0, none⟩ = some (.int .i64 X) := HS.out.cell 0
        have s1 : wa.cell? ⟨S, 1, none⟩ = some (.int .i64 Y) := HS.out.cell 1
        have s2 : wa.cell? ⟨S, 2, none⟩ = some (.int .i64 Z) := HS.out.cell 2
        have s3 : wa.cell? ⟨S, 3, none⟩ = some (.int .i64 U) := HS.out.cell 3
        clear G
        go_wp2_with fail
        go_at_call 34
        refine (cell_any _ _ _ _ _ _ _ _ _ _ _ _ gs gx gy tx ty).mono ?_
        rintro e w7 ⟨rfl, hb⟩
        replace HG := Lib.hid (HG.out.below hb)
        replace HS := Lib.hid (HS.out.belowSelf hb)
        clear hb r0 r1 r2 r3 r4 s0 s1 s2 s3 hc0 hc1 hc2 hc3 hwa hS
        have hbd := cellAt_bd gs.1 gx gy tx.1 ty.1
        obtain ⟨V, hV⟩ : ∃ V, cellAt s x y X Y = V := ⟨_, rfl⟩
        rw [hV] at hbd ⊢
        have HV := Lib.hid hV
        clear hV
        rcases hbd with hneg | ⟨h0, hlx⟩
        · have hneg2 : V < 0 := by omega
          have hskip := Lib.hid (HI.out.skip (t := (X, Y, Z, U)) hx.out (by rw [HV.out]; exact hneg2))
          subst hneg
          clear hneg2
          go_wp2
          go_roundw
          case rel => exact ⟨k + 1, cs, ds, by go_num, by omega, HG.out, hskip⟩
          case measure => simp [intOf] <;> omega
        · obtain ⟨i, rfl⟩ := Int.eq_ofNat_of_zero_le h0
          have hiN : i < N := by have := HN.out; omega
          have hi0 : (0 : Int) ≤ (i : Int) := by omega
          clear hlx h0
          have hadd := Lib.hid (HI.out.add (t := (X, Y, Z, U)) hx.out HV.out)
          have hok := Lib.hid (fun (c : Int) (hc : c ∈ cs) => (show 0 ≤ c ∧ c ≤ 1000 by have := HI.out.1 c hc; omega))
          have r0 : w7.cell? ⟨R, 0, none⟩ = some (.int .i64 s) := HG.out.r.cell 0
          have r1 : w7.cell? ⟨R, 1, none⟩ = some (.int .i64 x) := HG.out.r.cell 1
          have r2 : w7.cell? ⟨R, 2, none⟩ = some (.int .i64 y) := HG.out.r.cell 2
          have r3 : w7.cell? ⟨R, 3, none⟩ = some (.slice (some ⟨p, 0, none⟩) N N) := HG.out.r.cell 3
          have r4 : w7.cell? ⟨R, 4, none⟩ = some (.slice (some ⟨q, 0, none⟩) N N) := HG.out.r.cell 4
          have s0 : w7.cell? ⟨S, 0, none⟩ = some (.int .i64 X) := HS.out.cell 0
          have s1 : w7.cell? ⟨S, 1, none⟩ = some (.int .i64 Y) := HS.out.cell 1
          have s2 : w7.cell? ⟨S, 2, none⟩ = some (.int .i64 Z) := HS.out.cell 2
          have s3 : w7.cell? ⟨S, 3, none⟩ = some (.int .i64 U) := HS.out.cell 3
          go_wp2_with fail
          refine wp_region_held_drew (S := fun w' => (w'.cell? ⟨R, 0, none⟩ = some (.int .i64 s) ∧ w'.cell? ⟨R, 1, none⟩ = some (.int .i64 x) ∧ w'.cell? ⟨R, 2, none⟩ = some (.int .i64 y) ∧ w'.cell? ⟨R, 3, none⟩ = some (.slice (some ⟨p, 0, none⟩) N N) ∧ w'.cell? ⟨R, 4, none⟩ = some (.slice (some ⟨q, 0, none⟩) N N)) ∧ w'.cell? ⟨S, 0, none⟩ = some (.int .i64 X) ∧ w'.cell? ⟨S, 1, none⟩ = some (.int .i64 Y) ∧ w'.cell? ⟨S, 2, none⟩ = some (.int .i64 Z) ∧ w'.cell? ⟨S, 3, none⟩ = some (.int .i64 U)) (by kernel_rfl) (⟨⟨HG.out.r.cell 0, HG.out.r.cell 1, HG.out.r.cell 2, HG.out.r.cell 3, HG.out.r.cell 4⟩, HS.out.cell 0, HS.out.cell 1, HS.out.cell 2, HS.out.cell 3⟩) (fun hHeld => ?_)
          refine wpAnyH_take (i := 0) (oi := ?oic0) (v := ?vc0) ?hic0 (by kernel_rfl) (by kernel_rfl) (by kernel_rfl) ?hQc0 ?hyc0 (by assumption) ?hrc0
          case hic0 => (simp only [List.getElem?_toArray, List.getElem?_cons_succ, List.getElem?_cons_zero]; rfl)
          case hQc0 => exact fun _ _ _ h => h
          case hyc0 => (refine Or.inl ⟨by rfl, ?_⟩; intro w hSw; (try dsimp only at hSw); (go_simp <;> with_reducible rfl))
          (try simp only [Act.put, List.setIfInBounds_toArray, List.set_cons_zero, List.set_cons_succ])
          refine wpAnyH_take (i := 1) (oi := ?oic1) (v := ?vc1) ?hic1 (by kernel_rfl) (by kernel_rfl) (by kernel_rfl) ?hQc1 ?hyc1 (by assumption) ?hrc1
          case hic1 => (simp only [List.getElem?_toArray, List.getElem?_cons_succ, List.getElem?_cons_zero]; rfl)
          case hQc1 => exact fun _ _ _ h => h
          case hyc1 => (refine Or.inl ⟨by rfl, ?_⟩; intro w hSw; (try dsimp only at hSw); (go_simp <;> with_reducible rfl))
          (try simp only [Act.put, List.setIfInBounds_toArray, List.set_cons_zero, List.set_cons_succ])
          refine wpAnyH_take (i := 2) (oi := ?oic2) (v := ?vc2) ?hic2 (by kernel_rfl) (by kernel_rfl) (by kernel_rfl) ?hQc2 ?hyc2 (by assumption) ?hrc2
          case hic2 => (simp only [List.getElem?_toArray, List.getElem?_cons_succ, List.getElem?_cons_zero]; rfl)
          case hQc2 => exact fun _ _ _ h => h
          case hyc2 => (refine Or.inl ⟨by rfl, ?_⟩; intro w hSw; (try dsimp only at hSw); (go_simp <;> with_reducible rfl))
          (try simp only [Act.put, List.setIfInBounds_toArray, List.set_cons_zero, List.set_cons_succ])
          refine wpAnyH_ready (rs := [3]) (by kernel_rfl) (by simp) ?_
          refine AllReadyH.cons (o := ?oic3) ?hic3 ?hac3 AllReadyH.nil
          case hic3 => (simp only [List.getElem?_toArray, List.getElem?_cons_succ, List.getElem?_cons_zero]; rfl)
          intro K hK
          go_simp
          go_at_call 36
          refine (bounds_any _ _ _ _ _ tz tu).mono ?_
          rintro e w8 ⟨rfl, hb⟩
          replace HG := Lib.hid (HG.out.drew.below hb)
          replace HS := Lib.hid (HS.out.drew.belowSelf hb)
          clear hb
          refine hK.out _ _ (⟨⟨HG.out.r.cell 0, HG.out.r.cell 1, HG.out.r.cell 2, HG.out.r.cell 3, HG.out.r.cell 4⟩, HS.out.cell 0, HS.out.cell 1, HS.out.cell 2, HS.out.cell 3⟩) (fun hHeld => ?_)
          clear hK K
          (try simp only [Act.put, List.setIfInBounds_toArray, List.set_cons_zero, List.set_cons_succ])
          refine wpAnyH_ready (rs := [4]) (by kernel_rfl) (by simp) ?_
          refine AllReadyH.cons (o := ?oic4) ?hic4 ?hac4 AllReadyH.nil
          case hic4 => (simp only [List.getElem?_toArray, List.getElem?_cons_succ, List.getElem?_cons_zero]; rfl)
          intro K hK
          go_simp
          go_at_call 35
          refine (add_any _ _ _ _ _ _ _ _ _ _ _ _ HG.out.c HG.out.d HG.out.pq hiN (by omega) hok.out).mono ?_
          rintro e w9 ⟨⟨v, rfl⟩, Oc, Od, w1, g1, g2⟩
          replace HG := Lib.hid (HG.out.add2 Oc Od g1 g2)
          replace HS := Lib.hid ((HS.out.grown g1 (fun e => by injection e with e; omega)).grown g2 (fun e => by injection e with e; omega))
          clear Oc Od g1 g2
          refine hK.out _ _ (⟨⟨HG.out.r.cell 0, HG.out.r.cell 1, HG.out.r.cell 2, HG.out.r.cell 3, HG.out.r.cell 4⟩, HS.out.cell 0, HS.out.cell 1, HS.out.cell 2, HS.out.cell 3⟩) (fun hHeld => ?_)
          clear hK K
          (try simp only [Act.put, List.setIfInBounds_toArray, List.set_cons_zero, List.set_cons_succ])
          refine wpAnyH_done (by kernel_rfl) ?_ _
          clear r0 r1 r2 r3 r4 s0 s1 s2 s3 HS
          go_wp2
          go_roundw
          case rel => exact ⟨k + 1, _, _, by go_num, by omega, HG.out, hadd⟩
          case measure => simp [intOf] <;> omega
      · have hd := hend _ _ (HI.out.done h.len4 hlt HN.out)
        have r0 : wr.cell? ⟨R, 0, none⟩ = some (.int .i64 s) := G.r.cell 0
        have r1 : wr.cell? ⟨R, 1, none⟩ = some (.int .i64 x) := G.r.cell 1
        have r2 : wr.cell? ⟨R, 2, none⟩ = some (.int .i64 y) := G.r.cell 2
        have r3 : wr.cell? ⟨R, 3, none⟩ = some (.slice (some ⟨p, 0, none⟩) N N) := G.r.cell 3
        have r4 : wr.cell? ⟨R, 4, none⟩ = some (.slice (some ⟨q, 0, none⟩) N N) := G.r.cell 4
        have z0 : wr.cell? ⟨w.heap.size, 0, none⟩ = some (.int .i64 0) := G.b.cell 0; have fz0 := G.b.frozen 0
        have z1 : wr.cell? ⟨w.heap.size, 1, none⟩ = some (.int .i64 0) := G.b.cell 1; have fz1 := G.b.frozen 1
        have z2 : wr.cell? ⟨w.heap.size, 2, none⟩ = some (.int .i64 0) := G.b.cell 2; have fz2 := G.b.frozen 2
        have z3 : wr.cell? ⟨w.heap.size, 3, none⟩ = some (.slice none 0 0) := G.b.cell 3; have fz3 := G.b.frozen 3
        have z4 : wr.cell? ⟨w.heap.size, 4, none⟩ = some (.slice none 0 0) := G.b.cell 4; have fz4 := G.b.frozen 4
        go_wp2
        obtain ⟨w6, hw6⟩ : ∃ w6, ((((wr.setCell ⟨w.heap.size, 0, none⟩ (.int .i64 s)).setCell ⟨w.heap.size, 1, none⟩ (.int .i64 x)).setCell ⟨w.heap.size, 2, none⟩ (.int .i64 y)).setCell ⟨w.heap.size, 3, none⟩ (.slice (some ⟨p, 0, none⟩) N N)).setCell ⟨w.heap.size, 4, none⟩ (.slice (some ⟨q, 0, none⟩) N N) = w6 := ⟨_, rfl⟩
        have K6 : Blk w6 w.heap.size 27 #[.int .i64 s, .int .i64 x, .int .i64 y, .slice (some ⟨p, 0, none⟩) N N, .slice (some ⟨q, 0, none⟩) N N] := hw6 ▸ G.b.five _ _ _ _ _
        have B6 : Below w.heap.size w w6 := hw6 ▸ below_five G.B _ _ _ _ _
        have C6 : Own w6 p (p + 1) 2 1 (some ⟨p, 0, none⟩) N N (ints cs) := hw6 ▸ own_five G.c (by have := G.p0; omega) _ _ _ _ _
        have D6 : Own w6 q (q + 1) 49 2 (some ⟨q, 0, none⟩) N N (prs ds) := hw6 ▸ own_five G.d (by have := G.p0; omega) _ _ _ _ _
        rw [hw6]
        clear z0 z1 z2 z3 z4 fz0 fz1 fz2 fz3 fz4
        have z0 : w6.cell? ⟨w.heap.size, 0, none⟩ = some (.int .i64 s) := K6.cell 0
        have z1 : w6.cell? ⟨w.heap.size, 1, none⟩ = some (.int .i64 x) := K6.cell 1
        have z2 : w6.cell? ⟨w.heap.size, 2, none⟩ = some (.int .i64 y) := K6.cell 2
        have z3 : w6.cell? ⟨w.heap.size, 3, none⟩ = some (.slice (some ⟨p, 0, none⟩) N N) := K6.cell 3
        have z4 : w6.cell? ⟨w.heap.size, 4, none⟩ = some (.slice (some ⟨q, 0, none⟩) N N) := K6.cell 4
        refine bodyPost_ret (v := .tuple #[.agg #[.int .i64 s, .int .i64 x, .int .i64 y, .slice (some ⟨p, 0, none⟩) N N, .slice (some ⟨q, 0, none⟩) N N], .int .i64 0]) (by simp [results, go_sem, z0, z1, z2, z3, z4]) rfl ?_
        rw [GridPost, hd]
        exact ⟨_, _, p, q, N, rfl, G.pq, by have := G.p0; omega, by have := G.p0; omega, hN9, C6, D6, B6⟩
  · have G := gridNew3 s x y hH hlt2 hN9 K2 B2
    obtain ⟨w5, hw5⟩ : ∃ w5, (((w2.alloc (.cells (madeCells #[.int .i64 0, .int .i64 0] (N * 2)) 49)).alloc (.cells #[.int .i64 s, .int .i64 x, .int .i64 y, .slice (some ⟨(H + 1 + 1), 0, none⟩) N N, .slice (some ⟨H, 0, none⟩) N N] 27)).alloc (.cells (madeCells #[.int .i64 0] N) 2)).drew = w5 := ⟨_, rfl⟩
    rw [hw5] at G ⊢
    obtain ⟨p, h_2⟩ : ∃ z, H + 1 + 1 = z := ⟨_, rfl⟩
    rw [h_2] at G ⊢
    obtain ⟨R, h_1⟩ : ∃ z, H + 1 = z := ⟨_, rfl⟩
    rw [h_1] at G ⊢
    obtain ⟨q, h_0⟩ : ∃ z, H = z := ⟨_, rfl⟩
    rw [h_0] at G ⊢
    clear hw5 h_0 h_1 h_2 hmk hmk2 hxy hH hlt2 K2 B2 hlt
    go_wp2_with fail
    go_loopw [40] (fun i wr => ∃ (k : Nat) (cs : List Int) (ds : List (Int × Int)), i = .int .i64 k ∧ k ≤ n ∧ GSt w wr R p q N s x y cs ds ∧ Hid (GInv s x y ss N k cs ds)) (fun i _ => n - (intOf i).toNat)
    case atStart => exact ⟨0, _, _, rfl, Nat.zero_le _, G, Lib.hid (GInv.start _ _ _ _ _)⟩
    case round =>
      clear G
      obtain ⟨k, cs, ds, rfl, hk, G, HI⟩ := hrel
      by_cases hlt : k < n
      · obtain ⟨b, off, X, Y, Z, U, rfl, ⟨hc0, hc1, hc2, hc3⟩, hx⟩ := (h.below4 G.B (Nat.le_refl _)).at4 hlt
        obtain ⟨tx, ty, tz, tu⟩ := sndOk_bd (sndsOk_get hsn hx.out)
        obtain ⟨wa, hwa⟩ : ∃ wa, wr.alloc (.cells #[.int .i64 X, .int .i64 Y, .int .i64 Z, .int .i64 U] 47) = wa := ⟨_, rfl⟩
        obtain ⟨S, hS⟩ : ∃ S, wr.heap.size = S := ⟨_, rfl⟩
        have hpS : p < S := hS ▸ (G.c.lt p rfl).2.2
        have hqS : q < S := hS ▸ (G.d.lt q rfl).2.2
        have HG := Lib.hid (show GSt w wa R p q N s x y cs ds from hwa ▸ G.alloc _)
        have HS := Lib.hid (show Blk wa S 47 #[.int .i64 X, .int .i64 Y, .int .i64 Z, .int .i64 U] from hwa ▸ Blk.new' _ _ _ hS.symm)
        have r0 : wa.cell? ⟨R, 0, none⟩ = some (.int .i64 s) := HG.out.r.cell 0
        have r1 : wa.cell? ⟨R, 1, none⟩ = some (.int .i64 x) := HG.out.r.cell 1
        have r2 : wa.cell? ⟨R, 2, none⟩ = some (.int .i64 y) := HG.out.r.cell 2
        have r3 : wa.cell? ⟨R, 3, none⟩ = some (.slice (some ⟨p, 0, none⟩) N N) := HG.out.r.cell 3
        have r4 : wa.cell? ⟨R, 4, none⟩ = some (.slice (some ⟨q, 0, none⟩) N N) := HG.out.r.cell 4
        have s0 : wa.cell? ⟨S, 0, none⟩ = some (.int .i64 X) := HS.out.cell 0
        have s1 : wa.cell? ⟨S, 1, none⟩ = some (.int .i64 Y) := HS.out.cell 1
        have s2 : wa.cell? ⟨S, 2, none⟩ = some (.int .i64 Z) := HS.out.cell 2
        have s3 : wa.cell? ⟨S, 3, none⟩ = some (.int .i64 U) := HS.out.cell 3
        clear G
        go_wp2_with fail
        go_at_call 34
        refine (cell_any _ _ _ _ _ _ _ _ _ _ _ _ gs gx gy tx ty).mono ?_
        rintro e w7 ⟨rfl, hb⟩
        replace HG := Lib.hid (HG.out.below hb)
        replace HS := Lib.hid (HS.out.belowSelf hb)
        clear hb r0 r1 r2 r3 r4 s0 s1 s2 s3 hc0 hc1 hc2 hc3 hwa hS
        have hbd := cellAt_bd gs.1 gx gy tx.1 ty.1
        obtain ⟨V, hV⟩ : ∃ V, cellAt s x y X Y = V := ⟨_, rfl⟩
        rw [hV] at hbd ⊢
        have HV := Lib.hid hV
        clear hV
        rcases hbd with hneg | ⟨h0, hlx⟩
        · have hneg2 : V < 0 := by omega
          have hskip := Lib.hid (HI.out.skip (t := (X, Y, Z, U)) hx.out (by rw [HV.out]; exact hneg2))
          subst hneg
          clear hneg2
          go_wp2
          go_roundw
          case rel => exact ⟨k + 1, cs, ds, by go_num, by omega, HG.out, hskip⟩
          case measure => simp [intOf] <;> omega
        · obtain ⟨i, rfl⟩ := Int.eq_ofNat_of_zero_le h0
          have hiN : i < N := by have := HN.out; omega
          have hi0 : (0 : Int) ≤ (i : Int) := by omega
          clear hlx h0
          have hadd := Lib.hid (HI.out.add (t := (X, Y, Z, U)) hx.out HV.out)
          have hok := Lib.hid (fun (c : Int) (hc : c ∈ cs) => (show 0 ≤ c ∧ c ≤ 1000 by have := HI.out.1 c hc; omega))
          have r0 : w7.cell? ⟨R, 0, none⟩ = some (.int .i64 s) := HG.out.r.cell 0
          have r1 : w7.cell? ⟨R, 1, none⟩ = some (.int .i64 x) := HG.out.r.cell 1
          have r2 : w7.cell? ⟨R, 2, none⟩ = some (.int .i64 y) := HG.out.r.cell 2
          have r3 : w7.cell? ⟨R, 3, none⟩ = some (.slice (some ⟨p, 0, none⟩) N N) := HG.out.r.cell 3
          have r4 : w7.cell? ⟨R, 4, none⟩ = some (.slice (some ⟨q, 0, none⟩) N N) := HG.out.r.cell 4
          have s0 : w7.cell? ⟨S, 0, none⟩ = some (.int .i64 X) := HS.out.cell 0
          have s1 : w7.cell? ⟨S, 1, none⟩ = some (.int .i64 Y) := HS.out.cell 1
          have s2 : w7.cell? ⟨S, 2, none⟩ = some (.int .i64 Z) := HS.out.cell 2
          have s3 : w7.cell? ⟨S, 3, none⟩ = some (.int .i64 U) := HS.out.cell 3
          go_wp2_with fail
          refine wp_region_held_drew (S := fun w' => (w'.cell? ⟨R, 0, none⟩ = some (.int .i64 s) ∧ w'.cell? ⟨R, 1, none⟩ = some (.int .i64 x) ∧ w'.cell? ⟨R, 2, none⟩ = some (.int .i64 y) ∧ w'.cell? ⟨R, 3, none⟩ = some (.slice (some ⟨p, 0, none⟩) N N) ∧ w'.cell? ⟨R, 4, none⟩ = some (.slice (some ⟨q, 0, none⟩) N N)) ∧ w'.cell? ⟨S, 0, none⟩ = some (.int .i64 X) ∧ w'.cell? ⟨S, 1, none⟩ = some (.int .i64 Y) ∧ w'.cell? ⟨S, 2, none⟩ = some (.int .i64 Z) ∧ w'.cell? ⟨S, 3, none⟩ = some (.int .i64 U)) (by kernel_rfl) (⟨⟨HG.out.r.cell 0, HG.out.r.cell 1, HG.out.r.cell 2, HG.out.r.cell 3, HG.out.r.cell 4⟩, HS.out.cell 0, HS.out.cell 1, HS.out.cell 2, HS.out.cell 3⟩) (fun hHeld => ?_)
          refine wpAnyH_take (i := 0) (oi := ?oid0) (v := ?vd0) ?hid0 (by kernel_rfl) (by kernel_rfl) (by kernel_rfl) ?hQd0 ?hyd0 (by assumption) ?hrd0
          case hid0 => (simp only [List.getElem?_toArray, List.getElem?_cons_succ, List.getElem?_cons_zero]; rfl)
          case hQd0 => exact fun _ _ _ h => h
          case hyd0 => (refine Or.inl ⟨by rfl, ?_⟩; intro w hSw; (try dsimp only at hSw); (go_simp <;> with_reducible rfl))
          (try simp only [Act.put, List.setIfInBounds_toArray, List.set_cons_zero, List.set_cons_succ])
          refine wpAnyH_take (i := 1) (oi := ?oid1) (v := ?vd1) ?hid1 (by kernel_rfl) (by kernel_rfl) (by kernel_rfl) ?hQd1 ?hyd1 (by assumption) ?hrd1
          case hid1 => (simp only [List.getElem?_toArray, List.getElem?_cons_succ, List.getElem?_cons_zero]; rfl)
          case hQd1 => exact fun _ _ _ h => h
          case hyd1 => (refine Or.inl ⟨by rfl, ?_⟩; intro w hSw; (try dsimp only at hSw); (go_simp <;> with_reducible rfl))
          (try simp only [Act.put, List.setIfInBounds_toArray, List.set_cons_zero, List.set_cons_succ])
          refine wpAnyH_take (i := 2) (oi := ?oid2) (v := ?vd2) ?hid2 (by kernel_rfl) (by kernel_rfl) (by kernel_rfl) ?hQd2 ?hyd2 (by assumption) ?hrd2
          case hid2 => (simp only [List.getElem?_toArray, List.getElem?_cons_succ, List.getElem?_cons_zero]; rfl)
          case hQd2 => exact fun _ _ _ h => h
          case hyd2 => (refine Or.inl ⟨by rfl, ?_⟩; intro w hSw; (try dsimp only at hSw); (go_simp <;> with_reducible rfl))
          (try simp only [Act.put, List.setIfInBounds_toArray, List.set_cons_zero, List.set_cons_succ])
          refine wpAnyH_ready (rs := [3]) (by kernel_rfl) (by simp) ?_
          refine AllReadyH.cons (o := ?oid3) ?hid3 ?had3 AllReadyH.nil
          case hid3 => (simp only [List.getElem?_toArray, List.getElem?_cons_succ, List.getElem?_cons_zero]; rfl)
          intro K hK
          go_simp
          go_at_call 36
          refine (bounds_any _ _ _ _ _ tz tu).mono ?_
          rintro e w8 ⟨rfl, hb⟩
          replace HG := Lib.hid (HG.out.drew.below hb)
          replace HS := Lib.hid (HS.out.drew.belowSelf hb)
          clear hb
          refine hK.out _ _ (⟨⟨HG.out.r.cell 0, HG.out.r.cell 1, HG.out.r.cell 2, HG.out.r.cell 3, HG.out.r.cell 4⟩, HS.out.cell 0, HS.out.cell 1, HS.out.cell 2, HS.out.cell 3⟩) (fun hHeld => ?_)
          clear hK K
          (try simp only [Act.put, List.setIfInBounds_toArray, List.set_cons_zero, List.set_cons_succ])
          refine wpAnyH_ready (rs := [4]) (by kernel_rfl) (by simp) ?_
          refine AllReadyH.cons (o := ?oid4) ?hid4 ?had4 AllReadyH.nil
          case hid4 => (simp only [List.getElem?_toArray, List.getElem?_cons_succ, List.getElem?_cons_zero]; rfl)
          intro K hK
          go_simp
          go_at_call 35
          refine (add_any _ _ _ _ _ _ _ _ _ _ _ _ HG.out.c HG.out.d HG.out.pq hiN (by omega) hok.out).mono ?_
          rintro e w9 ⟨⟨v, rfl⟩, Oc, Od, w1, g1, g2⟩
          replace HG := Lib.hid (HG.out.add2 Oc Od g1 g2)
          replace HS := Lib.hid ((HS.out.grown g1 (fun e => by injection e with e; omega)).grown g2 (fun e => by injection e with e; omega))
          clear Oc Od g1 g2
          refine hK.out _ _ (⟨⟨HG.out.r.cell 0, HG.out.r.cell 1, HG.out.r.cell 2, HG.out.r.cell 3, HG.out.r.cell 4⟩, HS.out.cell 0, HS.out.cell 1, HS.out.cell 2, HS.out.cell 3⟩) (fun hHeld => ?_)
          clear hK K
          (try simp only [Act.put, List.setIfInBounds_toArray, List.set_cons_zero, List.set_cons_succ])
          refine wpAnyH_done (by kernel_rfl) ?_ _
          clear r0 r1 r2 r3 r4 s0 s1 s2 s3 HS
          go_wp2
          go_roundw
          case rel => exact ⟨k + 1, _, _, by go_num, by omega, HG.out, hadd⟩
          case measure => simp [intOf] <;> omega
      · have hd := hend _ _ (HI.out.done h.len4 hlt HN.out)
        have r0 : wr.cell? ⟨R, 0, none⟩ = some (.int .i64 s) := G.r.cell 0
        have r1 : wr.cell? ⟨R, 1, none⟩ = some (.int .i64 x) := G.r.cell 1
        have r2 : wr.cell? ⟨R, 2, none⟩ = some (.int .i64 y) := G.r.cell 2
        have r3 : wr.cell? ⟨R, 3, none⟩ = some (.slice (some ⟨p, 0, none⟩) N N) := G.r.cell 3
        have r4 : wr.cell? ⟨R, 4, none⟩ = some (.slice (some ⟨q, 0, none⟩) N N) := G.r.cell 4
        have z0 : wr.cell? ⟨w.heap.size, 0, none⟩ = some (.int .i64 0) := G.b.cell 0; have fz0 := G.b.frozen 0
        have z1 : wr.cell? ⟨w.heap.size, 1, none⟩ = some (.int .i64 0) := G.b.cell 1; have fz1 := G.b.frozen 1
        have z2 : wr.cell? ⟨w.heap.size, 2, none⟩ = some (.int .i64 0) := G.b.cell 2; have fz2 := G.b.frozen 2
        have z3 : wr.cell? ⟨w.heap.size, 3, none⟩ = some (.slice none 0 0) := G.b.cell 3; have fz3 := G.b.frozen 3
        have z4 : wr.cell? ⟨w.heap.size, 4, none⟩ = some (.slice none 0 0) := G.b.cell 4; have fz4 := G.b.frozen 4
        go_wp2
        obtain ⟨w6, hw6⟩ : ∃ w6, ((((wr.setCell ⟨w.heap.size, 0, none⟩ (.int .i64 s)).setCell ⟨w.heap.size, 1, none⟩ (.int .i64 x)).setCell ⟨w.heap.size, 2, none⟩ (.int .i64 y)).setCell ⟨w.heap.size, 3, none⟩ (.slice (some ⟨p, 0, none⟩) N N)).setCell ⟨w.heap.size, 4, none⟩ (.slice (some ⟨q, 0, none⟩) N N) = w6 := ⟨_, rfl⟩
        have K6 : Blk w6 w.heap.size 27 #[.int .i64 s, .int .i64 x, .int .i64 y, .slice (some ⟨p, 0, none⟩) N N, .slice (some ⟨q, 0, none⟩) N N] := hw6 ▸ G.b.five _ _ _ _ _
        have B6 : Below w.heap.size w w6 := hw6 ▸ below_five G.B _ _ _ _ _
        have C6 : Own w6 p (p + 1) 2 1 (some ⟨p, 0, none⟩) N N (ints cs) := hw6 ▸ own_five G.c (by have := G.p0; omega) _ _ _ _ _
        have D6 : Own w6 q (q + 1) 49 2 (some ⟨q, 0, none⟩) N N (prs ds) := hw6 ▸ own_five G.d (by have := G.p0; omega) _ _ _ _ _
        rw [hw6]
        clear z0 z1 z2 z3 z4 fz0 fz1 fz2 fz3 fz4
        have z0 : w6.cell? ⟨w.heap.size, 0, none⟩ = some (.int .i64 s) := K6.cell 0
        have z1 : w6.cell? ⟨w.heap.size, 1, none⟩ = some (.int .i64 x) := K6.cell 1
        have z2 : w6.cell? ⟨w.heap.size, 2, none⟩ = some (.int .i64 y) := K6.cell 2
        have z3 : w6.cell? ⟨w.heap.size, 3, none⟩ = some (.slice (some ⟨p, 0, none⟩) N N) := K6.cell 3
        have z4 : w6.cell? ⟨w.heap.size, 4, none⟩ = some (.slice (some ⟨q, 0, none⟩) N N) := K6.cell 4
        refine bodyPost_ret (v := .tuple #[.agg #[.int .i64 s, .int .i64 x, .int .i64 y, .slice (some ⟨p, 0, none⟩) N N, .slice (some ⟨q, 0, none⟩) N N], .int .i64 0]) (by simp [results, go_sem, z0, z1, z2, z3, z4]) rfl ?_
        rw [GridPost, hd]
        exact ⟨_, _, p, q, N, rfl, G.pq, by have := G.p0; omega, by have := G.p0; omega, hN9, C6, D6, B6⟩
  · have G := gridNew4 s x y hH hlt2 hN9 K2 B2
    obtain ⟨w5, hw5⟩ : ∃ w5, (((w2.alloc (.cells #[.int .i64 s, .int .i64 x, .int .i64 y, .slice (some ⟨(H + 1), 0, none⟩) N N, .slice (some ⟨(H + 1 + 1), 0, none⟩) N N] 27)).alloc (.cells (madeCells #[.int .i64 0] N) 2)).alloc (.cells (madeCells #[.int .i64 0, .int .i64 0] (N * 2)) 49)).drew = w5 := ⟨_, rfl⟩
    rw [hw5] at G ⊢
    obtain ⟨q, h_2⟩ : ∃ z, H + 1 + 1 = z := ⟨_, rfl⟩
    rw [h_2] at G ⊢
    obtain ⟨p, h_1⟩ : ∃ z, H + 1 = z := ⟨_, rfl⟩
    rw [h_1] at G ⊢
    obtain ⟨R, h_0⟩ : ∃ z, H = z := ⟨_, rfl⟩
    rw [h_0] at G ⊢
    clear hw5 h_0 h_1 h_2 hmk hmk2 hxy hH hlt2 K2 B2 hlt
    go_wp2_with fail
    go_loopw [40] (fun i wr => ∃ (k : Nat) (cs : List Int) (ds : List (Int × Int)), i = .int .i64 k ∧ k ≤ n ∧ GSt w wr R p q N s x y cs ds ∧ Hid (GInv s x y ss N k cs ds)) (fun i _ => n - (intOf i).toNat)
    case atStart => exact ⟨0, _, _, rfl, Nat.zero_le _, G, Lib.hid (GInv.start _ _ _ _ _)⟩
    case round =>
      clear G
      obtain ⟨k, cs, ds, rfl, hk, G, HI⟩ := hrel
      by_cases hlt : k < n
      · obtain ⟨b, off, X, Y, Z, U, rfl, ⟨hc0, hc1, hc2, hc3⟩, hx⟩ := (h.below4 G.B (Nat.le_refl _)).at4 hlt
        obtain ⟨tx, ty, tz, tu⟩ := sndOk_bd (sndsOk_get hsn hx.out)
        obtain ⟨wa, hwa⟩ : ∃ wa, wr.alloc (.cells #[.int .i64 X, .int .i64 Y, .int .i64 Z, .int .i64 U] 47) = wa := ⟨_, rfl⟩
        obtain ⟨S, hS⟩ : ∃ S, wr.heap.size = S := ⟨_, rfl⟩
        have hpS : p < S := hS ▸ (G.c.lt p rfl).2.2
        have hqS : q < S := hS ▸ (G.d.lt q rfl).2.2
        have HG := Lib.hid (show GSt w wa R p q N s x y cs ds from hwa ▸ G.alloc _)
        have HS := Lib.hid (show Blk wa S 47 #[.int .i64 X, .int .i64 Y, .int .i64 Z, .int .i64 U] from hwa ▸ Blk.new' _ _ _ hS.symm)
        have r0 : wa.cell? ⟨R, 0, none⟩ = some (.int .i64 s) := HG.out.r.cell 0
        have r1 : wa.cell? ⟨R, 1, none⟩ = some (.int .i64 x) := HG.out.r.cell 1
        have r2 : wa.cell? ⟨R, 2, none⟩ = some (.int .i64 y) := HG.out.r.cell 2
        have r3 : wa.cell? ⟨R, 3, none⟩ = some (.slice (some ⟨p, 0, none⟩) N N) := HG.out.r.cell 3
        have r4 : wa.cell? ⟨R, 4, none⟩ = some (.slice (some ⟨q, 0, none⟩) N N) := HG.out.r.cell 4
        have s0 : wa.cell? ⟨S, 0, none⟩ = some (.int .i64 X) := HS.out.cell 0
        have s1 : wa.cell? ⟨S, 1, none⟩ = some (.int .i64 Y) := HS.out.cell 1
        have s2 : wa.cell? ⟨S, 2, none⟩ = some (.int .i64 Z) := HS.out.cell 2
        have s3 : wa.cell? ⟨S, 3, none⟩ = some (.int .i64 U) := HS.out.cell 3
        clear G
        go_wp2_with fail
        go_at_call 34
        refine (cell_any _ _ _ _ _ _ _ _ _ _ _ _ gs gx gy tx ty).mono ?_
        rintro e w7 ⟨rfl, hb⟩
        replace HG := Lib.hid (HG.out.below hb)
        replace HS := Lib.hid (HS.out.belowSelf hb)
        clear hb r0 r1 r2 r3 r4 s0 s1 s2 s3 hc0 hc1 hc2 hc3 hwa hS
        have hbd := cellAt_bd gs.1 gx gy tx.1 ty.1
        obtain ⟨V, hV⟩ : ∃ V, cellAt s x y X Y = V := ⟨_, rfl⟩
        rw [hV] at hbd ⊢
        have HV := Lib.hid hV
        clear hV
        rcases hbd with hneg | ⟨h0, hlx⟩
        · have hneg2 : V < 0 := by omega
          have hskip := Lib.hid (HI.out.skip (t := (X, Y, Z, U)) hx.out (by rw [HV.out]; exact hneg2))
          subst hneg
          clear hneg2
          go_wp2
          go_roundw
          case rel => exact ⟨k + 1, cs, ds, by go_num, by omega, HG.out, hskip⟩
          case measure => simp [intOf] <;> omega
        · obtain ⟨i, rfl⟩ := Int.eq_ofNat_of_zero_le h0
          have hiN : i < N := by have := HN.out; omega
          have hi0 : (0 : Int) ≤ (i : Int) := by omega
          clear hlx h0
          have hadd := Lib.hid (HI.out.add (t := (X, Y, Z, U)) hx.out HV.out)
          have hok := Lib.hid (fun (c : Int) (hc : c ∈ cs) => (show 0 ≤ c ∧ c ≤ 1000 by have := HI.out.1 c hc; omega))
          have r0 : w7.cell? ⟨R, 0, none⟩ = some (.int .i64 s) := HG.out.r.cell 0
          have r1 : w7.cell? ⟨R, 1, none⟩ = some (.int .i64 x) := HG.out.r.cell 1
          have r2 : w7.cell? ⟨R, 2, none⟩ = some (.int .i64 y) := HG.out.r.cell 2
          have r3 : w7.cell? ⟨R, 3, none⟩ = some (.slice (some ⟨p, 0, none⟩) N N) := HG.out.r.cell 3
          have r4 : w7.cell? ⟨R, 4, none⟩ = some (.slice (some ⟨q, 0, none⟩) N N) := HG.out.r.cell 4
          have s0 : w7.cell? ⟨S, 0, none⟩ = some (.int .i64 X) := HS.out.cell 0
          have s1 : w7.cell? ⟨S, 1, none⟩ = some (.int .i64 Y) := HS.out.cell 1
          have s2 : w7.cell? ⟨S, 2, none⟩ = some (.int .i64 Z) := HS.out.cell 2
          have s3 : w7.cell? ⟨S, 3, none⟩ = some (.int .i64 U) := HS.out.cell 3
          go_wp2_with fail
          refine wp_region_held_drew (S := fun w' => (w'.cell? ⟨R, 0, none⟩ = some (.int .i64 s) ∧ w'.cell? ⟨R, 1, none⟩ = some (.int .i64 x) ∧ w'.cell? ⟨R, 2, none⟩ = some (.int .i64 y) ∧ w'.cell? ⟨R, 3, none⟩ = some (.slice (some ⟨p, 0, none⟩) N N) ∧ w'.cell? ⟨R, 4, none⟩ = some (.slice (some ⟨q, 0, none⟩) N N)) ∧ w'.cell? ⟨S, 0, none⟩ = some (.int .i64 X) ∧ w'.cell? ⟨S, 1, none⟩ = some (.int .i64 Y) ∧ w'.cell? ⟨S, 2, none⟩ = some (.int .i64 Z) ∧ w'.cell? ⟨S, 3, none⟩ = some (.int .i64 U)) (by kernel_rfl) (⟨⟨HG.out.r.cell 0, HG.out.r.cell 1, HG.out.r.cell 2, HG.out.r.cell 3, HG.out.r.cell 4⟩, HS.out.cell 0, HS.out.cell 1, HS.out.cell 2, HS.out.cell 3⟩) (fun hHeld => ?_)
          refine wpAnyH_take (i := 0) (oi := ?oie0) (v := ?ve0) ?hie0 (by kernel_rfl) (by kernel_rfl) (by kernel_rfl) ?hQe0 ?hye0 (by assumption) ?hre0
          case hie0 => (simp only [List.getElem?_toArray, List.getElem?_cons_succ, List.getElem?_cons_zero]; rfl)
          case hQe0 => exact fun _ _ _ h => h
          case hye0 => (refine Or.inl ⟨by rfl, ?_⟩; intro w hSw; (try dsimp only at hSw); (go_simp <;> with_reducible rfl))
          (try simp only [Act.put, List.setIfInBounds_toArray, List.set_cons_zero, List.set_cons_succ])
          refine wpAnyH_take (i := 1) (oi := ?oie1) (v := ?ve1) ?hie1 (by kernel_rfl) (by kernel_rfl) (by kernel_rfl) ?hQe1 ?hye1 (by assumption) ?hre1
          case hie1 => (simp only [List.getElem?_toArray, List.getElem?_cons_succ, List.getElem?_cons_zero]; rfl)
          case hQe1 => exact fun _ _ _ h => h
          case hye1 => (refine Or.inl ⟨by rfl, ?_⟩; intro w hSw; (try dsimp only at hSw); (go_simp <;> with_reducible rfl))
          (try simp only [Act.put, List.setIfInBounds_toArray, List.set_cons_zero, List.set_cons_succ])
          refine wpAnyH_take (i := 2) (oi := ?oie2) (v := ?ve2) ?hie2 (by kernel_rfl) (by kernel_rfl) (by kernel_rfl) ?hQe2 ?hye2 (by assumption) ?hre2
          case hie2 => (simp only [List.getElem?_toArray, List.getElem?_cons_succ, List.getElem?_cons_zero]; rfl)
          case hQe2 => exact fun _ _ _ h => h
          case hye2 => (refine Or.inl ⟨by rfl, ?_⟩; intro w hSw; (try dsimp only at hSw); (go_simp <;> with_reducible rfl))
          (try simp only [Act.put, List.setIfInBounds_toArray, List.set_cons_zero, List.set_cons_succ])
          refine wpAnyH_ready (rs := [3]) (by kernel_rfl) (by simp) ?_
          refine AllReadyH.cons (o := ?oie3) ?hie3 ?hae3 AllReadyH.nil
          case hie3 => (simp only [List.getElem?_toArray, List.getElem?_cons_succ, List.getElem?_cons_zero]; rfl)
          intro K hK
          go_simp
          go_at_call 36
          refine (bounds_any _ _ _ _ _ tz tu).mono ?_
          rintro e w8 ⟨rfl, hb⟩
          replace HG := Lib.hid (HG.out.drew.below hb)
          replace HS := Lib.hid (HS.out.drew.belowSelf hb)
          clear hb
          refine hK.out _ _ (⟨⟨HG.out.r.cell 0, HG.out.r.cell 1, HG.out.r.cell 2, HG.out.r.cell 3, HG.out.r.cell 4⟩, HS.out.cell 0, HS.out.cell 1, HS.out.cell 2, HS.out.cell 3⟩) (fun hHeld => ?_)
          clear hK K
          (try simp only [Act.put, List.setIfInBounds_toArray, List.set_cons_zero, List.set_cons_succ])
          refine wpAnyH_ready (rs := [4]) (by kernel_rfl) (by simp) ?_
          refine AllReadyH.cons (o := ?oie4) ?hie4 ?hae4 AllReadyH.nil
          case hie4 => (simp only [List.getElem?_toArray, List.getElem?_cons_succ, List.getElem?_cons_zero]; rfl)
          intro K hK
          go_simp
          go_at_call 35
          refine (add_any _ _ _ _ _ _ _ _ _ _ _ _ HG.out.c HG.out.d HG.out.pq hiN (by omega) hok.out).mono ?_
          rintro e w9 ⟨⟨v, rfl⟩, Oc, Od, w1, g1, g2⟩
          replace HG := Lib.hid (HG.out.add2 Oc Od g1 g2)
          replace HS := Lib.hid ((HS.out.grown g1 (fun e => by injection e with e; omega)).grown g2 (fun e => by injection e with e; omega))
          clear Oc Od g1 g2
          refine hK.out _ _ (⟨⟨HG.out.r.cell 0, HG.out.r.cell 1, HG.out.r.cell 2, HG.out.r.cell 3, HG.out.r.cell 4⟩, HS.out.cell 0, HS.out.cell 1, HS.out.cell 2, HS.out.cell 3⟩) (fun hHeld => ?_)
          clear hK K
          (try simp only [Act.put, List.setIfInBounds_toArray, List.set_cons_zero, List.set_cons_succ])
          refine wpAnyH_done (by kernel_rfl) ?_ _
          clear r0 r1 r2 r3 r4 s0 s1 s2 s3 HS
          go_wp2
          go_roundw
          case rel => exact ⟨k + 1, _, _, by go_num, by omega, HG.out, hadd⟩
          case measure => simp [intOf] <;> omega
      · have hd := hend _ _ (HI.out.done h.len4 hlt HN.out)
        have r0 : wr.cell? ⟨R, 0, none⟩ = some (.int .i64 s) := G.r.cell 0
        have r1 : wr.cell? ⟨R, 1, none⟩ = some (.int .i64 x) := G.r.cell 1
        have r2 : wr.cell? ⟨R, 2, none⟩ = some (.int .i64 y) := G.r.cell 2
        have r3 : wr.cell? ⟨R, 3, none⟩ = some (.slice (some ⟨p, 0, none⟩) N N) := G.r.cell 3
        have r4 : wr.cell? ⟨R, 4, none⟩ = some (.slice (some ⟨q, 0, none⟩) N N) := G.r.cell 4
        have z0 : wr.cell? ⟨w.heap.size, 0, none⟩ = some (.int .i64 0) := G.b.cell 0; have fz0 := G.b.frozen 0
        have z1 : wr.cell? ⟨w.heap.size, 1, none⟩ = some (.int .i64 0) := G.b.cell 1; have fz1 := G.b.frozen 1
        have z2 : wr.cell? ⟨w.heap.size, 2, none⟩ = some (.int .i64 0) := G.b.cell 2; have fz2 := G.b.frozen 2
        have z3 : wr.cell? ⟨w.heap.size, 3, none⟩ = some (.slice none 0 0) := G.b.cell 3; have fz3 := G.b.frozen 3
        have z4 : wr.cell? ⟨w.heap.size, 4, none⟩ = some (.slice none 0 0) := G.b.cell 4; have fz4 := G.b.frozen 4
        go_wp2
        obtain ⟨w6, hw6⟩ : ∃ w6, ((((wr.setCell ⟨w.heap.size, 0, none⟩ (.int .i64 s)).setCell ⟨w.heap.size, 1, none⟩ (.int .i64 x)).setCell ⟨w.heap.size, 2, none⟩ (.int .i64 y)).setCell ⟨w.heap.size, 3, none⟩ (.slice (some ⟨p, 0, none⟩) N N)).setCell ⟨w.heap.size, 4, none⟩ (.slice (some ⟨q, 0, none⟩) N N) = w6 := ⟨_, rfl⟩
        have K6 : Blk w6 w.heap.size 27 #[.int .i64 s, .int .i64 x, .int .i64 y, .slice (some ⟨p, 0, none⟩) N N, .slice (some ⟨q, 0, none⟩) N N] := hw6 ▸ G.b.five _ _ _ _ _
        have B6 : Below w.heap.size w w6 := hw6 ▸ below_five G.B _ _ _ _ _
        have C6 : Own w6 p (p + 1) 2 1 (some ⟨p, 0, none⟩) N N (ints cs) := hw6 ▸ own_five G.c (by have := G.p0; omega) _ _ _ _ _
        have D6 : Own w6 q (q + 1) 49 2 (some ⟨q, 0, none⟩) N N (prs ds) := hw6 ▸ own_five G.d (by have := G.p0; omega) _ _ _ _ _
        rw [hw6]
        clear z0 z1 z2 z3 z4 fz0 fz1 fz2 fz3 fz4
        have z0 : w6.cell? ⟨w.heap.size, 0, none⟩ = some (.int .i64 s) := K6.cell 0
        have z1 : w6.cell? ⟨w.heap.size, 1, none⟩ = some (.int .i64 x) := K6.cell 1
        have z2 : w6.cell? ⟨w.heap.size, 2, none⟩ = some (.int .i64 y) := K6.cell 2
        have z3 : w6.cell? ⟨w.heap.size, 3, none⟩ = some (.slice (some ⟨p, 0, none⟩) N N) := K6.cell 3
        have z4 : w6.cell? ⟨w.heap.size, 4, none⟩ = some (.slice (some ⟨q, 0, none⟩) N N) := K6.cell 4
        refine bodyPost_ret (v := .tuple #[.agg #[.int .i64 s, .int .i64 x, .int .i64 y, .slice (some ⟨p, 0, none⟩) N N, .slice (some ⟨q, 0, none⟩) N N], .int .i64 0]) (by simp [results, go_sem, z0, z1, z2, z3, z4]) rfl ?_
        rw [GridPost, hd]
        exact ⟨_, _, p, q, N, rfl, G.pq, by have := G.p0; omega, by have := G.p0; omega, hN9, C6, D6, B6⟩
  · have G := gridNew5 s x y hH hlt2 hN9 K2 B2
    obtain ⟨w5, hw5⟩ : ∃ w5, (((w2.alloc (.cells #[.int .i64 s, .int .i64 x, .int .i64 y, .slice (some ⟨(H + 1 + 1), 0, none⟩) N N, .slice (some ⟨(H + 1), 0, none⟩) N N] 27)).alloc (.cells (madeCells #[.int .i64 0, .int .i64 0] (N * 2)) 49)).alloc (.cells (madeCells #[.int .i64 0] N) 2)).drew = w5 := ⟨_, rfl⟩
    rw [hw5] at G ⊢
    obtain ⟨p, h_2⟩ : ∃ z, H + 1 + 1 = z := ⟨_, rfl⟩
    rw [h_2] at G ⊢
    obtain ⟨q, h_1⟩ : ∃ z, H + 1 = z := ⟨_, rfl⟩
    rw [h_1] at G ⊢
    obtain ⟨R, h_0⟩ : ∃ z, H = z := ⟨_, rfl⟩
    rw [h_0] at G ⊢
    clear hw5 h_0 h_1 h_2 hmk hmk2 hxy hH hlt2 K2 B2 hlt
    go_wp2_with fail
    go_loopw [40] (fun i wr => ∃ (k : Nat) (cs : List Int) (ds : List (Int × Int)), i = .int .i64 k ∧ k ≤ n ∧ GSt w wr R p q N s x y cs ds ∧ Hid (GInv s x y ss N k cs ds)) (fun i _ => n - (intOf i).toNat)
    case atStart => exact ⟨0, _, _, rfl, Nat.zero_le _, G, Lib.hid (GInv.start _ _ _ _ _)⟩
    case round =>
      clear G
      obtain ⟨k, cs, ds, rfl, hk, G, HI⟩ := hrel
      by_cases hlt : k < n
      · obtain ⟨b, off, X, Y, Z, U, rfl, ⟨hc0, hc1, hc2, hc3⟩, hx⟩ := (h.below4 G.B (Nat.le_refl _)).at4 hlt
        obtain ⟨tx, ty, tz, tu⟩ := sndOk_bd (sndsOk_get hsn hx.out)
        obtain ⟨wa, hwa⟩ : ∃ wa, wr.alloc (.cells #[.int .i64 X, .int .i64 Y, .int .i64 Z, .int .i64 U] 47) = wa := ⟨_, rfl⟩
        obtain ⟨S, hS⟩ : ∃ S, wr.heap.size = S := ⟨_, rfl⟩
        have hpS : p < S := hS ▸ (G.c.lt p rfl).2.2
        have hqS : q < S := hS ▸ (G.d.lt q rfl).2.2
        have HG := Lib.hid (show GSt w wa R p q N s x y cs ds from hwa ▸ G.alloc _)
        have HS := Lib.hid (show Blk wa S 47 #[.int .i64 X, .int .i64 Y, .int .i64 Z, .int .i64 U] from hwa ▸ Blk.new' _ _ _ hS.symm)
        have r0 : wa.cell? ⟨R, 0, none⟩ = some (.int .i64 s) := HG.out.r.cell 0
        have r1 : wa.cell? ⟨R, 1, none⟩ = some (.int .i64 x) := HG.out.r.cell 1
        have r2 : wa.cell? ⟨R, 2, none⟩ = some (.int .i64 y) := HG.out.r.cell 2
        have r3 : wa.cell? ⟨R, 3, none⟩ = some (.slice (some ⟨p, 0, none⟩) N N) := HG.out.r.cell 3
        have r4 : wa.cell? ⟨R, 4, none⟩ = some (.slice (some ⟨q, 0, none⟩) N N) := HG.out.r.cell 4
        have s0 : wa.cell? ⟨S, 0, none⟩ = some (.int .i64 X) := HS.out.cell 0
        have s1 : wa.cell? ⟨S, 1, none⟩ = some (.int .i64 Y) := HS.out.cell 1
        have s2 : wa.cell? ⟨S, 2, none⟩ = some (.int .i64 Z) := HS.out.cell 2
        have s3 : wa.cell? ⟨S, 3, none⟩ = some (.int .i64 U) := HS.out.cell 3
        clear G
        go_wp2_with fail
        go_at_call 34
        refine (cell_any _ _ _ _ _ _ _ _ _ _ _ _ gs gx gy tx ty).mono ?_
        rintro e w7 ⟨rfl, hb⟩
        replace HG := Lib.hid (HG.out.below hb)
        replace HS := Lib.hid (HS.out.belowSelf hb)
        clear hb r0 r1 r2 r3 r4 s0 s1 s2 s3 hc0 hc1 hc2 hc3 hwa hS
        have hbd := cellAt_bd gs.1 gx gy tx.1 ty.1
        obtain ⟨V, hV⟩ : ∃ V, cellAt s x y X Y = V := ⟨_, rfl⟩
        rw [hV] at hbd ⊢
        have HV := Lib.hid hV
        clear hV
        rcases hbd with hneg | ⟨h0, hlx⟩
        · have hneg2 : V < 0 := by omega
          have hskip := Lib.hid (HI.out.skip (t := (X, Y, Z, U)) hx.out (by rw [HV.out]; exact hneg2))
          subst hneg
          clear hneg2
          go_wp2
          go_roundw
          case rel => exact ⟨k + 1, cs, ds, by go_num, by omega, HG.out, hskip⟩
          case measure => simp [intOf] <;> omega
        · obtain ⟨i, rfl⟩ := Int.eq_ofNat_of_zero_le h0
          have hiN : i < N := by have := HN.out; omega
          have hi0 : (0 : Int) ≤ (i : Int) := by omega
          clear hlx h0
          have hadd := Lib.hid (HI.out.add (t := (X, Y, Z, U)) hx.out HV.out)
          have hok := Lib.hid (fun (c : Int) (hc : c ∈ cs) => (show 0 ≤ c ∧ c ≤ 1000 by have := HI.out.1 c hc; omega))
          have r0 : w7.cell? ⟨R, 0, none⟩ = some (.int .i64 s) := HG.out.r.cell 0
          have r1 : w7.cell? ⟨R, 1, none⟩ = some (.int .i64 x) := HG.out.r.cell 1
          have r2 : w7.cell? ⟨R, 2, none⟩ = some (.int .i64 y) := HG.out.r.cell 2
          have r3 : w7.cell? ⟨R, 3, none⟩ = some (.slice (some ⟨p, 0, none⟩) N N) := HG.out.r.cell 3
          have r4 : w7.cell? ⟨R, 4, none⟩ = some (.slice (some ⟨q, 0, none⟩) N N) := HG.out.r.cell 4
          have s0 : w7.cell? ⟨S, 0, none⟩ = some (.int .i64 X) := HS.out.cell 0
          have s1 : w7.cell? ⟨S, 1, none⟩ = some (.int .i64 Y) := HS.out.cell 1
          have s2 : w7.cell? ⟨S, 2, none⟩ = some (.int .i64 Z) := HS.out.cell 2
          have s3 : w7.cell? ⟨S, 3, none⟩ = some (.int .i64 U) := HS.out.cell 3
          go_wp2_with fail
          refine wp_region_held_drew (S := fun w' => (w'.cell? ⟨R, 0, none⟩ = some (.int .i64 s) ∧ w'.cell? ⟨R, 1, none⟩ = some (.int .i64 x) ∧ w'.cell? ⟨R, 2, none⟩ = some (.int .i64 y) ∧ w'.cell? ⟨R, 3, none⟩ = some (.slice (some ⟨p, 0, none⟩) N N) ∧ w'.cell? ⟨R, 4, none⟩ = some (.slice (some ⟨q, 0, none⟩) N N)) ∧ w'.cell? ⟨S, 0, none⟩ = some (.int .i64 X) ∧ w'.cell? ⟨S, 1, none⟩ = some (.int .i64 Y) ∧ w'.cell? ⟨S, 2, none⟩ = some (.int .i64 Z) ∧ w'.cell? ⟨S, 3, none⟩ = some (.int .i64 U)) (by kernel_rfl) (⟨⟨HG.out.r.cell 0, HG.out.r.cell 1, HG.out.r.cell 2, HG.out.r.cell 3, HG.out.r.cell 4⟩, HS.out.cell 0, HS.out.cell 1, HS.out.cell 2, HS.out.cell 3⟩) (fun hHeld => ?_)
          refine wpAnyH_take (i := 0) (oi := ?oif0) (v := ?vf0) ?hif0 (by kernel_rfl) (by kernel_rfl) (by kernel_rfl) ?hQf0 ?hyf0 (by assumption) ?hrf0
          case hif0 => (simp only [List.getElem?_toArray, List.getElem?_cons_succ, List.getElem?_cons_zero]; rfl)
          case hQf0 => exact fun _ _ _ h => h
          case hyf0 => (refine Or.inl ⟨by rfl, ?_⟩; intro w hSw; (try dsimp only at hSw); (go_simp <;> with_reducible rfl))
          (try simp only [Act.put, List.setIfInBounds_toArray, List.set_cons_zero, List.set_cons_succ])
          refine wpAnyH_take (i := 1) (oi := ?oif1) (v := ?vf1) ?hif1 (by kernel_rfl) (by kernel_rfl) (by kernel_rfl) ?hQf1 ?hyf1 (by assumption) ?hrf1
          case hif1 => (simp only [List.getElem?_toArray, List.getElem?_cons_succ, List.getElem?_cons_zero]; rfl)
          case hQf1 => exact fun _ _ _ h => h
          case hyf1 => (refine Or.inl ⟨by rfl, ?_⟩; intro w hSw; (try dsimp only at hSw); (go_simp <;> with_reducible rfl))
          (try simp only [Act.put, List.setIfInBounds_toArray, List.set_cons_zero, List.set_cons_succ])
          refine wpAnyH_take (i := 2) (oi := ?oif2) (v := ?vf2) ?hif2 (by kernel_rfl) (by kernel_rfl) (by kernel_rfl) ?hQf2 ?hyf2 (by assumption) ?hrf2
          case hif2 => (simp only [List.getElem?_toArray, List.getElem?_cons_succ, List.getElem?_cons_zero]; rfl)
          case hQf2 => exact fun _ _ _ h => h
          case hyf2 => (refine Or.inl ⟨by rfl, ?_⟩; intro w hSw; (try dsimp only at hSw); (go_simp <;> with_reducible rfl))
          (try simp only [Act.put, List.setIfInBounds_toArray, List.set_cons_zero, List.set_cons_succ])
          refine wpAnyH_ready (rs := [3]) (by kernel_rfl) (by simp) ?_
          refine AllReadyH.cons (o := ?oif3) ?hif3 ?haf3 AllReadyH.nil
          case hif3 => (simp only [List.getElem?_toArray, List.getElem?_cons_succ, List.getElem?_cons_zero]; rfl)
          intro K hK
          go_simp
          go_at_call 36
          refine (bounds_any _ _ _ _ _ tz tu).mono ?_
          rintro e w8 ⟨rfl, hb⟩
          replace HG := Lib.hid (HG.out.drew.below hb)
          replace HS := Lib.hid (HS.out.drew.belowSelf hb)
          clear hb
          refine hK.out _ _ (⟨⟨HG.out.r.cell 0, HG.out.r.cell 1, HG.out.r.cell 2, HG.out.r.cell 3, HG.out.r.cell 4⟩, HS.out.cell 0, HS.out.cell 1, HS.out.cell 2, HS.out.cell 3⟩) (fun hHeld => ?_)
          clear hK K
          (try simp only [Act.put, List.setIfInBounds_toArray, List.set_cons_zero, List.set_cons_succ])
          refine wpAnyH_ready (rs := [4]) (by kernel_rfl) (by simp) ?_
          refine AllReadyH.cons (o := ?oif4) ?hif4 ?haf4 AllReadyH.nil
          case hif4 => (simp only [List.getElem?_toArray, List.getElem?_cons_succ, List.getElem?_cons_zero]; rfl)
          intro K hK
          go_simp
          go_at_call 35
          refine (add_any _ _ _ _ _ _ _ _ _ _ _ _ HG.out.c HG.out.d HG.out.pq hiN (by omega) hok.out).mono ?_
          rintro e w9 ⟨⟨v, rfl⟩, Oc, Od, w1, g1, g2⟩
          replace HG := Lib.hid (HG.out.add2 Oc Od g1 g2)
          replace HS := Lib.hid ((HS.out.grown g1 (fun e => by injection e with e; omega)).grown g2 (fun e => by injection e with e; omega))
          clear Oc Od g1 g2
          refine hK.out _ _ (⟨⟨HG.out.r.cell 0, HG.out.r.cell 1, HG.out.r.cell 2, HG.out.r.cell 3, HG.out.r.cell 4⟩, HS.out.cell 0, HS.out.cell 1, HS.out.cell 2, HS.out.cell 3⟩) (fun hHeld => ?_)
          clear hK K
          (try simp only [Act.put, List.setIfInBounds_toArray, List.set_cons_zero, List.set_cons_succ])
          refine wpAnyH_done (by kernel_rfl) ?_ _
          clear r0 r1 r2 r3 r4 s0 s1 s2 s3 HS
          go_wp2
          go_roundw
          case rel => exact ⟨k + 1, _, _, by go_num, by omega, HG.out, hadd⟩
          case measure => simp [intOf] <;> omega
      · have hd := hend _ _ (HI.out.done h.len4 hlt HN.out)
        have r0 : wr.cell? ⟨R, 0, none⟩ = some (.int .i64 s) := G.r.cell 0
        have r1 : wr.cell? ⟨R, 1, none⟩ = some (.int .i64 x) := G.r.cell 1
        have r2 : wr.cell? ⟨R, 2, none⟩ = some (.int .i64 y) := G.r.cell 2
        have r3 : wr.cell? ⟨R, 3, none⟩ = some (.slice (some ⟨p, 0, none⟩) N N) := G.r.cell 3
        have r4 : wr.cell? ⟨R, 4, none⟩ = some (.slice (some ⟨q, 0, none⟩) N N) := G.r.cell 4
        have z0 : wr.cell? ⟨w.heap.size, 0, none⟩ = some (.int .i64 0) := G.b.cell 0; have fz0 := G.b.frozen 0
        have z1 : wr.cell? ⟨w.heap.size, 1, none⟩ = some (.int .i64 0) := G.b.cell 1; have fz1 := G.b.frozen 1
        have z2 : wr.cell? ⟨w.heap.size, 2, none⟩ = some (.int .i64 0) := G.b.cell 2; have fz2 := G.b.frozen 2
        have z3 : wr.cell? ⟨w.heap.size, 3, none⟩ = some (.slice none 0 0) := G.b.cell 3; have fz3 := G.b.frozen 3
        have z4 : wr.cell? ⟨w.heap.size, 4, none⟩ = some (.slice none 0 0) := G.b.cell 4; have fz4 := G.b.frozen 4
        go_wp2
        obtain ⟨w6, hw6⟩ : ∃ w6, ((((wr.setCell ⟨w.heap.size, 0, none⟩ (.int .i64 s)).setCell ⟨w.heap.size, 1, none⟩ (.int .i64 x)).setCell ⟨w.heap.size, 2, none⟩ (.int .i64 y)).setCell ⟨w.heap.size, 3, none⟩ (.slice (some ⟨p, 0, none⟩) N N)).setCell ⟨w.heap.size, 4, none⟩ (.slice (some ⟨q, 0, none⟩) N N) = w6 := ⟨_, rfl⟩
        have K6 : Blk w6 w.heap.size 27 #[.int .i64 s, .int .i64 x, .int .i64 y, .slice (some ⟨p, 0, none⟩) N N, .slice (some ⟨q, 0, none⟩) N N] := hw6 ▸ G.b.five _ _ _ _ _
        have B6 : Below w.heap.size w w6 := hw6 ▸ below_five G.B _ _ _ _ _
        have C6 : Own w6 p (p + 1) 2 1 (some ⟨p, 0, none⟩) N N (ints cs) := hw6 ▸ own_five G.c (by have := G.p0; omega) _ _ _ _ _
        have D6 : Own w6 q (q + 1) 49 2 (some ⟨q, 0, none⟩) N N (prs ds) := hw6 ▸ own_five G.d (by have := G.p0; omega) _ _ _ _ _
        rw [hw6]
        clear z0 z1 z2 z3 z4 fz0 fz1 fz2 fz3 fz4
        have z0 : w6.cell? ⟨w.heap.size, 0, none⟩ = some (.int .i64 s) := K6.cell 0
        have z1 : w6.cell? ⟨w.heap.size, 1, none⟩ = some (.int .i64 x) := K6.cell 1
        have z2 : w6.cell? ⟨w.heap.size, 2, none⟩ = some (.int .i64 y) := K6.cell 2
        have z3 : w6.cell? ⟨w.heap.size, 3, none⟩ = some (.slice (some ⟨p, 0, none⟩) N N) := K6.cell 3
        have z4 : w6.cell? ⟨w.heap.size, 4, none⟩ = some (.slice (some ⟨q, 0, none⟩) N N) := K6.cell 4
        refine bodyPost_ret (v := .tuple #[.agg #[.int .i64 s, .int .i64 x, .int .i64 y, .slice (some ⟨p, 0, none⟩) N N, .slice (some ⟨q, 0, none⟩) N N], .int .i64 0]) (by simp [results, go_sem, z0, z1, z2, z3, z4]) rfl ?_
        rw [GridPost, hd]
        exact ⟨_, _, p, q, N, rfl, G.pq, by have := G.p0; omega, by have := G.p0; omega, hN9, C6, D6, B6⟩
end Go.Proofs.Ytciicolknphcnaa
