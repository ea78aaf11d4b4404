/- Soundings, a rule and an index that are drawn; what is drawn from a code. -/
import Derived.Test.YtcbehnlpefjhdaaDrawSpike
namespace Go.Proofs.Ytcbehnlpefjhdaa
open Go.RowKit
set_option maxRecDepth 100000
set_option linter.unusedVariables false

/-- Soundings, a rule and an index that a draw hands out. -/
def IndexDraw (p : Nat) (w : World) (e : Ending) (w' : World) : Prop := ∃ (a : Option Addr) (q c : Nat) (ys : List I4) (r l m i : Int),
  e = .returned (.tuple #[.slice a q c, .agg #[.int .i64 r, .int .i64 l, .int .i64 m], .int .i64 i]) ∧ Own w' w.heap.size w'.heap.size 46 4 a q c (frs ys) ∧ q ≤ 201 ∧ SrcOk w' p ∧ w.grownBy w' (some p)

theorem grown_drew {w w1 : World} {row : Option Nat} (h : w.grownBy w1 row) : w.grownBy w1.drew row := ⟨h.os, h.tape, h.output, h.size, h.block⟩

set_option maxHeartbeats 6400000 in
theorem l23DrawIndex_any (p : Nat) (w : World) (h : SrcOk w p) :
    Calls Try.prog 36 #[.pointer (some ⟨p, 0, none⟩)] w (IndexDraw p w) := by
  have hpw := h.lt
  have HS := Lib.hid (h.alloc (.cells #[.int .i64 0, .int .i64 0, .int .i64 0] 26))
  have G := grown_alloc (World.grownBy.refl w (some p)) (.cells #[.int .i64 0, .int .i64 0, .int .i64 0] 26)
  have J := Lib.hid (Blk.new w 26 #[.int .i64 0, .int .i64 0, .int .i64 0])
  go_enter Try.func36, Try.ntmps36
  go_wp2_with fail
  go_at_call 29
  refine (l23Draw_any _ _ HS.out).mono ?_
  intro e w1 hd
  obtain ⟨a1, q, c1, ys, r, l, m, rfl, o1, hq, hs, hg⟩ := hd
  rw [World.size_alloc] at o1
  obtain ⟨X, hX⟩ : ∃ X, w1.heap.size = X := ⟨_, rfl⟩
  have O := Lib.hid (o1.alloc (.cells #[.int .i64 r, .int .i64 l, .int .i64 m] 26))
  replace G := grown_alloc (G.trans hg) (.cells #[.int .i64 r, .int .i64 l, .int .i64 m] 26)
  replace J := Lib.hid ((J.out.grown hg (fun e => by injection e with e; omega)).alloc (.cells #[.int .i64 r, .int .i64 l, .int .i64 m] 26))
  replace HS := Lib.hid (hs.alloc (.cells #[.int .i64 r, .int .i64 l, .int .i64 m] 26))
  have K := Lib.hid (Blk.new' w1 26 #[.int .i64 r, .int .i64 l, .int .i64 m] (g := X) hX.symm)
  have hpX : p < X := by have := hs.lt; omega
  have hwX : w.heap.size < X := by have := hg.size; simp at this; omega
  clear hs hg o1
  go_wp2_with fail
  go_at_call 54
  refine (l01Next_any _ _ _ HS.out (by omega)).mono ?_
  rintro e w4 ⟨t, rfl, -, hs, hg⟩
  have O4 := Lib.hid (own_far O.out (by omega) hg).leave.drew
  have G4 := grown_drew (G.trans hg)
  have J4 := Lib.hid (J.out.grown hg (fun e => by injection e with e; omega)).drew
  have K4 := Lib.hid (K.out.grown hg (fun e => by injection e with e; omega)).drew
  have HS4 := Lib.hid hs.drew
  have hs4 := hs.lt
  clear hs hg O G J K HS hX
  have hqI : (q : Int) ≤ 201 := by omega
  have hXl := K4.out.lt
  have hXw : X ≠ w.heap.size := by omega
  by_cases t0 : t = 0
  · subst t0
    go_wp2_with fail
    go_region_held3 (fun w' => w'.cell? ⟨X, 0, none⟩ = some (.int .i64 r) ∧ w'.cell? ⟨X, 1, none⟩ = some (.int .i64 l) ∧ w'.cell? ⟨X, 2, none⟩ = some (.int .i64 m)) (first | exact ⟨K4.out.cell 0, K4.out.cell 1, K4.out.cell 2⟩ | exact ⟨(K4.out.alloc _).cell 0, (K4.out.alloc _).cell 1, (K4.out.alloc _).cell 2⟩ | exact ⟨(((K4.out.far hXw _).far hXw _).far hXw _).cell 0, (((K4.out.far hXw _).far hXw _).far hXw _).cell 1, (((K4.out.far hXw _).far hXw _).far hXw _).cell 2⟩) (first | (go_at_call 60; refine (l01Pick_any _ _ _ _ [-1, (q : Int)] _ (HS4.out.alloc _) (by exact Row.lit _ (ints [-1, (q : Int)]) _ _ _ (by simp) (by rfl)) (by omega) (by omega) (fun b off e => by injection e with e; injection e with e _ _; have := HS4.out.lt; omega)).mono ?_; rintro e w5 ⟨i, rfl, -, hs5, hg5⟩; replace O4 := Lib.hid (own_far (O4.out.alloc (.cells #[.int .i64 (-1), .int .i64 (q : Int)] 2)) (by omega) hg5).leave; replace J4 := Lib.hid ((J4.out.alloc (.cells #[.int .i64 (-1), .int .i64 (q : Int)] 2)).grown hg5 (fun e => by injection e with e; omega)); replace G4 := (grown_alloc G4 (.cells #[.int .i64 (-1), .int .i64 (q : Int)] 2)).trans hg5; replace K4 := Lib.hid ((K4.out.alloc (.cells #[.int .i64 (-1), .int .i64 (q : Int)] 2)).grown hg5 (fun e => by injection e with e; omega)); replace HS4 := Lib.hid hs5; clear hs5 hg5; have p0 : w5.cell? ⟨w.heap.size, 0, none⟩ = some (.int .i64 0) := J4.out.cell 0; have p1 : w5.cell? ⟨w.heap.size, 1, none⟩ = some (.int .i64 0) := J4.out.cell 1; have p2 : w5.cell? ⟨w.heap.size, 2, none⟩ = some (.int .i64 0) := J4.out.cell 2; have f0 := J4.out.frozen 0; have f1 := J4.out.frozen 1; have f2 := J4.out.frozen 2))
    all_goals
      have HE := Lib.hid (((J4.out.set_ 0 (.int .i64 r)).set_ 1 (.int .i64 l)).set_ 2 (.int .i64 m))
      have GE := Lib.hid (grown_below G4 ((((Below.refl w.heap.size _).setCell (p := ⟨w.heap.size, 0, none⟩) (Nat.le_refl _) (.int .i64 r)).setCell (p := ⟨w.heap.size, 1, none⟩) (Nat.le_refl _) (.int .i64 l)).setCell (p := ⟨w.heap.size, 2, none⟩) (Nat.le_refl _) (.int .i64 m)))
      have SE := Lib.hid (HS4.out.below ((((Below.refl (p + 1) _).setCell (p := ⟨w.heap.size, 0, none⟩) hpw (.int .i64 r)).setCell (p := ⟨w.heap.size, 1, none⟩) hpw (.int .i64 l)).setCell (p := ⟨w.heap.size, 2, none⟩) hpw (.int .i64 m)) (Nat.lt_succ_self p))
      have OE := Lib.hid ((((O4.out.setFar (p := ⟨w.heap.size, 0, none⟩) (.inl (Nat.lt_succ_self _)) (.int .i64 r)).setFar (p := ⟨w.heap.size, 1, none⟩) (.inl (Nat.lt_succ_self _)) (.int .i64 l)).setFar (p := ⟨w.heap.size, 2, none⟩) (.inl (Nat.lt_succ_self _)) (.int .i64 m)).leave.mono (lo' := w.heap.size) (Nat.le_succ _) (Nat.le_refl _))
      clear O4 G4 J4 HS4 K4
      go_wp2
      have z0 := HE.out.cell 0
      have z1 := HE.out.cell 1
      have z2 := HE.out.cell 2
      clear p0 p1 p2 f0 f1 f2
      exact bodyPost_ret (v := .tuple #[.slice a1 q c1, .agg #[.int .i64 r, .int .i64 l, .int .i64 m], .int .i64 i]) (by simp only [results, Try.results36, Array.size]; simp [go_sem, z0, z1, z2]) rfl ⟨_, _, _, _, _, _, _, _, rfl, OE.out, hq, SE.out, GE.out⟩
  · have t0f : (t == 0) = false := by simpa using t0
    clear t0
    go_wp2_with fail
    go_region_held3 (fun w' => w'.cell? ⟨X, 0, none⟩ = some (.int .i64 r) ∧ w'.cell? ⟨X, 1, none⟩ = some (.int .i64 l) ∧ w'.cell? ⟨X, 2, none⟩ = some (.int .i64 m)) (first | exact ⟨K4.out.cell 0, K4.out.cell 1, K4.out.cell 2⟩ | exact ⟨(K4.out.alloc _).cell 0, (K4.out.alloc _).cell 1, (K4.out.alloc _).cell 2⟩ | exact ⟨(((K4.out.far hXw _).far hXw _).far hXw _).cell 0, (((K4.out.far hXw _).far hXw _).far hXw _).cell 1, (((K4.out.far hXw _).far hXw _).far hXw _).cell 2⟩) (first | (go_at_call 54; refine (l01Next_any _ _ _ HS4.out (by omega)).mono ?_; rintro e w5 ⟨i, rfl, -, hs5, hg5⟩; replace O4 := Lib.hid (own_far O4.out (by omega) hg5).leave; replace J4 := Lib.hid (J4.out.grown hg5 (fun e => by injection e with e; omega)); replace G4 := G4.trans hg5; replace K4 := Lib.hid (K4.out.grown hg5 (fun e => by injection e with e; omega)); replace HS4 := Lib.hid hs5; clear hs5 hg5; have p0 : w5.cell? ⟨w.heap.size, 0, none⟩ = some (.int .i64 0) := J4.out.cell 0; have p1 : w5.cell? ⟨w.heap.size, 1, none⟩ = some (.int .i64 0) := J4.out.cell 1; have p2 : w5.cell? ⟨w.heap.size, 2, none⟩ = some (.int .i64 0) := J4.out.cell 2; have f0 := J4.out.frozen 0; have f1 := J4.out.frozen 1; have f2 := J4.out.frozen 2))
    all_goals
      have HE := Lib.hid (((J4.out.set_ 0 (.int .i64 r)).set_ 1 (.int .i64 l)).set_ 2 (.int .i64 m))
      have GE := Lib.hid (grown_below G4 ((((Below.refl w.heap.size _).setCell (p := ⟨w.heap.size, 0, none⟩) (Nat.le_refl _) (.int .i64 r)).setCell (p := ⟨w.heap.size, 1, none⟩) (Nat.le_refl _) (.int .i64 l)).setCell (p := ⟨w.heap.size, 2, none⟩) (Nat.le_refl _) (.int .i64 m)))
      have SE := Lib.hid (HS4.out.below ((((Below.refl (p + 1) _).setCell (p := ⟨w.heap.size, 0, none⟩) hpw (.int .i64 r)).setCell (p := ⟨w.heap.size, 1, none⟩) hpw (.int .i64 l)).setCell (p := ⟨w.heap.size, 2, none⟩) hpw (.int .i64 m)) (Nat.lt_succ_self p))
      have OE := Lib.hid ((((O4.out.setFar (p := ⟨w.heap.size, 0, none⟩) (.inl (Nat.lt_succ_self _)) (.int .i64 r)).setFar (p := ⟨w.heap.size, 1, none⟩) (.inl (Nat.lt_succ_self _)) (.int .i64 l)).setFar (p := ⟨w.heap.size, 2, none⟩) (.inl (Nat.lt_succ_self _)) (.int .i64 m)).leave.mono (lo' := w.heap.size) (Nat.le_succ _) (Nat.le_refl _))
      clear O4 G4 J4 HS4 K4
      go_wp2
      have z0 := HE.out.cell 0
      have z1 := HE.out.cell 1
      have z2 := HE.out.cell 2
      clear p0 p1 p2 f0 f1 f2
      exact bodyPost_ret (v := .tuple #[.slice a1 q c1, .agg #[.int .i64 r, .int .i64 l, .int .i64 m], .int .i64 i]) (by simp only [results, Try.results36, Array.size]; simp [go_sem, z0, z1, z2]) rfl ⟨_, _, _, _, _, _, _, _, rfl, OE.out, hq, SE.out, GE.out⟩

/-! ### from a code -/
def SpikeCode (w : World) (e : Ending) (w' : World) : Prop := ∃ (a : Option Addr) (q c : Nat) (ys : List I4) (r l m : Int),
  e = .returned (.tuple #[.slice a q c, .agg #[.int .i64 r, .int .i64 l, .int .i64 m]]) ∧ Row w' 4 a q (frs ys) ∧ q ≤ 201 ∧ Below w.heap.size w w'
def IndexCode (w : World) (e : Ending) (w' : World) : Prop := ∃ (a : Option Addr) (q c : Nat) (ys : List I4) (r l m i : Int),
  e = .returned (.tuple #[.slice a q c, .agg #[.int .i64 r, .int .i64 l, .int .i64 m], .int .i64 i]) ∧ Row w' 4 a q (frs ys) ∧ q ≤ 201 ∧ Below w.heap.size w w'

set_option maxHeartbeats 1600000 in
theorem drawDeepSpikes_any (a : Option Addr) (n c : Nat) (bs : List Nat) (w : World) (h : Code8 w a n bs) :
    Calls Try.prog 6 #[.slice a n c] w (SpikeCode w) := by
  have B0 := (Below.refl w.heap.size w).alloc (Nat.le_refl _) (.cells #[.int .i64 0, .int .i64 0, .int .i64 0] 26)
  have hA := h.below B0 (Nat.le_refl _)
  have J := Lib.hid (Blk.new w 26 #[.int .i64 0, .int .i64 0, .int .i64 0])
  clear h
  go_enter Try.func6, Try.ntmps6
  go_wp2_with fail
  go_at_call 30
  refine (l01From_any _ _ _ _ _ hA).mono ?_
  rintro e w1 ⟨p, rfl, hp, hs, B⟩
  have hpw : w.heap.size < p := by simp at hp; omega
  replace J := Lib.hid (J.out.belowSelf B)
  replace B := B0.trans (B.mono (by simp))
  clear hp hA B0
  go_wp2_with fail
  go_at_call 29
  refine (l23Draw_any _ _ hs).mono ?_
  intro e w2 hd
  obtain ⟨a1, q, c1, ys, r, l, m, rfl, o1, hq, -, hg⟩ := hd
  replace J := Lib.hid (J.out.grown hg (fun e => by injection e with e; omega))
  have hsz := hs.lt
  have O5 := Lib.hid o1
  have B5 := below_next' B (Nat.le_of_lt hpw) hg
  have p0 : w2.cell? ⟨w.heap.size, 0, none⟩ = some (.int .i64 0) := J.out.cell 0
  have p1 : w2.cell? ⟨w.heap.size, 1, none⟩ = some (.int .i64 0) := J.out.cell 1
  have p2 : w2.cell? ⟨w.heap.size, 2, none⟩ = some (.int .i64 0) := J.out.cell 2
  have f0 := J.out.frozen 0
  have f1 := J.out.frozen 1
  have f2 := J.out.frozen 2
  have HE := Lib.hid (((J.out.set_ 0 (.int .i64 r)).set_ 1 (.int .i64 l)).set_ 2 (.int .i64 m))
  have BE := Lib.hid (((B5.setCell (p := ⟨w.heap.size, 0, none⟩) (Nat.le_refl _) (.int .i64 r)).setCell (p := ⟨w.heap.size, 1, none⟩) (Nat.le_refl _) (.int .i64 l)).setCell (p := ⟨w.heap.size, 2, none⟩) (Nat.le_refl _) (.int .i64 m))
  have hlo : w.heap.size < w1.heap.size := by omega
  have OE := Lib.hid (((O5.out.setFar (p := ⟨w.heap.size, 0, none⟩) (.inl hlo) (.int .i64 r)).setFar (p := ⟨w.heap.size, 1, none⟩) (.inl hlo) (.int .i64 l)).setFar (p := ⟨w.heap.size, 2, none⟩) (.inl hlo) (.int .i64 m)).row
  clear o1 O5 hg hs B B5 J
  go_wp2
  have z0 := HE.out.cell 0
  have z1 := HE.out.cell 1
  have z2 := HE.out.cell 2
  clear p0 p1 p2 f0 f1 f2
  exact bodyPost_ret (v := .tuple #[.slice a1 q c1, .agg #[.int .i64 r, .int .i64 l, .int .i64 m]]) (by simp only [results, Try.results6, Array.size]; simp [go_sem, z0, z1, z2]) rfl ⟨_, _, _, _, _, _, _, rfl, OE.out, hq, BE.out⟩

set_option maxHeartbeats 1600000 in
theorem drawCleanSoundings_any (a : Option Addr) (n c : Nat) (bs : List Nat) (w : World) (h : Code8 w a n bs) :
    Calls Try.prog 20 #[.slice a n c] w (SpikeCode w) := by
  have B0 := (Below.refl w.heap.size w).alloc (Nat.le_refl _) (.cells #[.int .i64 0, .int .i64 0, .int .i64 0] 26)
  have hA := h.below B0 (Nat.le_refl _)
  have J := Lib.hid (Blk.new w 26 #[.int .i64 0, .int .i64 0, .int .i64 0])
  clear h
  go_enter Try.func20, Try.ntmps20
  go_wp2_with fail
  go_at_call 30
  refine (l01From_any _ _ _ _ _ hA).mono ?_
  rintro e w1 ⟨p, rfl, hp, hs, B⟩
  have hpw : w.heap.size < p := by simp at hp; omega
  replace J := Lib.hid (J.out.belowSelf B)
  replace B := B0.trans (B.mono (by simp))
  clear hp hA B0
  go_wp2_with fail
  go_at_call 29
  refine (l23Draw_any _ _ hs).mono ?_
  intro e w2 hd
  obtain ⟨a1, q, c1, ys, r, l, m, rfl, o1, hq, -, hg⟩ := hd
  replace J := Lib.hid (J.out.grown hg (fun e => by injection e with e; omega))
  have hsz := hs.lt
  have O5 := Lib.hid o1
  have B5 := below_next' B (Nat.le_of_lt hpw) hg
  have p0 : w2.cell? ⟨w.heap.size, 0, none⟩ = some (.int .i64 0) := J.out.cell 0
  have p1 : w2.cell? ⟨w.heap.size, 1, none⟩ = some (.int .i64 0) := J.out.cell 1
  have p2 : w2.cell? ⟨w.heap.size, 2, none⟩ = some (.int .i64 0) := J.out.cell 2
  have f0 := J.out.frozen 0
  have f1 := J.out.frozen 1
  have f2 := J.out.frozen 2
  have HE := Lib.hid (((J.out.set_ 0 (.int .i64 r)).set_ 1 (.int .i64 l)).set_ 2 (.int .i64 m))
  have BE := Lib.hid (((B5.setCell (p := ⟨w.heap.size, 0, none⟩) (Nat.le_refl _) (.int .i64 r)).setCell (p := ⟨w.heap.size, 1, none⟩) (Nat.le_refl _) (.int .i64 l)).setCell (p := ⟨w.heap.size, 2, none⟩) (Nat.le_refl _) (.int .i64 m))
  have hlo : w.heap.size < w1.heap.size := by omega
  have OE := Lib.hid (((O5.out.setFar (p := ⟨w.heap.size, 0, none⟩) (.inl hlo) (.int .i64 r)).setFar (p := ⟨w.heap.size, 1, none⟩) (.inl hlo) (.int .i64 l)).setFar (p := ⟨w.heap.size, 2, none⟩) (.inl hlo) (.int .i64 m)).row
  clear o1 O5 hg hs B B5 J
  go_wp2
  have z0 := HE.out.cell 0
  have z1 := HE.out.cell 1
  have z2 := HE.out.cell 2
  clear p0 p1 p2 f0 f1 f2
  exact bodyPost_ret (v := .tuple #[.slice a1 q c1, .agg #[.int .i64 r, .int .i64 l, .int .i64 m]]) (by simp only [results, Try.results20, Array.size]; simp [go_sem, z0, z1, z2]) rfl ⟨_, _, _, _, _, _, _, rfl, OE.out, hq, BE.out⟩

set_option maxHeartbeats 1600000 in
theorem drawSpikeMargin_any (a : Option Addr) (n c : Nat) (bs : List Nat) (w : World) (h : Code8 w a n bs) :
    Calls Try.prog 11 #[.slice a n c] w (IndexCode w) := by
  have B0 := (Below.refl w.heap.size w).alloc (Nat.le_refl _) (.cells #[.int .i64 0, .int .i64 0, .int .i64 0] 26)
  have hA := h.below B0 (Nat.le_refl _)
  have J := Lib.hid (Blk.new w 26 #[.int .i64 0, .int .i64 0, .int .i64 0])
  clear h
  go_enter Try.func11, Try.ntmps11
  go_wp2_with fail
  go_at_call 30
  refine (l01From_any _ _ _ _ _ hA).mono ?_
  rintro e w1 ⟨p, rfl, hp, hs, B⟩
  have hpw : w.heap.size < p := by simp at hp; omega
  replace J := Lib.hid (J.out.belowSelf B)
  replace B := B0.trans (B.mono (by simp))
  clear hp hA B0
  go_wp2_with fail
  go_at_call 36
  refine (l23DrawIndex_any _ _ hs).mono ?_
  intro e w2 hd
  obtain ⟨a1, q, c1, ys, r, l, m, i, rfl, o1, hq, -, hg⟩ := hd
  replace J := Lib.hid (J.out.grown hg (fun e => by injection e with e; omega))
  have hsz := hs.lt
  have O5 := Lib.hid o1
  have B5 := below_next' B (Nat.le_of_lt hpw) hg
  have p0 : w2.cell? ⟨w.heap.size, 0, none⟩ = some (.int .i64 0) := J.out.cell 0
  have p1 : w2.cell? ⟨w.heap.size, 1, none⟩ = some (.int .i64 0) := J.out.cell 1
  have p2 : w2.cell? ⟨w.heap.size, 2, none⟩ = some (.int .i64 0) := J.out.cell 2
  have f0 := J.out.frozen 0
  have f1 := J.out.frozen 1
  have f2 := J.out.frozen 2
  have HE := Lib.hid (((J.out.set_ 0 (.int .i64 r)).set_ 1 (.int .i64 l)).set_ 2 (.int .i64 m))
  have BE := Lib.hid (((B5.setCell (p := ⟨w.heap.size, 0, none⟩) (Nat.le_refl _) (.int .i64 r)).setCell (p := ⟨w.heap.size, 1, none⟩) (Nat.le_refl _) (.int .i64 l)).setCell (p := ⟨w.heap.size, 2, none⟩) (Nat.le_refl _) (.int .i64 m))
  have hlo : w.heap.size < w1.heap.size := by omega
  have OE := Lib.hid (((O5.out.setFar (p := ⟨w.heap.size, 0, none⟩) (.inl hlo) (.int .i64 r)).setFar (p := ⟨w.heap.size, 1, none⟩) (.inl hlo) (.int .i64 l)).setFar (p := ⟨w.heap.size, 2, none⟩) (.inl hlo) (.int .i64 m)).row
  clear o1 O5 hg hs B B5 J
  go_wp2
  have z0 := HE.out.cell 0
  have z1 := HE.out.cell 1
  have z2 := HE.out.cell 2
  clear p0 p1 p2 f0 f1 f2
  exact bodyPost_ret (v := .tuple #[.slice a1 q c1, .agg #[.int .i64 r, .int .i64 l, .int .i64 m], .int .i64 i]) (by simp only [results, Try.results11, Array.size]; simp [go_sem, z0, z1, z2]) rfl ⟨_, _, _, _, _, _, _, _, rfl, OE.out, hq, BE.out⟩
end Go.Proofs.Ytcbehnlpefjhdaa
