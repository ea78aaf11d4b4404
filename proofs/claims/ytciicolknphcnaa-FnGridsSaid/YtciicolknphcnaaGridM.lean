/- A grid that a call returns: its two rows, marked and held. -/
import Derived.Test.YtciicolknphcnaaGridU
namespace Go.Proofs.Ytciicolknphcnaa
open Go.RowKit
set_option maxRecDepth 100000
set_option linter.unusedVariables false
set_option linter.unusedSimpArgs false
set_option linter.unusedVariables false

theorem Own.re {w : World} {lo hi lo' hi' E s n c : Nat} {a : Option Addr} {vs : List Value} (h : Own w lo hi E s a n c vs) (hp : ∀ g, (Value.slice a n c).ownBlock = some g → lo' ≤ g ∧ g < hi') : Own w lo' hi' E s a n c vs := by
  refine ⟨⟨h.1.1, ?_⟩, fun g hg => (hp g hg).2⟩
  rcases h.1.2 with hn | ⟨g, cap, cur, hv, hb, rest⟩
  · exact .inl hn
  · exact .inr ⟨g, cap, cur, hv, (hp g (by rw [hv]; rfl)).1, rest⟩

structure GR (w : World) (lo hi : Nat) (a b : Option Addr) (n : Nat) (cs : List Int) (ds : List (Int × Int)) : Prop where
  c : Own w lo hi 2 1 a n n (ints cs)
  d : Own w lo hi 49 2 b n n (prs ds)
  ne : ∀ g g', (Value.slice a n n).ownBlock = some g → (Value.slice b n n).ownBlock = some g' → g ≠ g'
section
variable {w w' : World} {lo hi lo' hi' n B : Nat} {a b : Option Addr} {cs : List Int} {ds : List (Int × Int)}
theorem GR.below (h : GR w lo hi a b n cs ds) (hb : Below B w w') (hB : hi ≤ B ∨ w.heap.size ≤ B) : GR w' lo hi a b n cs ds := ⟨h.c.below hb hB, h.d.below hb hB, h.ne⟩
theorem GR.alloc (h : GR w lo hi a b n cs ds) (o : Obj) : GR (w.alloc o) lo hi a b n cs ds := ⟨h.c.alloc o, h.d.alloc o, h.ne⟩
theorem GR.apart (h : GR w lo hi a b n cs ds) {row : Option Nat} (hg : w.grownBy w' row) (hr : ∀ g, row = some g → g < lo ∨ hi ≤ g) : GR w' lo hi a b n cs ds := ⟨h.c.apart hg hr, h.d.apart hg hr, h.ne⟩
theorem GR.of {p q : Nat} (hpq : p ≠ q) (hp : lo ≤ p) (hq : lo ≤ q) (hc : Own w p (p + 1) 2 1 a n n (ints cs)) (hd : Own w q (q + 1) 49 2 b n n (prs ds)) : GR w lo w.heap.size a b n cs ds :=
  ⟨hc.re (fun g hg => by have := hc.lt g hg; omega), hd.re (fun g hg => by have := hd.lt g hg; omega), fun g g' e e' => by have := hc.lt g e; have := hd.lt g' e'; omega⟩
end

theorem markGrid_any (s x y : Int) (a b : Option Addr) (n lo hi : Nat) (cs : List Int) (ds : List (Int × Int)) (w : World) (G : GR w lo hi a b n cs ds) (hn : n ≤ 900) :
    Calls Try.prog 12 #[.agg #[.int .i64 s, .int .i64 x, .int .i64 y, .slice a n n, .slice b n n], .int .i64 1] w fun e w' => e = .returned (.int .i64 (1 + n + 2 * n)) ∧ GR w' lo hi a b n (marks 1 n) (marks2 (1 + n) n) ∧ ∃ w1, (w.alloc (.cells #[.int .i64 s, .int .i64 x, .int .i64 y, .slice a n n, .slice b n n] 27)).grownBy w1 (Value.slice a n n).ownBlock ∧ w1.grownBy w' (Value.slice b n n).ownBlock := by
  have h1 := (G.c.alloc (.cells #[.int .i64 s, .int .i64 x, .int .i64 y, .slice a n n, .slice b n n] 27))
  have d1 := (G.d.alloc (.cells #[.int .i64 s, .int .i64 x, .int .i64 y, .slice a n n, .slice b n n] 27))
  have K := Lib.hid (Blk.new w 27 #[.int .i64 s, .int .i64 x, .int .i64 y, .slice a n n, .slice b n n])
  have hlt := G.c.lt
  have hltd := G.d.lt
  have hne := G.ne
  go_enter Try.func12, Try.ntmps12
  go_wp2_with fail
  go_at_call 40
  refine (markInt64S_any _ _ _ _ _ _ _ _ h1 (by omega) (by omega) (by omega)).mono ?_
  rintro e w1 ⟨rfl, o1, hg1⟩
  have K1 := K.out.grown hg1 (fun e => by have := hlt _ e.symm; omega)
  have d2 : Own w1 lo hi 49 2 b n n (prs ds) := by
    cases hb : (Value.slice b n n).ownBlock with
    | none => 
      have := d1.re (lo' := 0) (hi' := 0) (fun g hg => by rw [hb] at hg; cases hg)
      exact (this.keep (fun b h0 h1 h2 => by omega)).re (fun g hg => by rw [hb] at hg; cases hg)
    | some g =>
      have := d1.re (lo' := g) (hi' := g + 1) (fun g' hg => by rw [hb] at hg; injection hg with hg; omega)
      exact (this.apart hg1 (fun g' hg' => by have := hne g' g hg' hb; omega)).re (fun g' hg => hltd g' hg |>.imp_right And.left)
  have k4 : w1.cell? ⟨w.heap.size, 4, none⟩ = some (.slice b n n) := K1.cell 4
  go_wp2_with fail
  go_at_call 41
  refine (markIntervalS_any _ _ _ _ _ _ _ _ d2 (by omega) (by omega) (by omega)).mono ?_
  rintro e w2 ⟨rfl, o2, hg2⟩
  have c2 : Own w2 lo hi 2 1 a n n (ints (marks 1 n)) := by
    cases ha : (Value.slice a n n).ownBlock with
    | none => 
      have := o1.re (lo' := 0) (hi' := 0) (fun g hg => by rw [ha] at hg; cases hg)
      exact (this.keep (fun b h0 h1 h2 => by omega)).re (fun g hg => by rw [ha] at hg; cases hg)
    | some g =>
      have := o1.re (lo' := g) (hi' := g + 1) (fun g' hg => by rw [ha] at hg; injection hg with hg; omega)
      exact (this.apart hg2 (fun g' hg' => by have := hne g g' ha hg'; omega)).re (fun g' hg => hlt g' hg |>.imp_right And.left)
  go_wp2
  go_ret
  exact ⟨rfl, ⟨c2, o2, hne⟩, w1, hg1, hg2⟩

theorem heldGrid_any (s x y : Int) (a b : Option Addr) (n lo hi : Nat) (w : World) (G : GR w lo hi a b n (marks 1 n) (marks2 (1 + n) n)) (hn : n ≤ 900) :
    Calls Try.prog 13 #[.agg #[.int .i64 s, .int .i64 x, .int .i64 y, .slice a n n, .slice b n n], .int .i64 1] w fun e w' => e = .returned (.int .i64 (1 + n + 2 * n)) ∧ Below w.heap.size w w' := by
  have h1 := (G.c.alloc (.cells #[.int .i64 s, .int .i64 x, .int .i64 y, .slice a n n, .slice b n n] 27)).row
  have d1 := (G.d.alloc (.cells #[.int .i64 s, .int .i64 x, .int .i64 y, .slice a n n, .slice b n n] 27)).row
  have K := Lib.hid (Blk.new w 27 #[.int .i64 s, .int .i64 x, .int .i64 y, .slice a n n, .slice b n n])
  have B := Lib.hid ((Below.refl w.heap.size w).alloc (Nat.le_refl _) (.cells #[.int .i64 s, .int .i64 x, .int .i64 y, .slice a n n, .slice b n n] 27))
  go_enter Try.func13, Try.ntmps13
  go_wp2_with fail
  go_at_call 42
  refine (heldInt64S_any _ _ _ _ _ h1 (by omega) (by omega) (by omega)).mono ?_
  rintro e w1 ⟨rfl, hb1⟩
  have K1 := K.out.belowSelf hb1
  have d2 := d1.below2 hb1 (Nat.le_refl _)
  have B1 := B.out.trans (hb1.mono B.out.size)
  have k4 : w1.cell? ⟨w.heap.size, 4, none⟩ = some (.slice b n n) := K1.cell 4
  go_wp2_with fail
  go_at_call 43
  refine (heldIntervalS_any _ _ _ _ _ d2 (by omega) (by omega) (by omega)).mono ?_
  rintro e w2 ⟨rfl, hb2⟩
  go_wp2
  go_ret
  exact ⟨rfl, B1.trans (hb2.mono B1.size)⟩

def RPost (S X Y cd : Int) (cs : List Int) (ds : List (Int × Int)) (w : World) (e : Ending) (w' : World) : Prop := ∃ (a b : Option Addr) (n : Nat), e = .returned (.tuple #[.agg #[.int .i64 S, .int .i64 X, .int .i64 Y, .slice a n n, .slice b n n], .int .i64 cd]) ∧ n ≤ 900 ∧ GR w' w.heap.size w'.heap.size a b n cs ds ∧ Below w.heap.size w w'
theorem RPost.of {s x y S X Y cd : Int} {ss : List I4} {cs : List Int} {ds : List (Int × Int)} {w w' : World} {e : Ending} (hr : gridSnd s x y ss = ((S, X, Y), (cs, ds), cd)) (h : GridPost s x y ss w e w') : RPost S X Y cd cs ds w e w' := by
  obtain ⟨a, b, p, q, n, he, hpq, hp, hq, hn, hc, hd, hB⟩ := h
  rw [hr] at he hc hd
  exact ⟨a, b, n, he, hn, GR.of hpq hp hq hc hd, hB⟩
end Go.Proofs.Ytciicolknphcnaa
