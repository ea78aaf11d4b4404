/- What a draw keeps: lists of the call's own, the source's block. -/
import Derived.Test.YtaimckepaldocaaGreatDoorSource
import Derived.Test.YtaimckepaldocaaGreatDoorLib
namespace Go.Proofs.YtaimckepaldocaaGreatDoor
open Go.RowKit
set_option maxRecDepth 100000
set_option linter.unusedVariables false

theorem own_far {w w' : World} {p lo hi E s n c : Nat} {a : Option Addr} {vs : List Value} (h : Own w lo hi E s a n c vs) (hp : p < lo) (hg : w.grownBy w' (some p)) : Own w' lo hi E s a n c vs :=
  h.apart hg fun g e => by injection e with e; omega
theorem grown_below {w w1 w2 : World} {row : Option Nat} (h : w.grownBy w1 row) (hb : Below w.heap.size w1 w2) : w.grownBy w2 row :=
  ⟨hb.os.trans h.os, hb.tape.trans h.tape, hb.output.trans h.output, Nat.le_trans h.size hb.size, fun k hk hne => (hb.block k hk).trans (h.block k hk hne)⟩
theorem grown_alloc {w w1 : World} {row : Option Nat} (h : w.grownBy w1 row) (o : Obj) : w.grownBy (w1.alloc o) row :=
  grown_below h ((Below.refl _ _).alloc h.size o)
theorem below_next' {w0 w w' : World} {p : Nat} (h : Below w0.heap.size w0 w) (hp : w0.heap.size ≤ p) (hg : w.grownBy w' (some p)) : Below w0.heap.size w0 w' :=
  h.grown hg h.size fun k e => by injection e with e; omega
theorem Row.apart1 {w w' : World} {s n g : Nat} {a : Option Addr} {vs : List Value} (h : Row w s a n vs) (hs : 0 < s) (hg : w.grownBy w' (some g)) (hr : 0 < n → ∀ b off, a = some ⟨b, off, none⟩ → b ≠ g) : Row w' s a n vs := by
  rcases Nat.eq_zero_or_pos n with h0 | h0
  · exact ⟨h.1, fun hn => absurd hn (by omega)⟩
  · exact h.apart hs hg fun b off e h' => hr h0 b off e (by injection h' with h'; exact h'.symm)
theorem Row.lt {w : World} {s n : Nat} {a : Option Addr} {vs : List Value} (h : Row w s a n vs) (hs : 0 < s) : 0 < n → ∀ b off, a = some ⟨b, off, none⟩ → b < w.heap.size := by
  intro hn b off e
  obtain ⟨b', off', e', hc⟩ := h.2 hn
  rw [e] at e'
  injection e' with e'
  injection e' with e' _ _
  subst e'
  have h0 : 0 < vs.length := by rw [h.1]; exact Nat.mul_pos hn hs
  exact World.block_lt_of_cell? w _ (hc 0 vs[0] (List.getElem?_eq_getElem h0))
/-- A new list's block lies behind the source's. -/
theorem Own.farFrom {w : World} {lo hi E s n c p : Nat} {a : Option Addr} {vs : List Value} (h : Own w lo hi E s a n c vs) (hp : p < lo) : 0 < n → ∀ b off, a = some ⟨b, off, none⟩ → p < b := by
  intro hn b off e
  obtain ⟨g, e', h1, -, -⟩ := h.head hn
  rw [e] at e'
  injection e' with e'
  injection e' with e' _ _
  omega
end Go.Proofs.YtaimckepaldocaaGreatDoor
