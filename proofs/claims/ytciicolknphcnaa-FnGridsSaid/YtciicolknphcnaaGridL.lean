/- FnGrids' helpers: a grid's rows that a call returned, carried; the cases of a grid of soundings. -/
import Derived.Test.YtciicolknphcnaaGridH
import Derived.Test.YtciicolknphcnaaDrawGrid
import Derived.Test.YtciicolknphcnaaDrawCell
import Derived.Test.YtciicolknphcnaaSum
namespace Go.Proofs.Ytciicolknphcnaa
open Go.RowKit
set_option maxRecDepth 100000
set_option linter.unusedVariables false
set_option linter.unusedSimpArgs false
set_option linter.unusedVariables false

def GX (w : World) (a b : Option Addr) (n : Nat) (cs : List Int) (ds : List (Int × Int)) : Prop := ∃ lo hi, GR w lo hi a b n cs ds
section
variable {w w' : World} {a b : Option Addr} {n : Nat} {cs : List Int} {ds : List (Int × Int)}
theorem GX.below (h : GX w a b n cs ds) (hb : Below w.heap.size w w') : GX w' a b n cs ds := let ⟨lo, hi, g⟩ := h; ⟨lo, hi, g.below hb (.inr (Nat.le_refl _))⟩
theorem GX.alloc (h : GX w a b n cs ds) (o : Obj) : GX (w.alloc o) a b n cs ds := let ⟨lo, hi, g⟩ := h; ⟨lo, hi, g.alloc o⟩
theorem GX.drew (h : GX w a b n cs ds) : GX w.drew a b n cs ds := h.below (Below.refl _ _).drew
theorem GX.drewN (h : GX w a b n cs ds) (k : Nat) : GX (w.drewN k) a b n cs ds := h.below (bdnG (Below.refl _ _) k)
theorem GX.rc (h : GX w a b n cs ds) : Row w 1 a n (ints cs) := let ⟨_, _, g⟩ := h; g.c.row
theorem GX.rd (h : GX w a b n cs ds) : Row w 2 b n (prs ds) := let ⟨_, _, g⟩ := h; g.d.row
end

theorem gridSnd_cases {s x y S X Y cd : Int} {ss : List I4} {cs : List Int} {ds : List (Int × Int)} (hr : gridSnd s x y ss = ((S, X, Y), (cs, ds), cd)) :
    cd ≠ 0 ∨ (cd = 0 ∧ S = s ∧ X = x ∧ Y = y ∧ sndsOk ss = true ∧ shapeOk s x y = true ∧ GP s x y (x * y).toNat ss cs ds ∧ gridOk s x y cs ds = true) := by
  unfold gridSnd at hr
  split at hr
  · rename_i h1
    split at hr
    · rename_i h2
      obtain ⟨⟨rfl, rfl, rfl⟩, hc, rfl⟩ : (s = S ∧ x = X ∧ y = Y) ∧ gridL s x y ss = (cs, ds) ∧ (0 : Int) = cd := by
        simp only [Prod.mk.injEq] at hr
        exact ⟨hr.1, hr.2.1, hr.2.2⟩
      have g := grid_facts h1 h2
      rw [hc] at g
      exact .inr ⟨rfl, rfl, rfl, rfl, h1, h2, g, g.ok h2 (sndsOk_len h1 rfl)⟩
    · simp only [Prod.mk.injEq] at hr; exact .inl (by omega)
  · simp only [Prod.mk.injEq] at hr; exact .inl (by omega)

theorem Row.head2g {w : World} {a : Option Addr} {n k : Nat} {xs : List (Int × Int)} (h : Row w 2 a n (prs xs)) (hk : k < n) : ∃ b off, a = some ⟨b, off, none⟩ ∧ b < w.heap.size := by
  obtain ⟨b, off, x, y, rfl, hc, _, _⟩ := h.at2 hk
  exact ⟨b, off, rfl, World.block_lt_of_cell? w _ hc⟩

theorem inCells_take {s x y : Int} {ss : List I4} {k : Nat} {t : I4} (h : ss[k]? = some t) : ((inCells s x y (ss.take (k + 1))).length : Int) = (inCells s x y (ss.take k)).length + (if 0 ≤ cellAt s x y t.1 t.2.1 then 1 else 0) := by
  rw [take_snoc h]
  by_cases hc : 0 ≤ cellAt s x y t.1 t.2.1 <;> simp [inCells, hc]
end Go.Proofs.Ytciicolknphcnaa
