/- Two lists that grow side by side: append, telling where the list lies. -/
import Derived.Test.YtaimckepaldocaaGreatDoorLib
import Derived.Deep.AppendLies
namespace Go.Proofs.YtaimckepaldocaaGreatDoor
open Go.RowKit
set_option maxRecDepth 100000
set_option linter.unusedVariables false

/-- A list of a block of its own. -/
def Sol (w : World) (E s g n c : Nat) (vs : List Value) : Prop := Own w g (g + 1) E s (some ⟨g, 0, none⟩) n c vs
theorem Own.sol {w : World} {lo hi E s g n c : Nat} {vs : List Value} (h : Own w lo hi E s (some ⟨g, 0, none⟩) n c vs) : Sol w E s g n c vs := by
  refine ⟨⟨h.1.1, ?_⟩, fun g' hg => by simp [Value.ownBlock] at hg; omega⟩
  rcases h.1.2 with ⟨hv, _⟩ | ⟨g2, cap, cur, hv, hb, rest⟩
  · cases hv
  · refine .inr ⟨g2, cap, cur, hv, ?_, rest⟩
    injection hv with hv
    injection hv with hv
    injection hv with hv
    omega
theorem Sol.lt {w : World} {E s g n c : Nat} {vs : List Value} (h : Sol w E s g n c vs) : g < w.heap.size := by
  have := Own.lt h g (by simp [Value.ownBlock])
  omega
theorem Sol.apart {w w' : World} {E s g n c : Nat} {vs : List Value} (h : Sol w E s g n c vs) {r : Nat} (hg : w.grownBy w' (some r)) (hr : g ≠ r) : Sol w' E s g n c vs :=
  Own.apart h hg fun g' e => by injection e with e; omega
theorem Sol.alloc {w : World} {E s g n c : Nat} {vs : List Value} (h : Sol w E s g n c vs) (o : Obj) : Sol (w.alloc o) E s g n c vs := Own.alloc h o
theorem Sol.row {w : World} {E s g n c : Nat} {vs : List Value} (h : Sol w E s g n c vs) : Row w s (some ⟨g, 0, none⟩) n vs := Own.row h

theorem wpList_sol {P : Program} {w : World} {ops : Array Oper} {rest : List Oper} {o : Oper} {a : Act} {Q : Exit → Act → World → Prop} (hgd : o.guard = none) (x y : Operand) (t : TypeId)
    (ho : o.op = .call { callee := .builtin .append, args := #[x, y], argTypes := #[t, t] })
    {E : TypeId} {z : Value} {s bytes : Nat} (ht : P.underlying t = some (.slice E)) (hinfo : (P.info? E).map (fun i => (i.zero, i.size, i.bytes)) = some (some z, s, bytes)) (hzs : z.cells.size = s) (hsz : 0 < s)
    {g n c : Nat} {vs : List Value} (hx : a.eval x = .slice (some ⟨g, 0, none⟩) n c) (hown : Sol w E s g n c vs)
    {A' : Option Addr} {m c' : Nat} {news : List Value} (hy : a.eval y = .slice A' m c') (hrow : Row w s A' m news) (h1 : ∀ u ∈ news, u.oneCell' = true) (hm : 0 < m)
    (hlen : n + m ≤ maxLen) (hbytes : (n + m) * bytes ≤ 140737488355328)
    (h : ∀ g2 c2 w', Sol w' E s g2 (n + m) c2 (vs ++ news) → w.grownBy w' (some g) → (g2 = g ∨ g2 = w.heap.size) → wpList P ops Q rest (a.put o.dst (.slice (some ⟨g2, 0, none⟩) (n + m) c2)) w') : wpList P ops Q (o :: rest) a w := by
  obtain ⟨i0, hi0, hz0, hz1, hz2⟩ := info_parts hinfo
  obtain ⟨b, off, rfl, hc⟩ := hrow.2 hm
  refine wpList_append_lies w hgd x y t ho g E i0 z s bytes ht hi0 hz0 hz1 hz2 hzs hsz _ n vs hx hown.1 ⟨b, off, none⟩ m c' news hy hrow.1 (fun j u hu => ?_) h1 hm hlen hbytes (Nat.le_of_lt (Sol.lt hown)) _ rfl ?_
  · have := hc j u hu
    unfold Addr.add
    split
    · subst j; exact this
    · exact this
  · intro g2 c2 w' hown' hg hor hlt
    refine h g2 c2 w' (Own.sol (lo := g) (hi := w'.heap.size) ⟨hown', fun g' hg' => by simp [Value.ownBlock] at hg'; omega⟩) (by simpa [Value.ownBlock] using hg) ?_
    rcases hor with hor | hor
    · left; simp [Value.ownBlock] at hor; omega
    · exact .inr hor
end Go.Proofs.YtaimckepaldocaaGreatDoor
