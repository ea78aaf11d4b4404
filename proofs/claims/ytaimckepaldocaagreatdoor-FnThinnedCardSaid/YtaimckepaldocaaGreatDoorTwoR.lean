/- Append at a step of a region that draws its order, telling where the list lies. -/
import Derived.Test.YtaimckepaldocaaGreatDoorTwo
namespace Go.Proofs.YtaimckepaldocaaGreatDoor
open Go.RowKit
set_option maxRecDepth 100000
set_option linter.unusedVariables false

theorem step_sol {P : Program} {w : World} {ops : Array Oper} {o : Oper} {a : Act} {K : Act → World → Prop} {Q : Exit → Act → World → Prop} {F : Prop} (hgd : o.guard = none) (x y : Operand) (t : TypeId)
    (ho : o.op = .call { callee := .builtin .append, args := #[x, y], argTypes := #[t, t] })
    {E : TypeId} {z : Value} {s bytes : Nat} (ht : P.underlying t = some (.slice E)) (hinfo : (P.info? E).map (fun i => (i.zero, i.size, i.bytes)) = some (some z, s, bytes)) (hzs : z.cells.size = s) (hsz : 0 < s)
    {g n c : Nat} {vs : List Value} (hx : a.eval x = .slice (some ⟨g, 0, none⟩) n c) (hown : Sol w E s g n c vs)
    {A' : Option Addr} {m c' : Nat} {news : List Value} (hy : a.eval y = .slice A' m c') (hrow : Row w s A' m news) (h1 : ∀ u ∈ news, u.oneCell' = true) (hm : 0 < m)
    (hlen : n + m ≤ maxLen) (hbytes : (n + m) * bytes ≤ 140737488355328)
    (h : ∀ g2 c2 w', Sol w' E s g2 (n + m) c2 (vs ++ news) → w.grownBy w' (some g) → (g2 = g ∨ g2 = w.heap.size) → K (a.put o.dst (.slice (some ⟨g2, 0, none⟩) (n + m) c2)) w') :
    if Region.wanted o (yielded ops a.tmps) = true then Oper.wp P o a w K Q else F := by
  obtain ⟨i0, hi0, hz0, hz1, hz2⟩ := info_parts hinfo
  obtain ⟨b, off, rfl, hc⟩ := hrow.2 hm
  refine step_append_lies w hgd x y t ho g E i0 z s bytes ht hi0 hz0 hz1 hz2 hzs hsz _ n vs hx hown.1 ⟨b, off, none⟩ m c' news hy hrow.1 (fun j u hu => ?_) h1 hm hlen hbytes (Nat.le_of_lt (Sol.lt hown)) _ rfl ?_
  · have := hc j u hu
    unfold Addr.add
    split
    · subst j; exact this
    · exact this
  · intro g2 c2 w' hown' hg hor hlt
    refine h g2 c2 w' (Own.sol (lo := g) (hi := w'.heap.size) ⟨hown', fun g' hg' => by simp [Value.ownBlock] at hg'; omega⟩) (by simpa [Value.ownBlock] using hg) ?_
    rcases hor with hor | hor
    · left; simp [Value.ownBlock] at hor; omega
    · exact .inr hor
end Go.Proofs.YtaimckepaldocaaGreatDoor
