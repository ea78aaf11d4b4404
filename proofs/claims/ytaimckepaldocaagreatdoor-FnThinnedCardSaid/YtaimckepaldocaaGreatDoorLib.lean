/- Go's small library functions on slices of integers: Clone, Equal; the length of a list; append of a row that may be empty. -/
import Derived.Test.YtaimckepaldocaaGreatDoorInt
import Derived.Laws.AppendOwnNone
import Derived.Lib.SliceRun
import Derived.Lib.Walk
namespace Go.Proofs.YtaimckepaldocaaGreatDoor
open Go.RowKit
set_option maxRecDepth 100000
set_option linter.unusedVariables false

section
variable {P : Program} (w : World)

theorem run_append_none' (base : Nat) (t ty e : TypeId) (i : TypeInfo) (size : Nat) (ht : P.underlying t = some (.slice e)) (hi : P.info? e = some i)
    (v : Value) (n c' : Nat) (xs : List Value) (hown : w.ownsRow base e size v n xs) :
    (Builtin.append_ #[t, t] ty #[v, .slice none 0 c']).run P w = .ok v w := by
  rcases hown.2 with ⟨rfl, rfl⟩ | ⟨g, cap, cur, rfl, _, _, hnc, _⟩
  · simp [Builtin.append_, run_underlying ht, sizeOf, typeInfo, hi, Builtin.lenOf, Builtin.firstCells]
  · simp [Builtin.append_, run_underlying ht, sizeOf, typeInfo, hi, Builtin.lenOf, Builtin.firstCells, hnc, storeCells]

theorem wp_app0 {o : Oper} {a : Act} {K : Act → World → Prop} {Q : Exit → Act → World → Prop} (x y : Operand) (t : TypeId)
    (ho : o.op = .call { callee := .builtin .append, args := #[x, y], argTypes := #[t, t] })
    {E : TypeId} {z : Value} {s bytes : Nat} (ht : P.underlying t = some (.slice E)) (hinfo : (P.info? E).map (fun i => (i.zero, i.size, i.bytes)) = some (some z, s, bytes)) (hzs : z.cells.size = s) (hsz : 0 < s)
    {lo hi : Nat} {A : Option Addr} {n c : Nat} {vs : List Value} (hx : a.eval x = .slice A n c) (hown : Own w lo hi E s A n c vs) (hhi : hi ≤ w.heap.size)
    {A' : Option Addr} {m c' : Nat} {news : List Value} (hy : a.eval y = .slice A' m c') (hrow : Row w s A' m news) (h1 : ∀ u ∈ news, u.oneCell' = true)
    (hlen : n + m ≤ maxLen) (hbytes : (n + m) * bytes ≤ 140737488355328) (hlo : lo ≤ w.heap.size)
    (h : ∀ A2 c2 w', Own w' lo w'.heap.size E s A2 (n + m) c2 (vs ++ news) → Below lo w w' → w.grownBy w' (Value.slice A n c).ownBlock → K (a.put o.dst (.slice A2 (n + m) c2)) w') : o.wp P a w K Q := by
  rcases Nat.eq_zero_or_pos m with rfl | hm
  · have hnews : news = [] := List.eq_nil_of_length_eq_zero (by simpa using hrow.1)
    subst hnews
    obtain ⟨i0, hi0, hz0, hz1, hz2⟩ := info_parts hinfo
    cases A' with
    | none =>
      have hrun := run_append_none' (P := P) (w := w) lo t o.type E i0 s ht hi0 _ n c' vs hown.1
      unfold Oper.wp
      simp [execOp, ho, resolve, invoke, builtin, hx, hy, hrun, Result.andThen]
      exact h _ _ w (by simpa using hown.mono (Nat.le_refl _) hhi) (Below.refl _ _) (World.grownBy.refl _ _)
    | some ad =>
      refine wp_append_own w x y t ho lo E i0 z s bytes ht hi0 hz0 hz1 hz2 hzs hsz _ n vs hx hown.1 ad 0 c' [] hy (by simp) (by simp) (by simp) hlen hbytes hlo ?_
      intro v' w' hown' hg _
      have hb : Below lo w w' := (Below.refl _ _).grown hg hlo (fun k hk => (hown.1.lt k hk).1)
      rcases hown'.2 with ⟨rfl, h0⟩ | ⟨g, cap, cur, rfl, hbg, hgg, _⟩
      · have : n = 0 := by omega
        subst this
        have hv : vs = [] := List.eq_nil_of_length_eq_zero (by simpa using hown.1.1)
        subst hv
        exact h none 0 w' (by simpa using Own.nil_ _ _ _ _ _) hb hg
      · exact h _ _ w' ⟨hown', fun g' hg' => by
          simp [Value.ownBlock] at hg'
          subst hg'
          exact (Array.getElem?_eq_some_iff.1 hgg).1⟩ hb hg
  · exact wp_app w x y t ho ht hinfo hzs hsz hx hown hy hrow h1 hm hlen hbytes hlo h

theorem wpList_app0 {ops : Array Oper} {rest : List Oper} {o : Oper} {a : Act} {Q : Exit → Act → World → Prop} (hgd : o.guard = none) (x y : Operand) (t : TypeId)
    (ho : o.op = .call { callee := .builtin .append, args := #[x, y], argTypes := #[t, t] })
    {E : TypeId} {z : Value} {s bytes : Nat} (ht : P.underlying t = some (.slice E)) (hinfo : (P.info? E).map (fun i => (i.zero, i.size, i.bytes)) = some (some z, s, bytes)) (hzs : z.cells.size = s) (hsz : 0 < s)
    {lo hi : Nat} {A : Option Addr} {n c : Nat} {vs : List Value} (hx : a.eval x = .slice A n c) (hown : Own w lo hi E s A n c vs) (hhi : hi ≤ w.heap.size)
    {A' : Option Addr} {m c' : Nat} {news : List Value} (hy : a.eval y = .slice A' m c') (hrow : Row w s A' m news) (h1 : ∀ u ∈ news, u.oneCell' = true)
    (hlen : n + m ≤ maxLen) (hbytes : (n + m) * bytes ≤ 140737488355328) (hlo : lo ≤ w.heap.size)
    (h : ∀ A2 c2 w', Own w' lo w'.heap.size E s A2 (n + m) c2 (vs ++ news) → Below lo w w' → w.grownBy w' (Value.slice A n c).ownBlock → wpList P ops Q rest (a.put o.dst (.slice A2 (n + m) c2)) w') : wpList P ops Q (o :: rest) a w :=
  wpList_plain hgd fun _ hK => wp_app0 w x y t ho ht hinfo hzs hsz hx hown hhi hy hrow h1 hlen hbytes hlo fun A2 c2 w' h2 h3 h4 => hK _ _ (h A2 c2 w' h2 h3 h4)
end

theorem Own.lit1 (w : World) (x : Int) (E : TypeId) : Own (w.alloc (.cells #[.int .i64 x] E)) w.heap.size (w.alloc (.cells #[.int .i64 x] E)).heap.size E 1 (some ⟨w.heap.size, 0, none⟩) 1 1 (ints [x]) := by
  refine ⟨?_, fun g hg => by simp [Value.ownBlock] at hg; simp; omega⟩
  exact World.ownsRow_lit w #[.int .i64 x] 1 (Nat.le_refl _) (by simp [maxLen]) (by simp)

theorem Own.nilc {w : World} {lo hi E s n c : Nat} {a : Option Addr} {vs : List Value} (h : Own w lo hi E s a n c vs) (ha : a = none) : c = 0 := by
  subst ha
  rcases h.1.2 with ⟨hv, _⟩ | ⟨g, cap, cur, hv, _⟩
  · injection hv
  · simp at hv

theorem Row.get_ {w : World} {b off n k : Nat} {xs : List Int} {x : Int} (h : Row w 1 (some ⟨b, off, none⟩) n (ints xs)) (hx : xs[k]? = some x) : w.cell? ⟨b, off + k, none⟩ = some (.int .i64 x) := by
  have hn : 0 < n := by have := h.len; have := (List.getElem?_eq_some_iff.1 hx).1; omega
  obtain ⟨b', off', e, hc⟩ := h.2 hn
  injection e with e
  injection e with e1 e2 _
  subst e1; subst e2
  exact hc k _ (ints_get hx)

theorem Row.get2_ {w : World} {b off n k : Nat} {ss : List (Int × Int)} {x y : Int} (h : Row w 2 (some ⟨b, off, none⟩) n (prs ss)) (hx : ss[k]? = some (x, y)) : w.cell? ⟨b, off + k * 2, none⟩ = some (.int .i64 x) ∧ w.cell? ⟨b, off + k * 2 + 1, none⟩ = some (.int .i64 y) := by
  have hn : 0 < n := by have := h.len2; have := (List.getElem?_eq_some_iff.1 hx).1; omega
  obtain ⟨b', off', e, hc⟩ := h.2 hn
  injection e with e
  injection e with e1 e2 _
  subst e1; subst e2
  have g := prs_get hx
  exact ⟨hc _ _ g.1, by rw [Nat.add_assoc]; exact hc _ _ g.2⟩

theorem Own.leave {w : World} {lo hi E s n c : Nat} {a : Option Addr} {vs : List Value} (h : Own w lo hi E s a n c vs) : Own w lo w.heap.size E s a n c vs :=
  ⟨h.1, fun g hg => (h.1.lt g hg).2⟩