/- What is read from bits that are long enough, by the program. -/
import Derived.Test.YtmljcbfpennjkaaChunk
import Derived.Test.YtmljcbfpennjkaaReadA
import Derived.Test.YtmljcbfpennjkaaFrameC
import Derived.Deep.Cut
namespace Go.Proofs.Ytmljcbfpennjkaa
open Go.RowKit Go.Shelf
set_option maxRecDepth 100000
set_option linter.unusedVariables false
set_option linter.unusedSimpArgs false

attribute [local go_sem] Oper.semAt_some

/-- 'append' of a row of the loop's own, as an operation of a drawn region inside a fence. -/
theorem stepIn_own {F : Fence} {n : Nat} {P : Program} {X : Prop} (w : World) {ops : Array Oper} {o : Oper} {a : Act} {K : Act → World → Prop} {Q : Exit → Act → World → Prop}
    (hg : o.guard = none) (s x : Operand) (t : TypeId) (hop : o.op = Op.call { callee := Callee.builtin Builtin.append, args := #[s, x], argTypes := #[t, t] })
    (base : Nat) (e : TypeId) (i : TypeInfo) (z : Value) (size bytes : Nat) (h1 : P.underlying t = some (.slice e)) (h2 : P.info? e = some i) (h3 : i.zero = some z) (h4 : i.size = size) (h5 : i.bytes = bytes) (h6 : z.cells.size = size) (h7 : 0 < size)
    (v : Value) (k : Nat) (xs : List Value) (hs : a.eval s = v) (hown : w.ownsRow base e size v k xs) (ad : Addr) (m c : Nat) (news : List Value) (hx : a.eval x = .slice (some ad) m c) (hn : news.length = m * size)
    (hc : ∀ j u, news[j]? = some u → w.cell? (ad.add j) = some u) (h1c : ∀ u ∈ news, u.oneCell' = true) (b1 : k + m ≤ maxLen) (b2 : (k + m) * bytes ≤ 140737488355328) (b3 : base ≤ w.heap.size)
    (hK : ∀ v' w', w'.ownsRow base e size v' (k + m) (xs ++ news) → w.grownBy w' v.ownBlock → (v' = .slice none 0 0 ↔ v = .slice none 0 0 ∧ m = 0) → K (a.put o.dst v') w') :
    if Region.wanted o (yielded ops a.tmps) = true then Oper.wpIn F n P o a w K Q else X := by
  have hw : Region.wanted o (yielded ops a.tmps) = true := by simp [Region.wanted, hg]
  rw [if_pos hw]
  obtain ⟨v', w', hrun, r1, r2, r3⟩ := run_append_own (P := P) w base t o.type e i z size bytes h1 h2 h3 h4 h5 h6 h7 v k xs hown ad m c news hn hc h1c b1 b2 b3
  unfold Oper.wpIn
  refine ⟨?_, ?_⟩
  · simp [Oper.about, hop, resolve, Target.leads, Sem.run_pure]
  · rw [Oper.semAt_plain F _ _ (by rw [hop]; intro c hc'; cases hc')]
    simp [execOp, hop, resolve, invoke, builtin, hs, hx, hrun, Result.andThen]
    exact hK v' w' r1 r2 r3

theorem midL_len {xs : List Int} {n : Nat} (hl : xs.length = n) (h : 16 ≤ n) : (midL xs).length = n - 16 := by
  simp only [midL, List.length_take, List.length_drop, hl]; omega
theorem mid_ok {xs : List Int} (h : listOk 1200 0 1 xs = true) : listOk 1200 0 1 (midL xs) = true := by
  have hle := listOk_le h rfl
  simp only [listOk, Bool.and_eq_true, decide_eq_true_eq, List.all_eq_true] at h ⊢
  refine ⟨fun x hx => h.1 x (List.mem_of_mem_drop (List.mem_of_mem_take hx)), ?_⟩
  have : (midL xs).length ≤ xs.length := by simp only [midL, List.length_take, List.length_drop]; omega
  omega
theorem small_listOk {most : Int} {xs : List Int} (h : listOk most 0 1 xs = true) : Small01 xs := listOk_mem h
theorem unstL_small : ∀ (o : Nat) (xs ys : List Int), Small01 xs → unstL o xs = some ys → Small01 ys
  | o, [], ys, _, h => by
    rw [unstL] at h
    split at h
    · injection h with h; subst h; intro x hx; cases hx
    · cases h
  | o, b :: t, ys, hs, h => by
    rw [unstL] at h
    have ht : Small01 t := fun x hx => hs x (List.mem_cons_of_mem _ hx)
    split at h
    · split at h
      · cases h
      · exact unstL_small 0 t ys ht h
    · cases hu : unstL (ons o b) t with
      | none => rw [hu] at h; cases h
      | some zs =>
        rw [hu] at h
        injection h with h
        subst h
        intro x hx
        rcases List.mem_cons.1 hx with rfl | hx
        · exact hs x (by simp)
        · exact unstL_small _ t zs ht hu x hx
theorem innerL_some {inner bs : List Int} {m : Nat} (hl : inner.length = m) (h : innerL inner = some bs) : m = m / 8 * 8 ∧ 32 ≤ m ∧ bs = unbits (m / 8) inner := by
  subst hl
  unfold innerL at h
  split at h
  · rename_i hc
    injection h with h
    exact ⟨by omega, hc.2, h.symm⟩
  · cases h
theorem innerL_none {inner : List Int} {m : Nat} (hl : inner.length = m) (h : innerL inner = none) : m % 8 ≠ 0 ∨ m < 32 := by
  subst hl
  unfold innerL at h
  split at h
  · cases h
  · rename_i hc; omega
/-- The bytes of the pieces. -/
def pieceL (inner : List Int) (j : Nat) : List Int := (inner.drop (j * 8)).take 8
def bytesOf {q : Nat} (inner : List Int) (pre : List (Fin q)) : List Int := pre.map fun x => numL (pieceL inner x.1)
theorem bytesOf_snoc {q : Nat} (inner : List Int) (pre : List (Fin q)) (x : Fin q) : bytesOf inner (pre ++ [x]) = bytesOf inner pre ++ [numL (pieceL inner x.1)] := by simp [bytesOf]
theorem unbits_map (inner : List Int) : ∀ n, unbits n inner = (List.range n).map fun j => numL (pieceL inner j)
  | 0 => rfl
  | n + 1 => by rw [unbits_succ, unbits_map inner n, List.range_succ, List.map_append]; rfl
theorem bytesOf_all {q : Nat} (inner : List Int) : bytesOf inner (List.finRange q) = unbits q inner := by
  rw [unbits_map, bytesOf]
  apply List.ext_getElem
  · simp
  · intro i h1 h2
    simp
end Go.Proofs.Ytmljcbfpennjkaa
