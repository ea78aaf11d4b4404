/- Words for memory: a slice that reads as a list of values; a slice of the call's own. Plain lemmas, no program in sight. -/
import Derived.WalkKit
import Derived.Lib.Hide
import Derived.Laws.OwnMore
import Derived.Deep.AppendLies
import Derived.Deep.Draws
import Derived.Laws.Rows
import Derived.Maps.AppendAt
import Derived.OwnWalk
import Derived.Deep.RegionHeld3
namespace Go.Proofs.YtaimckepaldocaaGreatDoor
open Go.RowKit
set_option maxRecDepth 100000
set_option linter.unusedVariables false

/-! ### lists -/
theorem take_snoc {α : Type} {l : List α} {k : Nat} {x : α} (h : l[k]? = some x) : l.take (k + 1) = l.take k ++ [x] := by
  rw [List.take_add_one, h]; rfl
theorem drop_at {α : Type} {xs : List α} {k : Nat} {x : α} (h : xs[k]? = some x) : xs.drop k = x :: xs.drop (k + 1) := by
  obtain ⟨hk, rfl⟩ := List.getElem?_eq_some_iff.1 h
  exact List.drop_eq_getElem_cons hk
theorem all_snoc {α : Type} {l : List α} {p : α → Bool} {k : Nat} {x : α} (h : l[k]? = some x) (ha : (l.take k).all p = true) (hp : p x = true) : (l.take (k + 1)).all p = true := by
  rw [take_snoc h, List.all_append, ha]; simp [hp]
theorem all_false {α : Type} {l : List α} {p : α → Bool} {k : Nat} {x : α} (h : l[k]? = some x) (hp : p x = false) : l.all p = false := by
  rw [List.all_eq_false]; exact ⟨x, List.mem_of_getElem? h, by simp [hp]⟩
theorem all_done {α : Type} {l : List α} {p : α → Bool} {k n : Nat} (hl : l.length = n) (hk : k ≤ n) (hlt : ¬ k < n) (ha : (l.take k).all p = true) : l.all p = true := by
  rwa [List.take_of_length_le (by omega)] at ha
theorem take_done {α : Type} {l : List α} {k n : Nat} (hl : l.length = n) (hk : k ≤ n) (hlt : ¬ k < n) : l.take k = l := List.take_of_length_le (by omega)

theorem bdn {B : Nat} {a w : World} (h : Below B a w) (n : Nat) : Below B a (w.drewN n) := ⟨h.os, h.tape, h.output, h.size, h.block⟩

/-- What 'sz' returns: what is left, or -1. -/
def szOf (l : Int) (n : Nat) : Int := if l - n < 0 then -1 else l - n
theorem szOf_neg {l : Int} {n : Nat} (h : l - n < 0) : szOf l n = -1 := by simp [szOf, h]
theorem szOf_pos {l : Int} {n : Nat} (h : ¬ l - n < 0) : szOf l n = l - n := by simp [szOf, h]

/-- Integers, and pairs and fours of integers, as the cells that hold them. -/
def ints (xs : List Int) : List Value := xs.map (Value.int .i64)
def prs (ss : List (Int × Int)) : List Value := ss.flatMap fun s => [.int .i64 s.1, .int .i64 s.2]
theorem ints_length (xs : List Int) : (ints xs).length = xs.length := by simp [ints]
theorem ints_get {xs : List Int} {k : Nat} {x : Int} (h : xs[k]? = some x) : (ints xs)[k]? = some (.int .i64 x) := by simp [ints, h]
theorem ints_app (xs ys : List Int) : ints (xs ++ ys) = ints xs ++ ints ys := by simp [ints]
theorem ints_one (xs : List Int) : ∀ u ∈ ints xs, u.oneCell' = true := by
  intro u hu; simp [ints] at hu; obtain ⟨a, _, rfl⟩ := hu; rfl
theorem prs_length (ss : List (Int × Int)) : (prs ss).length = ss.length * 2 := by
  induction ss with
  | nil => rfl
  | cons a t ih => simp only [prs, List.flatMap_cons, List.length_append, List.length_cons, List.length_nil] at ih ⊢; omega
theorem prs_app (xs ys : List (Int × Int)) : prs (xs ++ ys) = prs xs ++ prs ys := by simp [prs]
theorem prs_one (xs : List (Int × Int)) : ∀ u ∈ prs xs, u.oneCell' = true := by
  intro u hu; simp [prs] at hu; obtain ⟨a, b, _, h | h⟩ := hu <;> (subst h; rfl)
theorem prs_get {ss : List (Int × Int)} {k : Nat} {s : Int × Int} (h : ss[k]? = some s) : (prs ss)[k * 2]? = some (.int .i64 s.1) ∧ (prs ss)[k * 2 + 1]? = some (.int .i64 s.2) := by
  induction ss generalizing k with
  | nil => simp at h
  | cons a t ih =>
    cases k with
    | zero => simp at h; subst h; simp [prs]
    | succ k =>
      simp at h
      have := ih h
      simp only [prs, List.flatMap_cons, List.cons_append, List.nil_append] at this ⊢
      rw [show (k + 1) * 2 = k * 2 + 1 + 1 from by omega]
      simpa using this

/-! ### a slice that reads as a list of cells; 's' cells an element -/
def Row (w : World) (s : Nat) (a : Option Addr) (n : Nat) (vs : List Value) : Prop :=
  vs.length = n * s ∧ (0 < n → ∃ b off, a = some ⟨b, off, none⟩ ∧ ∀ j u, vs[j]? = some u → w.cell? ⟨b, off + j, none⟩ = some u)

section
variable {w w' : World} {s n : Nat} {a : Option Addr} {vs : List Value} {xs : List Int} {ss : List (Int × Int)}

theorem Row.nil_ : Row w s a 0 [] := ⟨by simp, fun h => absurd h (by omega)⟩
theorem Row.len (h : Row w 1 a n (ints xs)) : xs.length = n := by have := h.1; simpa [ints] using this
theorem Row.len2 (h : Row w 2 a n (prs ss)) : ss.length = n := by have := h.1; rw [prs_length] at this; omega
theorem Row.at_ {k : Nat} (h : Row w 1 a n (ints xs)) (hk : k < n) :
    ∃ b off x, a = some ⟨b, off, none⟩ ∧ w.cell? ⟨b, off + k, none⟩ = some (.int .i64 x) ∧ Hid (xs[k]? = some x) := by
  have hl := h.len
  obtain ⟨b, off, e, hc⟩ := h.2 (by omega)
  have hx : xs[k]? = some xs[k] := List.getElem?_eq_getElem (by omega)
  exact ⟨b, off, xs[k], e, hc k _ (ints_get hx), hx⟩
theorem Row.at2 {k : Nat} (h : Row w 2 a n (prs ss)) (hk : k < n) :
    ∃ b off x y, a = some ⟨b, off, none⟩ ∧ w.cell? ⟨b, off + k * 2, none⟩ = some (.int .i64 x) ∧ w.cell? ⟨b, off + k * 2 + 1, none⟩ = some (.int .i64 y) ∧ Hid (ss[k]? = some (x, y)) := by
  have hl := h.len2
  obtain ⟨b, off, e, hc⟩ := h.2 (by omega)
  have hx : ss[k]? = some ss[k] := List.getElem?_eq_getElem (by omega)
  have g := prs_get hx
  exact ⟨b, off, ss[k].1, ss[k].2, e, hc _ _ g.1, by rw [Nat.add_assoc]; exact hc _ _ g.2, hx⟩
theorem Row.keep (h : Row w s a n vs) (hk : ∀ b off, a = some ⟨b, off, none⟩ → b < w.heap.size → w'.heap[b]? = w.heap[b]?) (hs : 0 < s) : Row w' s a n vs :=
  ⟨h.1, fun hn => by
    obtain ⟨b, off, e, hc⟩ := h.2 hn
    have h0 : 0 < vs.length := by rw [h.1]; exact Nat.mul_pos hn hs
    have hb : b < w.heap.size := World.block_lt_of_cell? w _ (hc 0 vs[0] (List.getElem?_eq_getElem h0))
    exact ⟨b, off, e, fun j u hu => (World.cell?_of_block (hk b off e hb)).trans (hc j u hu)⟩⟩
theorem Row.below (h : Row w 1 a n vs) {B : Nat} (hb : Below B w w') (hB : w.heap.size ≤ B) : Row w' 1 a n vs := h.keep (fun b _ _ hl => hb.block b (by omega)) (by omega)
theorem Row.below2 (h : Row w 2 a n vs) {B : Nat} (hb : Below B w w') (hB : w.heap.size ≤ B) : Row w' 2 a n vs := h.keep (fun b _ _ hl => hb.block b (by omega)) (by omega)
theorem Row.drewN (h : Row w s a n vs) (k : Nat) : Row (w.drewN k) s a n vs := h
theorem Row.drew (h : Row w s a n vs) : Row w.drew s a n vs := h
theorem Row.alloc (h : Row w 1 a n vs) (o : Obj) : Row (w.alloc o) 1 a n vs := h.below ((Below.refl _ _).alloc (Nat.le_refl _) o) (Nat.le_refl _)
theorem Row.alloc2 (h : Row w 2 a n vs) (o : Obj) : Row (w.alloc o) 2 a n vs := h.below2 ((Below.refl _ _).alloc (Nat.le_refl _) o) (Nat.le_refl _)

theorem Row.one (w : World) (v : Value) (E : TypeId) : Row (w.alloc (.cells #[v] E)) 1 (some ⟨w.heap.size, 0, none⟩) 1 [v] := by
  refine ⟨rfl, fun _ => ⟨_, _, rfl, fun j u hu => ?_⟩⟩
  rw [Nat.zero_add, World.cell?_alloc_at _ _ _ _ rfl]
  cases j with
  | zero => simpa using hu
  | succ j => simp at hu

theorem Row.one' (w : World) (v : Value) (E b : Nat) (hb : b = w.heap.size) : Row (w.alloc (.cells #[v] E)) 1 (some ⟨b, 0, none⟩) 1 [v] := by
  subst hb; exact Row.one w v E

theorem Row.lit (w : World) (cs : List Value) (E b n : Nat) (hb : b = w.heap.size) (hn : cs.length = n) : Row (w.alloc (.cells cs.toArray E)) 1 (some ⟨b, 0, none⟩) n cs := by
  refine ⟨by omega, fun _ => ⟨_, _, rfl, fun j u hu => ?_⟩⟩
  rw [Nat.zero_add, World.cell?_alloc_at _ _ _ _ hb]
  simpa using hu

theorem Row.litK (w : World) (cs : List Value) (E b n s : Nat) (hb : b = w.heap.size) (hn : cs.length = n * s) : Row (w.alloc (.cells cs.toArray E)) s (some ⟨b, 0, none⟩) n cs := by
  refine ⟨by omega, fun _ => ⟨_, _, rfl, fun j u hu => ?_⟩⟩
  rw [Nat.zero_add, World.cell?_alloc_at _ _ _ _ hb]
  simpa using hu

/-- A slice with these cells at the end 'k' cut off in front: 's[k:..]', whatever its address where nothing is left. -/
theorem Row.sub (h : Row w 1 a n vs) {i m : Nat} (him : i + m ≤ n) (a' : Option Addr) (ha : 0 < m → ∀ b off, a = some ⟨b, off, none⟩ → a' = some ⟨b, off + i, none⟩) : Row w 1 a' m ((vs.drop i).take m) := by
  have h1 := h.1
  refine ⟨by simp; omega, fun hm => ?_⟩
  obtain ⟨b, off, e, hc⟩ := h.2 (by omega)
  refine ⟨b, off + i, ha hm b off e, fun j u hu => ?_⟩
  rw [List.getElem?_take] at hu
  split at hu
  · rw [List.getElem?_drop] at hu
    rw [Nat.add_assoc]; exact hc _ _ hu
  · cases hu
end

/-- An int64. -/
def I64 (x : Int) : Prop := -9223372036854775808 ≤ x ∧ x ≤ 9223372036854775807
def Arr (w : World) (a : Option Addr) (n : Nat) (xs : List Int) : Prop := Row w 1 a n (ints xs) ∧ n ≤ maxLen ∧ ∀ x ∈ xs, I64 x
def Arr2 (w : World) (a : Option Addr) (n : Nat) (ss : List (Int × Int)) : Prop := Row w 2 a n (prs ss) ∧ n ≤ maxLen ∧ ∀ s ∈ ss, I64 s.1 ∧ I64 s.2

/-! ### a slice of the call's own: its block lies from 'lo' on and below 'hi' -/
def Own (w : World) (lo hi : Nat) (E : TypeId) (s : Nat) (a : Option Addr) (n c : Nat) (vs : List Value) : Prop :=
  w.ownsRow lo E s (.slice a n c) n vs ∧ ∀ g, (Value.slice a n c).ownBlock = some g → g < hi

section
variable {w w' : World} {lo hi lo' hi' E s n c : Nat} {a : Option Addr} {vs : List Value}

theorem Own.row (h : Own w lo hi E s a n c vs) : Row w s a n vs := by
  refine ⟨h.1.1, fun hn => ?_⟩
  rcases h.1.2 with ⟨hv, h0⟩ | ⟨g, cap, cur, hv, hb, hg, hnc, hcm, hcs, htake⟩
  · omega
  · injection hv with ha
    subst ha
    refine ⟨g, 0, rfl, fun j u hu => ?_⟩
    rw [cell_of_row w g _ cur E (0, 0) hg]
    rw [← htake, List.getElem?_take] at hu
    split at hu
    · simpa using hu
    · cases hu
theorem Own.nil_ (w : World) (lo hi E s : Nat) : Own w lo hi E s none 0 0 [] := ⟨World.ownsRow_nil _ _ _ _, by simp [Value.ownBlock]⟩
theorem Own.made (w : World) (z : Value) {n E : Nat} (hn : n ≤ maxLen) : Own (w.alloc (.cells (madeCells #[z] n) E)) w.heap.size (w.heap.size + 1) E 1 (some ⟨w.heap.size, 0, none⟩) n n (List.replicate n z) := by
  refine ⟨?_, fun g hg => by simp [Value.ownBlock] at hg; omega⟩
  rw [← toList_madeCells_one]
  exact World.ownsRow_lit w _ n (Nat.le_refl _) hn (by simp [size_madeCells])
theorem Own.len (h : Own w lo hi E s a n c vs) : vs.length = n * s := h.1.1
theorem Own.lt (h : Own w lo hi E s a n c vs) : ∀ g, (Value.slice a n c).ownBlock = some g → lo ≤ g ∧ g < hi ∧ g < w.heap.size := fun g hg => ⟨(h.1.lt g hg).1, h.2 g hg, (h.1.lt g hg).2⟩
theorem Own.keep (h : Own w lo hi E s a n c vs) (hk : ∀ b, lo ≤ b → b < hi → b < w.heap.size → w'.heap[b]? = w.heap[b]?) : Own w' lo hi E s a n c vs := by
  refine ⟨⟨h.1.1, ?_⟩, h.2⟩
  rcases h.1.2 with hn | ⟨g, cap, cur, hv, hb, hg, rest⟩
  · exact .inl hn
  · refine .inr ⟨g, cap, cur, hv, hb, ?_, rest⟩
    rw [hk g hb (h.2 g (by rw [hv]; rfl)) (Array.getElem?_eq_some_iff.1 hg).1]
    exact hg
theorem Own.below (h : Own w lo hi E s a n c vs) {B : Nat} (hb : Below B w w') (hB : hi ≤ B ∨ w.heap.size ≤ B) : Own w' lo hi E s a n c vs := h.keep fun b _ _ _ => hb.block b (by omega)
theorem Own.drew (h : Own w lo hi E s a n c vs) : Own w.drew lo hi E s a n c vs := h
theorem Own.drewN (h : Own w lo hi E s a n c vs) (k : Nat) : Own (w.drewN k) lo hi E s a n c vs := h
theorem Own.alloc (h : Own w lo hi E s a n c vs) (o : Obj) : Own (w.alloc o) lo hi E s a n c vs := h.below ((Below.refl _ _).alloc (Nat.le_refl _) o) (.inr (Nat.le_refl _))
theorem Own.setFar (h : Own w lo hi E s a n c vs) {p : Addr} (hp : p.block < lo ∨ hi ≤ p.block) (u : Value) : Own (w.setCell p u) lo hi E s a n c vs := h.keep fun b _ _ _ => Below.heap_setCell w p u b (by omega)
theorem Own.mono (h : Own w lo hi E s a n c vs) (h1 : lo' ≤ lo) (h2 : hi ≤ hi') : Own w lo' hi' E s a n c vs := by
  refine ⟨⟨h.1.1, ?_⟩, fun g hg => by have := h.2 g hg; omega⟩
  rcases h.1.2 with hn | ⟨g, cap, cur, hv, hb, rest⟩
  · exact .inl hn
  · exact .inr ⟨g, cap, cur, hv, by omega, rest⟩
/-- Writes to other rows: 'grownBy' a row outside of [lo, hi). -/
theorem Own.apart (h : Own w lo hi E s a n c vs) {row : Option Nat} (hg : w.grownBy w' row) (hr : ∀ g, row = some g → g < lo ∨ hi ≤ g) : Own w' lo hi E s a n c vs :=
  h.keep fun b h1 h2 h3 => hg.block b h3 (fun e => by have := hr b e.symm; omega)
theorem Row.apart (h : Row w s a n vs) (hs : 0 < s) {row : Option Nat} (hg : w.grownBy w' row) (hr : ∀ b off, a = some ⟨b, off, none⟩ → row ≠ some b) : Row w' s a n vs :=
  h.keep (fun b off e hl => hg.block b hl (fun e' => hr b off e e'.symm)) hs
theorem Own.head (h : Own w lo hi E s a n c vs) (hn : 0 < n) : ∃ g, a = some ⟨g, 0, none⟩ ∧ lo ≤ g ∧ g < hi ∧ g < w.heap.size := by
  rcases h.1.2 with ⟨_, h0⟩ | ⟨g, cap, cur, hv, hb, hg, _⟩
  · omega
  · injection hv with ha
    subst ha
    exact ⟨g, rfl, hb, h.2 g rfl, (Array.getElem?_eq_some_iff.1 hg).1⟩
theorem Own.cellAt {g : Nat} (h : Own w lo hi E s (some ⟨g, 0, none⟩) n c vs) (j : Nat) (hj : j < n * s) : w.cell? ⟨g, j, none⟩ = vs[j]? := h.1.cellAt j hj
theorem Own.frozenAt {g : Nat} (h : Own w lo hi E s (some ⟨g, 0, none⟩) n c vs) (j : Nat) : w.frozen? ⟨g, j, none⟩ = false := h.1.frozenAt j
theorem Own.stored {g : Nat} (h : Own w lo hi E s (some ⟨g, 0, none⟩) n c vs) (j : Nat) (u : Value) :
    Own (w.setCell ⟨g, j, none⟩ u) lo hi E s (some ⟨g, 0, none⟩) n c (vs.set j u) ∧ w.grownBy (w.setCell ⟨g, j, none⟩ u) (some g) :=
  ⟨⟨(h.1.stored j u).1, h.2⟩, (h.1.stored j u).2⟩
end

theorem Own.lit0 (w : World) (E s : TypeId) : Own (w.alloc (.cells #[] E)) w.heap.size (w.heap.size + 1) E s (some ⟨w.heap.size, 0, none⟩) 0 0 [] := by
  refine ⟨?_, fun g hg => by simp [Value.ownBlock] at hg; omega⟩
  exact World.ownsRow_lit w #[] 0 (Nat.le_refl _) (by simp [maxLen]) (by simp)

/-- A call that leaves the world alone, inside a region that draws its order. -/
theorem quiet_eq {P : Program} {f : FuncId} {args : Array Value} {w : World} {n : Nat} {v : Value}
    (h : Calls P f args (w.drewN n) fun e w' => e = .returned v ∧ w.drewN n = w') : Calls P f args (w.drewN n) fun e w'' => e = .returned v ∧ ∃ m, w'' = w.drewN m :=
  h.mono fun _ _ ⟨he, hm⟩ => ⟨he, n, hm.symm⟩
theorem quiet_eq' {P : Program} {f : FuncId} {args : Array Value} {w : World} {a n : Nat} {v : Value}
    (h : Calls P f args (w.drewN (a + n)) fun e w' => e = .returned v ∧ w.drewN (a + n) = w') :
    Calls P f args (w.drewN (a + n)) fun e w'' => e = .returned v ∧ ∃ m, w'' = w.drewN (a + m) :=
  h.mono fun _ _ ⟨he, hm⟩ => ⟨he, n, hm.symm⟩

/-! ### a block that is known whole -/
def Blk (w : World) (g : Nat) (t : TypeId) (cs : Array Value) : Prop := w.heap[g]? = some (.cells cs t (0, 0))
section
variable {w w' : World} {g : Nat} {t : TypeId} {cs : Array Value}
theorem Blk.lt (h : Blk w g t cs) : g < w.heap.size := by
  rcases Nat.lt_or_ge g w.heap.size with hlt | hge
  · exact hlt
  · unfold Blk at h; rw [Array.getElem?_eq_none hge] at h; cases h
theorem Blk.cell (h : Blk w g t cs) (i : Nat) : w.cell? ⟨g, i, none⟩ = cs[i]? := cell_of_row w g i cs t (0, 0) h
theorem Blk.frozen (h : Blk w g t cs) (i : Nat) : w.frozen? ⟨g, i, none⟩ = false := by
  unfold Blk at h
  simp [World.frozen?, h]
theorem Blk.new (w : World) (t : TypeId) (cs : Array Value) : Blk (w.alloc (.cells cs t)) w.heap.size t cs := heap_alloc_new w _
theorem Blk.new' (w : World) (t : TypeId) (cs : Array Value) {g : Nat} (hg : g = w.heap.size) : Blk (w.alloc (.cells cs t)) g t cs := by subst hg; exact Blk.new w t cs
theorem Blk.drew (h : Blk w g t cs) : Blk w.drew g t cs := h
theorem Blk.drewN (h : Blk w g t cs) (n : Nat) : Blk (w.drewN n) g t cs := h
theorem Blk.alloc (h : Blk w g t cs) (o : Obj) : Blk (w.alloc o) g t cs := (Below.heap_alloc w o g h.lt).trans h
theorem Blk.set_ (h : Blk w g t cs) (i : Nat) (u : Value) : Blk (w.setCell ⟨g, i, none⟩ u) g t (cs.setIfInBounds i u) := by
  unfold Blk at h ⊢
  simp [World.setCell, Array.getElem?_modify, h]
theorem Blk.far (h : Blk w g t cs) {p : Addr} (hp : g ≠ p.block) (u : Value) : Blk (w.setCell p u) g t cs := (Below.heap_setCell w p u g hp).trans h
theorem Blk.below {B : Nat} (h : Blk w g t cs) (hb : Below B w w') (hg : g < B) : Blk w' g t cs := (hb.block g hg).trans h
theorem Blk.belowSelf (h : Blk w g t cs) (hb : Below w.heap.size w w') : Blk w' g t cs := h.below hb h.lt
theorem Blk.grown {row : Option Nat} (h : Blk w g t cs) (hb : w.grownBy w' row) (hg : some g ≠ row) : Blk w' g t cs := (hb.block g h.lt hg).trans h
end

/-- All old cells and marks read as before: two rules for the walk. -/
theorem bcell {W w1 : World} (hb : Below W.heap.size W w1) : (∀ b o, b < W.heap.size → w1.cell? ⟨b, o, none⟩ = W.cell? ⟨b, o, none⟩) ∧ (∀ b o, b < W.heap.size → w1.frozen? ⟨b, o, none⟩ = W.frozen? ⟨b, o, none⟩) :=
  ⟨fun b o h => hb.cell (p := ⟨b, o, none⟩) h, fun b o h => hb.frozen (p := ⟨b, o, none⟩) h⟩

/-! ### append, make on a slice of the call's own, as steps of the walk -/
section
variable {P : Program} (w : World)

theorem wp_app {o : Oper} {a : Act} {K : Act → World → Prop} {Q : Exit → Act → World → Prop} (x y : Operand) (t : TypeId)
    (ho : o.op = .call { callee := .builtin .append, args := #[x, y], argTypes := #[t, t] })
    {E : TypeId} {z : Value} {s bytes : Nat} (ht : P.underlying t = some (.slice E)) (hinfo : (P.info? E).map (fun i => (i.zero, i.size, i.bytes)) = some (some z, s, bytes)) (hzs : z.cells.size = s) (hsz : 0 < s)
    {lo hi : Nat} {A : Option Addr} {n c : Nat} {vs : List Value} (hx : a.eval x = .slice A n c) (hown : Own w lo hi E s A n c vs)
    {A' : Option Addr} {m c' : Nat} {news : List Value} (hy : a.eval y = .slice A' m c') (hrow : Row w s A' m news) (h1 : ∀ u ∈ news, u.oneCell' = true) (hm : 0 < m)
    (hlen : n + m ≤ maxLen) (hbytes : (n + m) * bytes ≤ 140737488355328) (hlo : lo ≤ w.heap.size)
    (h : ∀ A2 c2 w', Own w' lo w'.heap.size E s A2 (n + m) c2 (vs ++ news) → Below lo w w' → w.grownBy w' (Value.slice A n c).ownBlock → K (a.put o.dst (.slice A2 (n + m) c2)) w') : o.wp P a w K Q := by
  obtain ⟨i0, hi0, hz0, hz1, hz2⟩ := info_parts hinfo
  obtain ⟨b, off, rfl, hc⟩ := hrow.2 hm
  refine wp_append_own w x y t ho lo E i0 z s bytes ht hi0 hz0 hz1 hz2 hzs hsz _ n vs hx hown.1 ⟨b, off, none⟩ m c' news hy hrow.1 (fun j u hu => ?_) h1 hlen hbytes hlo ?_
  · have := hc j u hu
    unfold Addr.add
    split
    · subst j; exact this
    · exact this
  · intro v' w' hown' hg _
    have hb : Below lo w w' := (Below.refl _ _).grown hg hlo (fun k hk => (hown.1.lt k hk).1)
    rcases hown'.2 with ⟨rfl, h0⟩ | ⟨g, cap, cur, rfl, hbg, hgg, _⟩
    · omega
    · exact h _ _ w' ⟨hown', fun g' hg' => by
        simp [Value.ownBlock] at hg'
        subst hg'
        exact (Array.getElem?_eq_some_iff.1 hgg).1⟩ hb hg

theorem wpList_app {ops : Array Oper} {rest : List Oper} {o : Oper} {a : Act} {Q : Exit → Act → World → Prop} (hgd : o.guard = none) (x y : Operand) (t : TypeId)
    (ho : o.op = .call { callee := .builtin .append, args := #[x, y], argTypes := #[t, t] })
    {E : TypeId} {z : Value} {s bytes : Nat} (ht : P.underlying t = some (.slice E)) (hinfo : (P.info? E).map (fun i => (i.zero, i.size, i.bytes)) = some (some z, s, bytes)) (hzs : z.cells.size = s) (hsz : 0 < s)
    {lo hi : Nat} {A : Option Addr} {n c : Nat} {vs : List Value} (hx : a.eval x = .slice A n c) (hown : Own w lo hi E s A n c vs)
    {A' : Option Addr} {m c' : Nat} {news : List Value} (hy : a.eval y = .slice A' m c') (hrow : Row w s A' m news) (h1 : ∀ u ∈ news, u.oneCell' = true) (hm : 0 < m)
    (hlen : n + m ≤ maxLen) (hbytes : (n + m) * bytes ≤ 140737488355328) (hlo : lo ≤ w.heap.size)
    (h : ∀ A2 c2 w', Own w' lo w'.heap.size E s A2 (n + m) c2 (vs ++ news) → Below lo w w' → w.grownBy w' (Value.slice A n c).ownBlock → wpList P ops Q rest (a.put o.dst (.slice A2 (n + m) c2)) w') : wpList P ops Q (o :: rest) a w :=
  wpList_plain hgd fun _ hK => wp_app w x y t ho ht hinfo hzs hsz hx hown hy hrow h1 hm hlen hbytes hlo fun A2 c2 w' h2 h3 h4 => hK _ _ (h A2 c2 w' h2 h3 h4)

theorem step_app {ops : Array Oper} {o : Oper} {a : Act} {K : Act → World → Prop} {Q : Exit → Act → World → Prop} {F : Prop} (hgd : o.guard = none) (x y : Operand) (t : TypeId)
    (ho : o.op = .call { callee := .builtin .append, args := #[x, y], argTypes := #[t, t] })
    {E : TypeId} {z : Value} {s bytes : Nat} (ht : P.underlying t = some (.slice E)) (hinfo : (P.info? E).map (fun i => (i.zero, i.size, i.bytes)) = some (some z, s, bytes)) (hzs : z.cells.size = s) (hsz : 0 < s)
    {lo hi : Nat} {A : Option Addr} {n c : Nat} {vs : List Value} (hx : a.eval x = .slice A n c) (hown : Own w lo hi E s A n c vs)
    {A' : Option Addr} {m c' : Nat} {news : List Value} (hy : a.eval y = .slice A' m c') (hrow : Row w s A' m news) (h1 : ∀ u ∈ news, u.oneCell' = true) (hm : 0 < m)
    (hlen : n + m ≤ maxLen) (hbytes : (n + m) * bytes ≤ 140737488355328) (hlo : lo ≤ w.heap.size)
    (h : ∀ A2 c2 w', Own w' lo w'.heap.size E s A2 (n + m) c2 (vs ++ news) → Below lo w w' → w.grownBy w' (Value.slice A n c).ownBlock → K (a.put o.dst (.slice A2 (n + m) c2)) w') :
    if Region.wanted o (yielded ops a.tmps) = true then Oper.wp P o a w K Q else F := by
  have hw : Region.wanted o (yielded ops a.tmps) = true := by simp [Region.wanted, hgd]
  rw [if_pos hw]
  exact wp_app w x y t ho ht hinfo hzs hsz hx hown hy hrow h1 hm hlen hbytes hlo h
end
end Go.Proofs.YtaimckepaldocaaGreatDoor
