/- Lists of frames: each with a slice of its own; the statements' helpers on them. -/
import Derived.Test.YtmljcbfpennjkaaReadF
namespace Go.Proofs.Ytmljcbfpennjkaa
open Go.RowKit Go.Shelf
set_option maxRecDepth 100000
set_option linter.unusedVariables false
set_option linter.unusedSimpArgs false

/-- A frame with the slice that holds its payload. -/
structure FrV where
  k : Int
  m : Int
  a : Option Addr
  n : Nat
  c : Nat
  xs : List Int
def FrV.val (f : FrV) : Fr := (f.k, f.m, f.xs)
def FrV.blk (f : FrV) : Option Nat := (Value.slice f.a f.n f.c).ownBlock
def frms (fs : List FrV) : List Value := fs.flatMap fun f => [.int .i64 f.k, .int .i64 f.m, .slice f.a f.n f.c]
theorem frms_length (fs : List FrV) : (frms fs).length = fs.length * 3 := by
  induction fs with
  | nil => rfl
  | cons a t ih => simp only [frms, List.flatMap_cons, List.length_append, List.length_cons, List.length_nil] at ih ⊢; omega
theorem frms_app (xs ys : List FrV) : frms (xs ++ ys) = frms xs ++ frms ys := by simp [frms]
theorem frms_one (xs : List FrV) : ∀ u ∈ frms xs, u.oneCell' = true := by
  intro u hu; simp [frms] at hu; obtain ⟨f, _, h | h | h⟩ := hu <;> (subst h; rfl)
theorem frms_get {fs : List FrV} {k : Nat} {f : FrV} (h : fs[k]? = some f) : (frms fs)[k * 3]? = some (.int .i64 f.k) ∧ (frms fs)[k * 3 + 1]? = some (.int .i64 f.m) ∧ (frms fs)[k * 3 + 2]? = some (.slice f.a f.n f.c) := by
  induction fs generalizing k with
  | nil => simp at h
  | cons a t ih =>
    cases k with
    | zero => simp at h; subst h; simp [frms]
    | succ k =>
      simp at h
      have := ih h
      simp only [frms, List.flatMap_cons, List.cons_append, List.nil_append] at this ⊢
      rw [show (k + 1) * 3 = k * 3 + 1 + 1 + 1 from by omega]
      simpa using this
theorem frms_set (fs : List FrV) (k : Nat) (f : FrV) : fs[k]? ≠ none → frms (fs.set k f) = (((frms fs).set (k * 3) (.int .i64 f.k)).set (k * 3 + 1) (.int .i64 f.m)).set (k * 3 + 2) (.slice f.a f.n f.c) := by
  induction fs generalizing k with
  | nil => intro h; simp at h
  | cons a t ih =>
    intro h
    cases k with
    | zero => simp [frms]
    | succ k =>
      have := ih k (by simpa using h)
      simp only [frms, List.set_cons_succ, List.flatMap_cons, List.cons_append, List.nil_append] at this ⊢
      rw [this, show (k + 1) * 3 = k * 3 + 1 + 1 + 1 from by omega]
      simp
theorem set_same {α : Type} {l : List α} {k : Nat} {x : α} (h : l[k]? = some x) : l.set k x = l := by
  apply List.ext_getElem?
  intro i
  rw [List.getElem?_set]
  split
  · rename_i e; subst e; split
    · exact h.symm
    · rename_i hl; rw [List.getElem?_eq_none (by omega)] at h; cases h
  · rfl
theorem frms_setk {fs : List FrV} {k : Nat} {f : FrV} (h : fs[k]? = some f) (u : Int) : (frms fs).set (k * 3) (.int .i64 u) = frms (fs.set k { f with k := u }) := by
  rw [frms_set _ _ _ (by rw [h]; simp)]
  obtain ⟨h0, h1, h2⟩ := frms_get h
  have e1 : ((frms fs).set (k * 3) (.int .i64 u))[k * 3 + 1]? = some (.int .i64 f.m) := by rw [List.getElem?_set_ne (by omega)]; exact h1
  have e2 : ((frms fs).set (k * 3) (.int .i64 u))[k * 3 + 2]? = some (.slice f.a f.n f.c) := by rw [List.getElem?_set_ne (by omega)]; exact h2
  simp only
  rw [set_same e1, set_same e2]
theorem frms_setm {fs : List FrV} {k : Nat} {f : FrV} (h : fs[k]? = some f) (u : Int) : (frms fs).set (k * 3 + 1) (.int .i64 u) = frms (fs.set k { f with m := u }) := by
  rw [frms_set _ _ _ (by rw [h]; simp)]
  obtain ⟨h0, h1, h2⟩ := frms_get h
  simp only
  rw [set_same h0]
  have e2 : ((frms fs).set (k * 3 + 1) (.int .i64 u))[k * 3 + 2]? = some (.slice f.a f.n f.c) := by rw [List.getElem?_set_ne (by omega)]; exact h2
  rw [set_same e2]
theorem frms_setx {fs : List FrV} {k : Nat} {f : FrV} (h : fs[k]? = some f) (ys : List Int) : frms (fs.set k { f with xs := ys }) = frms fs := by
  rw [frms_set _ _ _ (by rw [h]; simp)]
  obtain ⟨h0, h1, h2⟩ := frms_get h
  simp only
  rw [set_same h0, set_same h1, set_same h2]

theorem info_Frame : (Try.prog.info? 28).map (fun i => (i.zero, i.size, i.bytes)) = some (some (.agg #[.int .i64 0, .int .i64 0, .slice none 0 0]), 3, 40) := by kernel_rfl

/-- A list of frames that reads; a list of frames of the call's own. -/
def FRow (w : World) (a : Option Addr) (n : Nat) (fs : List FrV) : Prop := Row w 3 a n (frms fs) ∧ ∀ f ∈ fs, Row w 1 f.a f.n (ints f.xs)
theorem FRow.below {w w' : World} {a : Option Addr} {n B : Nat} {fs : List FrV} (h : FRow w a n fs) (hb : Below B w w') (hB : w.heap.size ≤ B) : FRow w' a n fs :=
  ⟨h.1.keep (fun b _ _ hl => hb.block b (by omega)) (by omega), fun f hf => (h.2 f hf).below hb hB⟩
theorem FRow.len {w : World} {a : Option Addr} {n : Nat} {fs : List FrV} (h : FRow w a n fs) : fs.length = n := by have := h.1.1; rw [frms_length] at this; omega
theorem FRow.at_ {w : World} {a : Option Addr} {n k : Nat} {fs : List FrV} (h : FRow w a n fs) (hk : k < n) :
    ∃ b off f, a = some ⟨b, off, none⟩ ∧ w.cell? ⟨b, off + k * 3, none⟩ = some (.int .i64 f.k) ∧ w.cell? ⟨b, off + k * 3 + 1, none⟩ = some (.int .i64 f.m) ∧ w.cell? ⟨b, off + k * 3 + 2, none⟩ = some (.slice f.a f.n f.c) ∧ Hid (fs[k]? = some f) ∧ Row w 1 f.a f.n (ints f.xs) := by
  have hl := h.len
  obtain ⟨b, off, e, hc⟩ := h.1.2 (by omega)
  have hx : fs[k]? = some fs[k] := List.getElem?_eq_getElem (by omega)
  obtain ⟨g0, g1, g2⟩ := frms_get hx
  exact ⟨b, off, fs[k], e, hc _ _ g0, by rw [Nat.add_assoc]; exact hc _ _ g1, by rw [Nat.add_assoc]; exact hc _ _ g2, hx, h.2 _ (List.getElem_mem (by omega))⟩

structure FOwn (w : World) (lo hi : Nat) (a : Option Addr) (n c : Nat) (fs : List FrV) : Prop where
  own : Own w lo hi 28 3 a n c (frms fs)
  pays : ∀ (i : Nat) (f : FrV), fs[i]? = some f → Own w lo hi 2 1 f.a f.n f.c (ints f.xs)
  apart : ∀ (i j : Nat) (f g : FrV) (b : Nat), fs[i]? = some f → fs[j]? = some g → i ≠ j → f.blk = some b → g.blk ≠ some b
theorem FOwn.row {w : World} {lo hi n c : Nat} {a : Option Addr} {fs : List FrV} (h : FOwn w lo hi a n c fs) : FRow w a n fs :=
  ⟨h.own.row, fun f hf => by obtain ⟨i, hi⟩ := List.mem_iff_getElem?.1 hf; exact (h.pays i f hi).row⟩
theorem FOwn.keep {w w' : World} {lo hi n c : Nat} {a : Option Addr} {fs : List FrV} (h : FOwn w lo hi a n c fs) (hk : ∀ b, lo ≤ b → b < hi → b < w.heap.size → w'.heap[b]? = w.heap[b]?) : FOwn w' lo hi a n c fs :=
  ⟨h.own.keep hk, fun i f hf => (h.pays i f hf).keep hk, h.apart⟩
theorem FOwn.below {w w' : World} {lo hi n c : Nat} {a : Option Addr} {fs : List FrV} (h : FOwn w lo hi a n c fs) {B : Nat} (hb : Below B w w') (hB : hi ≤ B ∨ w.heap.size ≤ B) : FOwn w' lo hi a n c fs := h.keep fun b _ _ _ => hb.block b (by omega)
theorem FOwn.mono {w : World} {lo hi lo' hi' n c : Nat} {a : Option Addr} {fs : List FrV} (h : FOwn w lo hi a n c fs) (h1 : lo' ≤ lo) (h2 : hi ≤ hi') : FOwn w lo' hi' a n c fs :=
  ⟨h.own.mono h1 h2, fun i f hf => (h.pays i f hf).mono h1 h2, h.apart⟩
theorem FOwn.leave {w : World} {lo hi n c : Nat} {a : Option Addr} {fs : List FrV} (h : FOwn w lo hi a n c fs) : FOwn w lo w.heap.size a n c fs :=
  ⟨h.own.leave, fun i f hf => (h.pays i f hf).leave, h.apart⟩
theorem FOwn.nil_ (w : World) (lo hi : Nat) : FOwn w lo hi none 0 0 [] := ⟨Own.nil_ _ _ _ _ _, fun i f h => by simp at h, fun i j f g b h => by simp at h⟩
theorem FOwn.len {w : World} {lo hi n c : Nat} {a : Option Addr} {fs : List FrV} (h : FOwn w lo hi a n c fs) : fs.length = n := h.row.len

/-- Two rows of different types lie in different blocks. -/
theorem own_ne {w : World} {lo hi E s n c lo' hi' E' s' n' c' : Nat} {a a' : Option Addr} {vs vs' : List Value} (h : Own w lo hi E s a n c vs) (h' : Own w lo' hi' E' s' a' n' c' vs') (hE : E ≠ E') : ∀ g, (Value.slice a n c).ownBlock = some g → (Value.slice a' n' c').ownBlock ≠ some g := by
  intro g hg hg'
  rcases h.1.2 with ⟨hv, _⟩ | ⟨g1, cap, cur, hv, _, hg1, _⟩
  · rw [hv] at hg; simp [Value.ownBlock] at hg
  · rcases h'.1.2 with ⟨hv', _⟩ | ⟨g2, cap', cur', hv', _, hg2, _⟩
    · rw [hv'] at hg'; simp [Value.ownBlock] at hg'
    · rw [hv] at hg; rw [hv'] at hg'
      simp [Value.ownBlock] at hg hg'
      subst hg; subst hg'
      rw [hg1] at hg2
      injection hg2 with e
      injection e with _ e _
      exact hE e
/-- What is written in one row leaves a row that lies in another block. -/
theorem Own.beside {w w' : World} {lo hi E s n c : Nat} {a : Option Addr} {vs : List Value} (h : Own w lo hi E s a n c vs) {row : Option Nat} (hg : w.grownBy w' row) (hr : ∀ g, row = some g → (Value.slice a n c).ownBlock ≠ some g) : Own w' lo hi E s a n c vs := by
  refine ⟨h.1.kept hg ?_, h.2⟩
  rcases hb : (Value.slice a n c).ownBlock with _ | g
  · exact .inl rfl
  · refine .inr fun e => ?_
    exact hr g e.symm hb

/-- A store into the list's own block. -/
theorem FOwn.stored {w : World} {lo hi g n c : Nat} {fs gs : List FrV} (h : FOwn w lo hi (some ⟨g, 0, none⟩) n c fs) (j : Nat) (u : Value) (he : (frms fs).set j u = frms gs)
    (hv : ∀ (i : Nat) (f' : FrV), gs[i]? = some f' → ∃ f, fs[i]? = some f ∧ f.a = f'.a ∧ f.n = f'.n ∧ f.c = f'.c ∧ f.xs = f'.xs) :
    FOwn (w.setCell ⟨g, j, none⟩ u) lo hi (some ⟨g, 0, none⟩) n c gs := by
  obtain ⟨h1, h2⟩ := h.own.stored j u
  rw [he] at h1
  refine ⟨h1, fun i f' hf' => ?_, fun i k f' g' b hf' hg' hik hb => ?_⟩
  · obtain ⟨f, hf, e1, e2, e3, e4⟩ := hv i f' hf'
    rw [← e1, ← e2, ← e3, ← e4]
    exact (h.pays i f hf).beside h2 (fun b hb => by injection hb with hb; subst hb; exact own_ne h.own (h.pays i f hf) (by decide) g rfl)
  · obtain ⟨f, hf, e1, e2, e3, e4⟩ := hv i f' hf'
    obtain ⟨f2, hf2, d1, d2, d3, d4⟩ := hv k g' hg'
    have := h.apart i k f f2 b hf hf2 hik (by rw [FrV.blk, e1, e2, e3]; exact hb)
    rwa [FrV.blk, d1, d2, d3] at this
theorem set_views {fs : List FrV} {k : Nat} {f f' : FrV} (h : fs[k]? = some f) (e : f.a = f'.a ∧ f.n = f'.n ∧ f.c = f'.c ∧ f.xs = f'.xs) : ∀ (i : Nat) (g : FrV), (fs.set k f')[i]? = some g → ∃ f0, fs[i]? = some f0 ∧ f0.a = g.a ∧ f0.n = g.n ∧ f0.c = g.c ∧ f0.xs = g.xs := by
  intro i g hg
  rw [List.getElem?_set] at hg
  split at hg
  · rename_i hik
    subst hik
    split at hg
    · injection hg with hg; subst hg; exact ⟨f, h, e⟩
    · cases hg
  · exact ⟨g, hg, rfl, rfl, rfl, rfl⟩
/-- The marks in one payload. -/
theorem FOwn.paid {w w' : World} {lo hi n c k : Nat} {a : Option Addr} {fs : List FrV} {f : FrV} {ys : List Int} (h : FOwn w lo hi a n c fs) (hf : fs[k]? = some f) (hg : w.grownBy w' (Value.slice f.a f.n f.c).ownBlock) (ho : Own w' lo hi 2 1 f.a f.n f.c (ints ys)) :
    FOwn w' lo hi a n c (fs.set k { f with xs := ys }) := by
  refine ⟨?_, fun i g hgi => ?_, fun i j p q b hp hq hij hb => ?_⟩
  · rw [frms_setx hf]
    exact h.own.beside hg (fun g hg' => own_ne (h.pays k f hf) h.own (by decide) g hg')
  · rw [List.getElem?_set] at hgi
    split at hgi
    · rename_i hik
      subst hik
      split at hgi
      · injection hgi with hgi; subst hgi; exact ho
      · cases hgi
    · rename_i hik
      exact (h.pays i g hgi).beside hg (fun b hb => h.apart k i f g b hf hgi hik hb)
  · have view : ∀ (i : Nat) (g : FrV), (fs.set k { f with xs := ys })[i]? = some g → ∃ f0, fs[i]? = some f0 ∧ f0.blk = g.blk := by
      intro i g hg
      rw [List.getElem?_set] at hg
      split at hg
      · rename_i hik
        subst hik
        split at hg
        · injection hg with hg; subst hg; exact ⟨f, hf, rfl⟩
        · cases hg
      · exact ⟨g, hg, rfl⟩
    obtain ⟨p0, hp0, ep⟩ := view i p hp
    obtain ⟨q0, hq0, eq⟩ := view j q hq
    rw [← eq]
    exact h.apart i j p0 q0 b hp0 hq0 hij (by rw [ep]; exact hb)
end Go.Proofs.Ytmljcbfpennjkaa
