/- Opening the arguments of a law to plain facts: integers, slices of integers, slices of structs of integers. No program in sight. -/
import Derived.Test.YtaimckepaldocaaGreatDoorMem
import Derived.ProofKit
import Derived.OpenShut
import Derived.Deep.Slices
import Derived.Deep.Fields
import Derived.ChangeSame
import Derived.Lib.SmallJoins
namespace Go.Proofs.YtaimckepaldocaaGreatDoor
open Go.ChangeShapes Go.WideShapes Go.ChangeAt Go.RowKit Go.Deep Go.Joins

theorem i64_of {x : Int} (h : (Lit.int .i64 x).wf = true) : I64 x := by
  have := bounds_i64 h
  unfold I64; omega

section
variable {H : Type} {enc : TypeId × Value → H} {P : Program} {w : World} {base : Nat} {spare : Nat → Bool} {held : Bool}

theorem arr_of {a : Option Addr} {n c : Nat} {x : DataW H × List MemPlace}
    (h : ((Value.slice a n c).cells.toList = [.slice none 0 0] ∧ x = (.nil, [])) ∨
      ∃ (b : Addr) (len cap : Nat) (zs : List Int), (Value.slice a n c).cells.toList = [.slice (some b) len cap] ∧ base ≤ b.block ∧ len ≤ cap ∧ cap ≤ maxLen ∧ zs.length = (if spare b.block then cap else len) ∧
        x = (.slice (lits .i64 (zs.take len)) (lits .i64 (zs.drop len)), MemPlace.row b zs.length) ∧
        (∀ i, i < zs.length → w.cell? (b.add i) = some (.int .i64 (zs.getD i 0))) ∧ (∀ n ∈ zs, (Lit.int .i64 n).wf = true)) : ∃ xs, Arr w a n xs := by
  rcases h with ⟨hcs, _⟩ | ⟨b, l, cp, zs, hcs, _, hl, hm, hz, _, hcell, hwz⟩
  · simp [Value.cells] at hcs
    obtain ⟨rfl, rfl, rfl⟩ := hcs
    exact ⟨[], Row.nil_, Nat.zero_le _, by simp⟩
  · simp [Value.cells] at hcs
    obtain ⟨rfl, rfl, rfl⟩ := hcs
    have hzn : n ≤ zs.length := by rw [hz]; split <;> omega
    refine ⟨zs.take n, ⟨by simp [ints]; omega, fun hn => ?_⟩, by omega, fun x hx => i64_of (hwz x (List.mem_of_mem_take hx))⟩
    obtain ⟨bk, off, spot⟩ := b
    have h0 := hcell 0 (by omega)
    have hs : spot = none := by simpa [Addr.add] using World.cell?_spot h0
    subst hs
    refine ⟨bk, off, rfl, fun j u hu => ?_⟩
    simp only [ints, List.getElem?_map, List.getElem?_take] at hu
    split at hu
    · have hj : j < zs.length := by omega
      have := hcell j hj
      rw [List.getElem?_eq_getElem hj] at hu
      simp at hu
      subst hu
      have e : (⟨bk, off, none⟩ : Addr).add j = ⟨bk, off + j, none⟩ := by unfold Addr.add; split <;> simp_all
      rw [e] at this
      rw [this]
      simp [hj]
    · simp at hu
theorem open_slice_fields {t e : TypeId} {fs : Array Field} {fuel : Nat} {cs : List Value} {x : DataW H × List MemPlace} (ht : P.underlying t = some (.slice e)) (he : P.underlying e = some (.struct fs))
    (hone : oneCellFields P fs = true) (hC : P.cellsOf e = fs.size) (h : DataW.trod enc P w base spare held fuel t cs = some x) :
    (cs = [.slice none 0 0] ∧ x = (.nil, [])) ∨
    ∃ (a : Addr) (len cap m : Nat) (D : Nat → DataW H) (Pl : Nat → List MemPlace), cs = [.slice (some a) len cap] ∧ base ≤ a.block ∧ len ≤ cap ∧ cap ≤ maxLen ∧ m = (if spare a.block then cap else len) ∧
      x = (.slice ((List.range len).map D) ((List.range (m - len)).map fun j => D (len + j)), MemPlace.row a (m * fs.size) ++ (List.range m).flatMap Pl) ∧
      ∀ i, i < m → ∃ (ys : List (DataW H × List MemPlace)) (n : Nat), D i = .agg (ys.map (·.1)) ∧ Pl i = ys.flatMap (·.2) ∧ ys.length = fs.size ∧
        ∀ (j : Nat) (f : Field), fs[j]? = some f → ∃ (v : Value) (y : DataW H × List MemPlace), w.cell? (a.add (i * fs.size + j)) = some v ∧ ys[j]? = some y ∧ DataW.trod enc P w base spare held n f.type [v] = some y := by
  rcases open_slice ht h with h0 | ⟨a, len, cap, m, n, D, Pl, hcs, hb, hl, hm, hmm, hx, hi⟩
  · exact .inl h0
  · refine .inr ⟨a, len, cap, m, D, Pl, hcs, hb, hl, hm, hmm, by rw [hC] at hx; exact hx, fun i him => ?_⟩
    obtain ⟨cs', hc, ht'⟩ := hi i him
    rw [hC] at hc
    obtain ⟨ys, n', hn', hy, hlen, hyl, hf⟩ := DataW.trod_struct he ht'
    obtain ⟨_, hcl, hat⟩ := World.cells?_some hc
    simp only [Prod.mk.injEq] at hy
    refine ⟨ys, n', hy.1, hy.2, hyl, fun j f hj => ?_⟩
    obtain ⟨ho, hk⟩ := hone_of hone j f hj
    have hjl : j < fs.size := (Array.getElem?_eq_some_iff.1 hj).1
    have hcell := hat j hjl
    have hv : cs'[j]? = some (cs'[j]'(by omega)) := List.getElem?_eq_getElem (by omega)
    have h1 := hf j f hj
    rw [ho, hk] at h1
    have hone' : (cs'.drop j).take 1 = [cs'[j]'(by omega)] := by
      rw [List.drop_eq_getElem_cons (by omega)]
      rfl
    rw [hone'] at h1
    have hys : ys[j]? = some (ys[j]'(by omega)) := List.getElem?_eq_getElem (by omega)
    refine ⟨_, _, ?_, hys, h1.trans hys⟩
    rw [← Go.Deep.add_add, hcell, hv]

theorem open_agg5 {r : Reach} {b0 : Nat} {t : TypeId} {f0 f1 f2 f3 f4 : Field} {v : Value} {d : DataW H} {p : List MemPlace} (hs : P.underlying t = some (.struct #[f0, f1, f2, f3, f4])) (hone : oneCellFields P #[f0, f1, f2, f3, f4] = true) (hC : P.cellsOf t = 5)
    (hv : Value.okWide P w r b0 t v) (h : DataW.Trod enc P w base spare held t v d p) :
    ∃ (v0 v1 v2 v3 v4 : Value) (y0 y1 y2 y3 y4 : DataW H × List MemPlace) (n : Nat), v = .agg #[v0, v1, v2, v3, v4] ∧ d = .agg [y0.1, y1.1, y2.1, y3.1, y4.1] ∧ p = y0.2 ++ (y1.2 ++ (y2.2 ++ (y3.2 ++ y4.2))) ∧
      DataW.trod enc P w base spare held n f0.type [v0] = some y0 ∧ DataW.trod enc P w base spare held n f1.type [v1] = some y1 ∧ DataW.trod enc P w base spare held n f2.type [v2] = some y2 ∧ DataW.trod enc P w base spare held n f3.type [v3] = some y3 ∧ DataW.trod enc P w base spare held n f4.type [v4] = some y4 := by
  obtain ⟨cs, rfl, hsz⟩ := okWide_struct hs hv
  obtain ⟨l⟩ := cs
  match l, hsz.trans hC with
  | [c0, c1, c2, c3, c4], _ =>
    obtain ⟨fuel, hf⟩ := h
    obtain ⟨xs, n, _, hx, _, hlen, hg⟩ := DataW.trod_struct hs hf
    obtain ⟨o0, k0⟩ := hone_of hone 0 f0 rfl
    obtain ⟨o1, k1⟩ := hone_of hone 1 f1 rfl
    obtain ⟨o2, k2⟩ := hone_of hone 2 f2 rfl
    obtain ⟨o3, k3⟩ := hone_of hone 3 f3 rfl
    obtain ⟨o4, k4⟩ := hone_of hone 4 f4 rfl
    match xs, hlen with
    | [y0, y1, y2, y3, y4], _ =>
      simp only [Prod.mk.injEq] at hx
      exact ⟨c0, c1, c2, c3, c4, y0, y1, y2, y3, y4, n, rfl, by simpa using hx.1, by simpa using hx.2, by simpa [Value.cells, o0, k0] using hg 0 f0 rfl, by simpa [Value.cells, o1, k1] using hg 1 f1 rfl, by simpa [Value.cells, o2, k2] using hg 2 f2 rfl, by simpa [Value.cells, o3, k3] using hg 3 f3 rfl, by simpa [Value.cells, o4, k4] using hg 4 f4 rfl⟩


theorem int_cell {e : TypeId} {n : Nat} {v : Value} {y : DataW H × List MemPlace} (he : P.underlying e = some (.int .i64)) (h : DataW.trod enc P w base spare held n e [v] = some y) : ∃ x, v = .int .i64 x ∧ I64 x := by
  obtain ⟨x, e0, _, wf⟩ := DataW.trod_int he h
  simp at e0
  exact ⟨x, e0, i64_of wf⟩

/-- A field that is a slice of integers. -/
theorem arr_field {t e : TypeId} {fuel : Nat} {v : Value} {y : DataW H × List MemPlace} (ht : P.underlying t = some (.slice e)) (he : P.underlying e = some (.int .i64)) (hc : P.cellsOf e = 1)
    (h : DataW.trod enc P w base spare held fuel t [v] = some y) : ∃ a n c xs, v = .slice a n c ∧ Arr w a n xs := by
  have h2 := open_ints ht he hc h
  rcases h2 with ⟨hcs, hx⟩ | ⟨b, l, cp, zs, hcs, r⟩
  · simp only [List.cons.injEq, and_true] at hcs
    subst hcs
    obtain ⟨xs, hxs⟩ := arr_of (n := 0) (c := 0) (a := none) (.inl ⟨rfl, hx⟩ : _ ∨ ∃ (b : Addr) (len cap : Nat) (zs : List Int), (Value.slice none 0 0).cells.toList = [.slice (some b) len cap] ∧ base ≤ b.block ∧ len ≤ cap ∧ cap ≤ maxLen ∧ zs.length = (if spare b.block then cap else len) ∧
        y = (.slice (lits .i64 (zs.take len)) (lits .i64 (zs.drop len)), MemPlace.row b zs.length) ∧
        (∀ i, i < zs.length → w.cell? (b.add i) = some (.int .i64 (zs.getD i 0))) ∧ (∀ n ∈ zs, (Lit.int .i64 n).wf = true))
    exact ⟨none, 0, 0, xs, rfl, hxs⟩
  · simp only [List.cons.injEq, and_true] at hcs
    subst hcs
    obtain ⟨xs, hxs⟩ := arr_of (w := w) (n := l) (c := cp) (a := some b) (x := y) (.inr ⟨b, l, cp, zs, rfl, r⟩)
    exact ⟨_, _, _, xs, rfl, hxs⟩

/-- A slice of structs of two integers. -/
theorem arr2_of {a : Option Addr} {n c : Nat} {x : DataW H × List MemPlace} {f0 f1 : Field} (h0 : P.underlying f0.type = some (.int .i64)) (h1 : P.underlying f1.type = some (.int .i64))
    (h : ((Value.slice a n c).cells.toList = [.slice none 0 0] ∧ x = (.nil, [])) ∨
    ∃ (a' : Addr) (len cap m : Nat) (D : Nat → DataW H) (Pl : Nat → List MemPlace), (Value.slice a n c).cells.toList = [.slice (some a') len cap] ∧ base ≤ a'.block ∧ len ≤ cap ∧ cap ≤ maxLen ∧ m = (if spare a'.block then cap else len) ∧
      x = (.slice ((List.range len).map D) ((List.range (m - len)).map fun j => D (len + j)), MemPlace.row a' (m * #[f0, f1].size) ++ (List.range m).flatMap Pl) ∧
      ∀ i, i < m → ∃ (ys : List (DataW H × List MemPlace)) (n : Nat), D i = .agg (ys.map (·.1)) ∧ Pl i = ys.flatMap (·.2) ∧ ys.length = #[f0, f1].size ∧
        ∀ (j : Nat) (f : Field), #[f0, f1][j]? = some f → ∃ (v : Value) (y : DataW H × List MemPlace), w.cell? (a'.add (i * #[f0, f1].size + j)) = some v ∧ ys[j]? = some y ∧ DataW.trod enc P w base spare held n f.type [v] = some y) :
    ∃ ss, Arr2 w a n ss := by
  rcases h with ⟨hcs, _⟩ | ⟨b, l, cp, m, D, Pl, hcs, _, hl, hm, hmm, _, hf⟩
  · simp [Value.cells] at hcs
    obtain ⟨rfl, rfl, rfl⟩ := hcs
    exact ⟨[], ⟨rfl, fun h => absurd h (by omega)⟩, Nat.zero_le _, by simp⟩
  · simp [Value.cells] at hcs
    obtain ⟨rfl, rfl, rfl⟩ := hcs
    have hmn : n ≤ m := by rw [hmm]; split <;> omega
    have each : ∀ i, i < n → ∃ s : Int × Int, w.cell? (b.add (i * 2)) = some (.int .i64 s.1) ∧ w.cell? (b.add (i * 2 + 1)) = some (.int .i64 s.2) ∧ I64 s.1 ∧ I64 s.2 := by
      intro i hi
      obtain ⟨ys, k, _, _, _, hh⟩ := hf i (by omega)
      obtain ⟨v0, y0, c0, _, t0⟩ := hh 0 f0 rfl
      obtain ⟨v1, y1, c1, _, t1⟩ := hh 1 f1 rfl
      obtain ⟨x0, rfl, b0⟩ := int_cell h0 t0
      obtain ⟨x1, rfl, b1⟩ := int_cell h1 t1
      exact ⟨(x0, x1), by simpa using c0, by simpa using c1, b0, b1⟩
    have pick : ∀ k, k ≤ n → ∃ ss : List (Int × Int), ss.length = k ∧ ∀ i s, ss[i]? = some s → w.cell? (b.add (i * 2)) = some (.int .i64 s.1) ∧ w.cell? (b.add (i * 2 + 1)) = some (.int .i64 s.2) ∧ I64 s.1 ∧ I64 s.2 := by
      intro k hk
      induction k with
      | zero => exact ⟨[], rfl, by simp⟩
      | succ k ih =>
        obtain ⟨ss, hl', hs⟩ := ih (by omega)
        obtain ⟨s, hs0⟩ := each k (by omega)
        refine ⟨ss ++ [s], by simp [hl'], fun i u hu => ?_⟩
        rw [List.getElem?_append] at hu
        split at hu
        · exact hs i u hu
        · rename_i hlt
          have : i = k := by
            rcases Nat.lt_or_ge (i - ss.length) 1 with h | h
            · omega
            · rw [List.getElem?_eq_none (by simpa using h)] at hu; cases hu
          subst this
          rw [hl', Nat.sub_self] at hu
          simp at hu; subst hu; exact hs0
    obtain ⟨ss, hsl, hss⟩ := pick n (Nat.le_refl _)
    refine ⟨ss, ⟨by rw [prs_length, hsl], fun hn => ?_⟩, by omega, fun s hs => ?_⟩
    · obtain ⟨bk, off, spot⟩ := b
      have hq := (hss 0 (ss[0]'(by omega)) (List.getElem?_eq_getElem (by omega))).1
      have hsp : spot = none := by simpa [Addr.add] using World.cell?_spot hq
      subst hsp
      have eadd : ∀ j, (⟨bk, off, none⟩ : Addr).add j = ⟨bk, off + j, none⟩ := fun j => by unfold Addr.add; split <;> simp_all
      refine ⟨bk, off, rfl, fun j u hu => ?_⟩
      have hj : j < ss.length * 2 := by
        rw [← prs_length]; exact (List.getElem?_eq_some_iff.1 hu).1
      have hd : ss[j / 2]? = some (ss[j / 2]'(by omega)) := List.getElem?_eq_getElem (by omega)
      have hp := prs_get hd
      have hc := hss _ _ hd
      rw [eadd, eadd] at hc
      rcases Nat.mod_two_eq_zero_or_one j with h2 | h2
      · have ej : j / 2 * 2 = j := by omega
        rw [ej] at hp hc
        rw [hp.1] at hu; injection hu with hu; rw [← hu]; exact hc.1
      · have ej : j / 2 * 2 + 1 = j := by omega
        rw [ej] at hp hc
        rw [hp.2] at hu; injection hu with hu; rw [← hu]; exact hc.2.1
    · obtain ⟨i, hi⟩ := List.mem_iff_getElem?.1 hs
      exact (hss i s hi).2.2

/-- A field that is a slice of structs of two integers. -/
theorem arr2_field {t e : TypeId} {f0 f1 : Field} {fuel : Nat} {v : Value} {y : DataW H × List MemPlace} (ht : P.underlying t = some (.slice e)) (he : P.underlying e = some (.struct #[f0, f1])) (hone : oneCellFields P #[f0, f1] = true) (hC : P.cellsOf e = 2)
    (h0 : P.underlying f0.type = some (.int .i64)) (h1 : P.underlying f1.type = some (.int .i64))
    (h : DataW.trod enc P w base spare held fuel t [v] = some y) : ∃ a n c ss, v = .slice a n c ∧ Arr2 w a n ss := by
  have h2 := open_slice_fields ht he hone hC h
  rcases h2 with ⟨hcs, hx⟩ | ⟨b, l, cp, m, D, Pl, hcs, r⟩
  · simp only [List.cons.injEq, and_true] at hcs
    subst hcs
    exact ⟨none, 0, 0, [], rfl, ⟨rfl, fun h => absurd h (by omega)⟩, Nat.zero_le _, by simp⟩
  · simp only [List.cons.injEq, and_true] at hcs
    subst hcs
    obtain ⟨ss, hss⟩ := arr2_of (P := P) (w := w) (n := l) (c := cp) (a := some b) (x := y) (f0 := f0) (f1 := f1) h0 h1 (.inr ⟨b, l, cp, m, D, Pl, rfl, r⟩)
    exact ⟨_, _, _, ss, rfl, hss⟩
end
end Go.Proofs.YtaimckepaldocaaGreatDoor
