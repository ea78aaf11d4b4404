/- Opening an argument that is a slice of structs of four integers. No program in sight. -/
import Derived.Test.YtciicolknphcnaaOpen
import Derived.Test.YtciicolknphcnaaFour
namespace Go.Proofs.Ytciicolknphcnaa
open Go.ChangeShapes Go.WideShapes Go.ChangeAt Go.RowKit Go.Deep Go.Joins

section
variable {H : Type} {enc : TypeId × Value → H} {P : Program} {w : World} {base : Nat} {spare : Nat → Bool} {held : Bool}

theorem arr4_of {a : Option Addr} {n c : Nat} {x : DataW H × List MemPlace} {f0 f1 f2 f3 : Field} (h0 : P.underlying f0.type = some (.int .i64)) (h1 : P.underlying f1.type = some (.int .i64)) (h2 : P.underlying f2.type = some (.int .i64)) (h3 : P.underlying f3.type = some (.int .i64))
    (h : ((Value.slice a n c).cells.toList = [.slice none 0 0] ∧ x = (.nil, [])) ∨
    ∃ (a' : Addr) (len cap m : Nat) (D : Nat → DataW H) (Pl : Nat → List MemPlace), (Value.slice a n c).cells.toList = [.slice (some a') len cap] ∧ base ≤ a'.block ∧ len ≤ cap ∧ cap ≤ maxLen ∧ m = (if spare a'.block then cap else len) ∧
      x = (.slice ((List.range len).map D) ((List.range (m - len)).map fun j => D (len + j)), MemPlace.row a' (m * #[f0, f1, f2, f3].size) ++ (List.range m).flatMap Pl) ∧
      ∀ i, i < m → ∃ (ys : List (DataW H × List MemPlace)) (n : Nat), D i = .agg (ys.map (·.1)) ∧ Pl i = ys.flatMap (·.2) ∧ ys.length = #[f0, f1, f2, f3].size ∧
        ∀ (j : Nat) (f : Field), #[f0, f1, f2, f3][j]? = some f → ∃ (v : Value) (y : DataW H × List MemPlace), w.cell? (a'.add (i * #[f0, f1, f2, f3].size + j)) = some v ∧ ys[j]? = some y ∧ DataW.trod enc P w base spare held n f.type [v] = some y) :
    ∃ ss, Arr4 w a n ss := by
  rcases h with ⟨hcs, _⟩ | ⟨b, l, cp, m, D, Pl, hcs, _, hl, hm, hmm, _, hf⟩
  · simp [Value.cells] at hcs
    obtain ⟨rfl, rfl, rfl⟩ := hcs
    exact ⟨[], ⟨rfl, fun h => absurd h (by omega)⟩, Nat.zero_le _, by simp⟩
  · simp [Value.cells] at hcs
    obtain ⟨rfl, rfl, rfl⟩ := hcs
    have hmn : n ≤ m := by rw [hmm]; split <;> omega
    have each : ∀ i, i < n → ∃ s : I4, (w.cell? (b.add (i * 4)) = some (.int .i64 s.1) ∧ w.cell? (b.add (i * 4 + 1)) = some (.int .i64 s.2.1) ∧ w.cell? (b.add (i * 4 + 2)) = some (.int .i64 s.2.2.1) ∧ w.cell? (b.add (i * 4 + 3)) = some (.int .i64 s.2.2.2)) ∧ I64 s.1 ∧ I64 s.2.1 ∧ I64 s.2.2.1 ∧ I64 s.2.2.2 := by
      intro i hi
      obtain ⟨ys, k, _, _, _, hh⟩ := hf i (by omega)
      obtain ⟨v0, y0, c0, _, t0⟩ := hh 0 f0 rfl
      obtain ⟨v1, y1, c1, _, t1⟩ := hh 1 f1 rfl
      obtain ⟨v2, y2, c2, _, t2⟩ := hh 2 f2 rfl
      obtain ⟨v3, y3, c3, _, t3⟩ := hh 3 f3 rfl
      obtain ⟨x0, rfl, b0⟩ := int_cell h0 t0
      obtain ⟨x1, rfl, b1⟩ := int_cell h1 t1
      obtain ⟨x2, rfl, b2⟩ := int_cell h2 t2
      obtain ⟨x3, rfl, b3⟩ := int_cell h3 t3
      exact ⟨(x0, x1, x2, x3), ⟨by simpa using c0, by simpa using c1, by simpa using c2, by simpa using c3⟩, b0, b1, b2, b3⟩
    have pick : ∀ k, k ≤ n → ∃ ss : List I4, ss.length = k ∧ ∀ i s, ss[i]? = some s → (w.cell? (b.add (i * 4)) = some (.int .i64 s.1) ∧ w.cell? (b.add (i * 4 + 1)) = some (.int .i64 s.2.1) ∧ w.cell? (b.add (i * 4 + 2)) = some (.int .i64 s.2.2.1) ∧ w.cell? (b.add (i * 4 + 3)) = some (.int .i64 s.2.2.2)) ∧ I64 s.1 ∧ I64 s.2.1 ∧ I64 s.2.2.1 ∧ I64 s.2.2.2 := by
      intro k hk
      induction k with
      | zero => exact ⟨[], rfl, by simp⟩
      | succ k ih =>
        obtain ⟨ss, hl', hs⟩ := ih (by omega)
        obtain ⟨s, hs0⟩ := each k (by omega)
        refine ⟨ss ++ [s], by simp [hl'], fun i u hu => ?_⟩
        rw [List.getElem?_append] at hu
        split at hu
        · exact hs i u hu
        · rename_i hlt
          have : i = k := by
            rcases Nat.lt_or_ge (i - ss.length) 1 with h | h
            · omega
            · rw [List.getElem?_eq_none (by simpa using h)] at hu; cases hu
          subst this
          rw [hl', Nat.sub_self] at hu
          simp at hu; subst hu; exact hs0
    obtain ⟨ss, hsl, hss⟩ := pick n (Nat.le_refl _)
    refine ⟨ss, ⟨by rw [frs_length, hsl], fun hn => ?_⟩, by omega, fun s hs => ?_⟩
    · obtain ⟨bk, off, spot⟩ := b
      have hq := (hss 0 (ss[0]'(by omega)) (List.getElem?_eq_getElem (by omega))).1.1
      have hsp : spot = none := by simpa [Addr.add] using World.cell?_spot hq
      subst hsp
      have eadd : ∀ j, (⟨bk, off, none⟩ : Addr).add j = ⟨bk, off + j, none⟩ := fun j => by unfold Addr.add; split <;> simp_all
      refine ⟨bk, off, rfl, fun j u hu => ?_⟩
      have hj : j < ss.length * 4 := by
        rw [← frs_length]; exact (List.getElem?_eq_some_iff.1 hu).1
      have hd : ss[j / 4]? = some (ss[j / 4]'(by omega)) := List.getElem?_eq_getElem (by omega)
      obtain ⟨p0, p1, p2, p3⟩ := frs_get hd
      have hc := (hss _ _ hd).1
      rw [eadd, eadd, eadd, eadd] at hc
      obtain ⟨q0, q1, q2, q3⟩ := hc
      have h4 : j % 4 = 0 ∨ j % 4 = 1 ∨ j % 4 = 2 ∨ j % 4 = 3 := by omega
      rcases h4 with h4 | h4 | h4 | h4
      · have ej : j / 4 * 4 = j := by omega
        rw [ej] at p0 q0
        rw [p0] at hu; injection hu with hu; rw [← hu]; exact q0
      · have ej : j / 4 * 4 + 1 = j := by omega
        rw [ej] at p1 q1
        rw [p1] at hu; injection hu with hu; rw [← hu]; exact q1
      · have ej : j / 4 * 4 + 2 = j := by omega
        rw [ej] at p2 q2
        rw [p2] at hu; injection hu with hu; rw [← hu]; exact q2
      · have ej : j / 4 * 4 + 3 = j := by omega
        rw [ej] at p3 q3
        rw [p3] at hu; injection hu with hu; rw [← hu]; exact q3
    · obtain ⟨i, hi⟩ := List.mem_iff_getElem?.1 hs
      exact (hss i s hi).2
end
end Go.Proofs.Ytciicolknphcnaa
