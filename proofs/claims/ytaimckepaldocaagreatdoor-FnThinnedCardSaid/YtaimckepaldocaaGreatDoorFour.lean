/- Slices of structs of four integers: plain lemmas. -/
import Derived.Test.YtaimckepaldocaaGreatDoorPair
namespace Go.Proofs.YtaimckepaldocaaGreatDoor
open Go.RowKit
set_option maxRecDepth 100000
set_option linter.unusedVariables false

abbrev I4 := Int × Int × Int × Int
def frs (ss : List I4) : List Value := ss.flatMap fun s => [.int .i64 s.1, .int .i64 s.2.1, .int .i64 s.2.2.1, .int .i64 s.2.2.2]
theorem frs_length (ss : List I4) : (frs ss).length = ss.length * 4 := by
  induction ss with
  | nil => rfl
  | cons a t ih => simp only [frs, List.flatMap_cons, List.length_append, List.length_cons, List.length_nil] at ih ⊢; omega
theorem frs_app (xs ys : List I4) : frs (xs ++ ys) = frs xs ++ frs ys := by simp [frs]
theorem frs_one (xs : List I4) : ∀ u ∈ frs xs, u.oneCell' = true := by
  intro u hu; simp [frs] at hu; obtain ⟨a, b, c, d, _, h | h | h | h⟩ := hu <;> (subst h; rfl)
theorem frs_get {ss : List I4} {k : Nat} {s : I4} (h : ss[k]? = some s) : (frs ss)[k * 4]? = some (.int .i64 s.1) ∧ (frs ss)[k * 4 + 1]? = some (.int .i64 s.2.1) ∧ (frs ss)[k * 4 + 2]? = some (.int .i64 s.2.2.1) ∧ (frs ss)[k * 4 + 3]? = some (.int .i64 s.2.2.2) := by
  induction ss generalizing k with
  | nil => simp at h
  | cons a t ih =>
    cases k with
    | zero => simp at h; subst h; simp [frs]
    | succ k =>
      simp at h
      have := ih h
      simp only [frs, List.flatMap_cons, List.cons_append, List.nil_append] at this ⊢
      rw [show (k + 1) * 4 = k * 4 + 1 + 1 + 1 + 1 from by omega]
      simpa using this

section
variable {w w' : World} {n : Nat} {a : Option Addr} {ss : List I4} {vs : List Value}
theorem Row.len4 (h : Row w 4 a n (frs ss)) : ss.length = n := by have := h.1; rw [frs_length] at this; omega
theorem Row.below4 (h : Row w 4 a n vs) {B : Nat} (hb : Below B w w') (hB : w.heap.size ≤ B) : Row w' 4 a n vs := h.keep (fun b _ _ hl => hb.block b (by omega)) (by omega)
theorem Row.alloc4 (h : Row w 4 a n vs) (o : Obj) : Row (w.alloc o) 4 a n vs := h.below4 ((Below.refl _ _).alloc (Nat.le_refl _) o) (Nat.le_refl _)
theorem Row.get4_ {b off k : Nat} {x y z u : Int} (h : Row w 4 (some ⟨b, off, none⟩) n (frs ss)) (hx : ss[k]? = some (x, y, z, u)) :
    w.cell? ⟨b, off + k * 4, none⟩ = some (.int .i64 x) ∧ w.cell? ⟨b, off + k * 4 + 1, none⟩ = some (.int .i64 y) ∧ w.cell? ⟨b, off + k * 4 + 2, none⟩ = some (.int .i64 z) ∧ w.cell? ⟨b, off + k * 4 + 3, none⟩ = some (.int .i64 u) := by
  have hn : 0 < n := by have := h.len4; have := (List.getElem?_eq_some_iff.1 hx).1; omega
  obtain ⟨b', off', e, hc⟩ := h.2 hn
  injection e with e
  injection e with e1 e2 _
  subst e1; subst e2
  obtain ⟨g0, g1, g2, g3⟩ := frs_get hx
  exact ⟨hc _ _ g0, by rw [Nat.add_assoc]; exact hc _ _ g1, by rw [Nat.add_assoc]; exact hc _ _ g2, by rw [Nat.add_assoc]; exact hc _ _ g3⟩
theorem Row.at4 {k : Nat} (h : Row w 4 a n (frs ss)) (hk : k < n) :
    ∃ b off x y z u, a = some ⟨b, off, none⟩ ∧ (w.cell? ⟨b, off + k * 4, none⟩ = some (.int .i64 x) ∧ w.cell? ⟨b, off + k * 4 + 1, none⟩ = some (.int .i64 y) ∧ w.cell? ⟨b, off + k * 4 + 2, none⟩ = some (.int .i64 z) ∧ w.cell? ⟨b, off + k * 4 + 3, none⟩ = some (.int .i64 u)) ∧ Hid (ss[k]? = some (x, y, z, u)) := by
  have hl := h.len4
  obtain ⟨b, off, e, -⟩ := h.2 (by omega)
  have hx : ss[k]? = some ss[k] := List.getElem?_eq_getElem (by omega)
  subst e
  exact ⟨b, off, ss[k].1, ss[k].2.1, ss[k].2.2.1, ss[k].2.2.2, rfl, h.get4_ hx, hx⟩
end

def Arr4 (w : World) (a : Option Addr) (n : Nat) (ss : List I4) : Prop := Row w 4 a n (frs ss) ∧ n ≤ maxLen ∧ ∀ s ∈ ss, I64 s.1 ∧ I64 s.2.1 ∧ I64 s.2.2.1 ∧ I64 s.2.2.2

/-- The first k structs are written, the rest is as it was. -/
def FrInv (ss : List I4) (k : Nat) (vs : List Value) : Prop := ∃ rest, vs = frs (ss.take k) ++ rest
theorem FrInv.done {ss : List I4} {k n : Nat} {vs : List Value} (h : FrInv ss k vs) (hl : ss.length = n) (hv : vs.length = n * 4) (hk : k ≤ n) (hlt : ¬ k < n) : vs = frs ss := by
  obtain ⟨rest, rfl⟩ := h
  rw [take_done hl hk hlt] at hv ⊢
  rw [List.length_append, frs_length] at hv
  have : rest = [] := List.eq_nil_of_length_eq_zero (by omega)
  simp [this]
theorem FrInv.step {ss : List I4} {k n : Nat} {vs : List Value} {x y z u : Int} (h : FrInv ss k vs) (hv : vs.length = n * 4) (hlt : k < n) (hl : ss.length = n) (hx : ss[k]? = some (x, y, z, u)) :
    FrInv ss (k + 1) ((((vs.set (k * 4) (.int .i64 x)).set (k * 4 + 1) (.int .i64 y)).set (k * 4 + 2) (.int .i64 z)).set (k * 4 + 3) (.int .i64 u)) := by
  obtain ⟨rest, rfl⟩ := h
  have hlen : (frs (ss.take k)).length = k * 4 := by rw [frs_length, List.length_take]; omega
  rw [List.length_append, hlen] at hv
  obtain ⟨a, t, rfl⟩ : ∃ a t, rest = a :: t := by cases rest with | nil => simp at hv; omega | cons a t => exact ⟨a, t, rfl⟩
  obtain ⟨b, t, rfl⟩ : ∃ b t', t = b :: t' := by cases t with | nil => simp at hv; omega | cons a t => exact ⟨a, t, rfl⟩
  obtain ⟨c, t, rfl⟩ : ∃ b t', t = b :: t' := by cases t with | nil => simp at hv; omega | cons a t => exact ⟨a, t, rfl⟩
  obtain ⟨d, t, rfl⟩ : ∃ b t', t = b :: t' := by cases t with | nil => simp at hv; omega | cons a t => exact ⟨a, t, rfl⟩
  refine ⟨t, ?_⟩
  rw [take_snoc hx, frs_app, List.append_assoc, List.set_append_right _ _ (by omega), hlen, Nat.sub_self, List.set_cons_zero, List.set_append_right _ _ (by omega), hlen, show k * 4 + 1 - k * 4 = 1 from by omega, List.set_append_right _ _ (by omega), hlen, show k * 4 + 2 - k * 4 = 2 from by omega, List.set_append_right _ _ (by omega), hlen, show k * 4 + 3 - k * 4 = 3 from by omega]
  rfl

def marks4 (m : Int) (n : Nat) : List I4 := (List.range n).map fun (j : Nat) => (m + 4 * (j : Int), m + 4 * (j : Int) + 1, m + 4 * (j : Int) + 1 + 1, m + 4 * (j : Int) + 1 + 1 + 1)
theorem marks4_length (k : Int) (n : Nat) : (marks4 k n).length = n := by simp [marks4]
theorem marks4_get (m : Int) {n j : Nat} (h : j < n) : (marks4 m n)[j]? = some (m + 4 * (j : Int), m + 4 * (j : Int) + 1, m + 4 * (j : Int) + 1 + 1, m + 4 * (j : Int) + 1 + 1 + 1) := by simp [marks4, h]
end Go.Proofs.YtaimckepaldocaaGreatDoor
