/- Slices of structs of two or four integers: plain lemmas for the helpers' contracts. -/
import Derived.Test.YtaimckepaldocaaGreatDoorInt
import Derived.Laws.MakeOwn
namespace Go.Proofs.YtaimckepaldocaaGreatDoor
open Go.RowKit
set_option maxRecDepth 100000
set_option linter.unusedVariables false

theorem run_make_rowN {P : Program} (t e : TypeId) (i : TypeInfo) (z : Value) (ht : P.underlying t = some (.slice e)) (hi : P.info? e = some i) (hz : i.zero = some z)
    (kl kc : IntKind) (n c : Nat) (hnc : n ≤ c) (hbytes : i.bytes * c ≤ 281474976710656) (h63 : c ≤ 9223372036854775807) (w : World) :
    (Instr.makeSlice t (.int kl (n : Int)) (.int kc (c : Int))).run P w = .ok (.slice (some ⟨w.heap.size, 0, none⟩) n c) (w.alloc (.cells (madeCells z.cells (c * i.size)) e)) := by
  have hb : (i.bytes : Int) * (c : Int) ≤ 281474976710656 := by
    have h : ((i.bytes * c : Nat) : Int) ≤ 281474976710656 := by omega
    rwa [Int.natCast_mul] at h
  have hr := run_make (P := P) w t e i z ht hi hz kl kc n c (by omega) (by omega) hb (by omega)
  simp only [Int.toNat_natCast] at hr
  exact hr

theorem run_make_rowK {P : Program} (t e : TypeId) {z : Value} {s bytes : Nat} (hinfo : (P.info? e).map (fun i => (i.zero, i.size, i.bytes)) = some (some z, s, bytes)) (ht : P.underlying t = some (.slice e))
    (n : Nat) (hbytes : bytes * n ≤ 281474976710656) (h63 : n ≤ 9223372036854775807) (w : World) :
    (Instr.makeSlice t (.int .i64 (n : Int)) (.int .i64 (n : Int))).run P w = .ok (.slice (some ⟨w.heap.size, 0, none⟩) n n) (w.alloc (.cells (madeCells z.cells (n * s)) e)) := by
  obtain ⟨i, hi, hz, hs, hb⟩ := info_parts hinfo
  subst hs; subst hb
  exact run_make_rowN t e i z ht hi hz .i64 .i64 n n (Nat.le_refl _) hbytes h63 w

theorem Own.madeK (w : World) (zc : Array Value) {n E s : Nat} (hn : n ≤ maxLen) : Own (w.alloc (.cells (madeCells zc (n * s)) E)) w.heap.size (w.heap.size + 1) E s (some ⟨w.heap.size, 0, none⟩) n n (madeCells zc (n * s)).toList :=
  ⟨World.ownsRow_lit w _ n (Nat.le_refl _) hn (by simp [size_madeCells]), fun g hg => by simp [Value.ownBlock] at hg; omega⟩

/-- The first k structs are written, the rest is as it was. -/
def PrInv (ss : List (Int × Int)) (k : Nat) (vs : List Value) : Prop := ∃ rest, vs = prs (ss.take k) ++ rest
theorem PrInv.done {ss : List (Int × Int)} {k n : Nat} {vs : List Value} (h : PrInv ss k vs) (hl : ss.length = n) (hv : vs.length = n * 2) (hk : k ≤ n) (hlt : ¬ k < n) : vs = prs ss := by
  obtain ⟨rest, rfl⟩ := h
  rw [take_done hl hk hlt] at hv ⊢
  rw [List.length_append, prs_length] at hv
  have : rest = [] := List.eq_nil_of_length_eq_zero (by omega)
  simp [this]
theorem PrInv.step {ss : List (Int × Int)} {k n : Nat} {vs : List Value} {x y : Int} (h : PrInv ss k vs) (hv : vs.length = n * 2) (hlt : k < n) (hl : ss.length = n) (hx : ss[k]? = some (x, y)) :
    PrInv ss (k + 1) ((vs.set (k * 2) (.int .i64 x)).set (k * 2 + 1) (.int .i64 y)) := by
  obtain ⟨rest, rfl⟩ := h
  have hlen : (prs (ss.take k)).length = k * 2 := by rw [prs_length, List.length_take]; omega
  rw [List.length_append, hlen] at hv
  obtain ⟨a, t, rfl⟩ : ∃ a t, rest = a :: t := by cases rest with | nil => simp at hv; omega | cons a t => exact ⟨a, t, rfl⟩
  obtain ⟨b, t, rfl⟩ : ∃ b t', t = b :: t' := by cases t with | nil => simp at hv; omega | cons a t => exact ⟨a, t, rfl⟩
  refine ⟨t, ?_⟩
  rw [take_snoc hx, prs_app, List.append_assoc, List.set_append_right _ _ (by omega), hlen, Nat.sub_self, List.set_cons_zero, List.set_append_right _ _ (by omega), hlen, show k * 2 + 1 - k * 2 = 1 from by omega]
  rfl

def marks2 (m : Int) (n : Nat) : List (Int × Int) := (List.range n).map fun (j : Nat) => (m + 2 * (j : Int), m + 2 * (j : Int) + 1)
theorem marks2_length (k : Int) (n : Nat) : (marks2 k n).length = n := by simp [marks2]
theorem marks2_get (m : Int) {n j : Nat} (h : j < n) : (marks2 m n)[j]? = some (m + 2 * (j : Int), m + 2 * (j : Int) + 1) := by simp [marks2, h]

end Go.Proofs.YtaimckepaldocaaGreatDoor
