/- ThinSoundings: the plain law. -/
import Derived.Test.YtaimckepaldocaaGreatDoorSndOk
namespace Go.Proofs.YtaimckepaldocaaGreatDoor
open Go.RowKit
set_option maxRecDepth 100000
set_option linter.unusedVariables false
set_option linter.unusedSimpArgs false
set_option linter.unusedVariables false

theorem bdnG {w0 w : World} (h : Below w0.heap.size w0 w) (k : Nat) : Below w0.heap.size w0 (w.drewN k) := ⟨h.os, h.tape, h.output, h.size, h.block⟩

theorem field_low (a b : Int) (W : World) : (Instr.field 50 (.agg #[.int .i64 a, .int .i64 b]) 0).run Tryz.prog W = .ok (.int .i64 a) W := by kernel_rfl

def sq (z : Int) (t : I4) : Int × Int := (t.1 / z, t.2.1 / z)
/-- Sounding j goes before i in its square. -/
def beats (ss : List I4) (z : Int) (i j : Nat) : Bool := decide (sq z (at4 ss j) = sq z (at4 ss i)) && (decide (lowOf (at4 ss j) < lowOf (at4 ss i)) || decide (lowOf (at4 ss j) = lowOf (at4 ss i)) && decide (j < i))
def keepTo (ss : List I4) (z : Int) (i k : Nat) : Bool := (List.range k).all fun j => !beats ss z i j
theorem keepTo_succ (ss : List I4) (z : Int) (i k : Nat) : keepTo ss z i (k + 1) = (keepTo ss z i k && !beats ss z i k) := by simp [keepTo, List.range_succ, List.all_append]
def thinL (ss : List I4) (z : Int) : List Int := pick (fun i => keepTo ss z i ss.length) ss.length
def thin (ss : List I4) (z : Int) : List Int × Int := if sndsOk ss then (if inR 1 10000 z then (thinL ss z, 0) else ([], 2)) else ([], 1)
theorem thinL_len (ss : List I4) (z : Int) : (thinL ss z).length ≤ ss.length := pick_len _ _
theorem thin_len (ss : List I4) (z : Int) : (thin ss z).1.length ≤ ss.length := by
  unfold thin; split
  · split
    · exact thinL_len ss z
    · simp
  · simp
theorem beats_no1 {ss : List I4} {z : Int} {i j : Nat} (h : sq z (at4 ss j) ≠ sq z (at4 ss i)) : beats ss z i j = false := by simp [beats, h]
theorem beats_yes1 {ss : List I4} {z : Int} {i j : Nat} (h : sq z (at4 ss j) = sq z (at4 ss i)) (h2 : lowOf (at4 ss j) < lowOf (at4 ss i)) : beats ss z i j = true := by simp [beats, h, h2]
theorem beats_yes2 {ss : List I4} {z : Int} {i j : Nat} (h : sq z (at4 ss j) = sq z (at4 ss i)) (h2 : lowOf (at4 ss j) = lowOf (at4 ss i)) (h3 : j < i) : beats ss z i j = true := by simp [beats, h, h2, h3]
theorem beats_no2 {ss : List I4} {z : Int} {i j : Nat} (h2 : ¬ lowOf (at4 ss j) < lowOf (at4 ss i)) (h3 : lowOf (at4 ss j) ≠ lowOf (at4 ss i)) : beats ss z i j = false := by simp [beats, h2, h3]
theorem beats_no3 {ss : List I4} {z : Int} {i j : Nat} (h2 : ¬ lowOf (at4 ss j) < lowOf (at4 ss i)) (h3 : ¬ j < i) : beats ss z i j = false := by simp [beats, h2, h3]
end Go.Proofs.YtaimckepaldocaaGreatDoor
