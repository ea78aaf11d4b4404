/- slices.Grow of an empty slice, slices.Concat of lists of integers. -/
import Derived.Test.YtmljcbfpennjkaaLib
import Derived.Outline
namespace Go.Proofs.Ytmljcbfpennjkaa
open Go.RowKit
set_option maxRecDepth 100000
set_option linter.unusedVariables false

section
variable {P : Program} (w : World)

/-- 'append(nil, make([]E, n)...)'. -/
theorem run_append_zeros (t u ty e : TypeId) (i : TypeInfo) (z : Value) (ht : P.underlying t = some (.slice e)) (hu : P.underlying u = some (.int .i64)) (hi : P.info? e = some i) (hz : i.zero = some z) (hs : i.size = 1) (hz1 : z.cells.size = 1)
    (n : Nat) (h0 : 0 < n) (h63 : (n : Int) ≤ 9223372036854775807) (h48 : n * i.bytes ≤ 281474976710656) :
    (Builtin.append_ #[t, u] ty #[.slice none 0 0, .int .i64 (n : Int)]).run P w =
      .ok (.slice (some ⟨w.heap.size, 0, none⟩) n (grownCap w n 0 e)) (w.drew.alloc (.cells (Builtin.zeroCells z.cells n ++ Builtin.zeroCells z.cells (grownCap w n 0 e - n)) e)) := by
  have hn : n ≠ 0 := by omega
  have hn1 : ¬ (n * i.size = 0) := by rw [hs]; omega
  have h63' : ¬ (9223372036854775807 < (n : Int)) := by omega
  have h48' : ¬ (281474976710656 < Builtin.nextslicecap n 0 * i.bytes) := by rw [nextslicecap_zero h0]; omega
  have hwr : IntKind.i64.wrap (n : Int) = n := by rw [IntKind.wrap_i64]; omega
  have hneg : ¬ ((n : Int) < 0) := by omega
  have h48'' : ¬ (281474976710656 < (n : Int) * (i.bytes : Int)) := by
    have h := Int.ofNat_le.2 h48
    rw [Int.natCast_mul] at h
    omega
  simp [Builtin.append_, run_underlying ht, run_underlying hu, asInt, asIntOf, sizeOf, typeInfo, zeroValue, hi, hz, Builtin.lenOf, Builtin.firstCells, hn, h63', h48', Question.forced, newRow, grownCap, hwr, hneg, h48'', hs]

theorem wpList_appZeros {ops : Array Oper} {rest : List Oper} {o : Oper} {a : Act} {Q : Exit → Act → World → Prop} (hgd : o.guard = none) (x y : Operand) (t u : TypeId)
    (ho : o.op = .call { callee := .builtin .append, args := #[x, y], argTypes := #[t, u] })
    {E : TypeId} {z : Value} {bytes : Nat} (ht : P.underlying t = some (.slice E)) (hu : P.underlying u = some (.int .i64)) (hinfo : (P.info? E).map (fun i => (i.zero, i.size, i.bytes)) = some (some z, 1, bytes)) (hz1 : z.cells.size = 1)
    (hx : a.eval x = .slice none 0 0) {n : Nat} (hy : a.eval y = .int .i64 (n : Int)) (h0 : 0 < n) (hn : n ≤ maxLen) (hb : n * bytes ≤ 140737488355328)
    (h : ∀ c2 w', Own w' w.heap.size w'.heap.size E 1 (some ⟨w.heap.size, 0, none⟩) 0 c2 [] → n ≤ c2 → c2 ≤ maxLen → Below w.heap.size w w' → wpList P ops Q rest (a.put o.dst (.slice (some ⟨w.heap.size, 0, none⟩) n c2)) w') : wpList P ops Q (o :: rest) a w := by
  refine wpList_plain hgd fun K hK => ?_
  obtain ⟨i, hi, hz, hs, hbb⟩ := info_parts hinfo
  have hrun := run_append_zeros (P := P) w t u o.type E i z ht hu hi hz hs hz1 n h0 (by unfold maxLen at hn; omega) (by rw [hbb]; omega)
  have hge := grownCap_ge w n 0 E
  have hle := grownCap_le_maxLen w n 0 E hn
  unfold Oper.wp
  simp [execOp, ho, resolve, invoke, builtin, hx, hy, hrun, Result.andThen]
  refine hK _ _ (h _ _ ?_ hge hle ?_)
  · refine ⟨?_, fun g hg => by simp [Value.ownBlock] at hg; simp; omega⟩
    have := World.ownsRow_made (base := w.heap.size) (e := E) (size := 1) w.drew (Builtin.zeroCells z.cells n ++ Builtin.zeroCells z.cells (grownCap w n 0 E - n)) (grownCap w n 0 E) (Nat.le_refl _) hle (by simp [size_zeroCells, hz1]; omega)
    exact this
  · exact (Below.refl _ _).drew.alloc (Nat.le_refl _) _
end

theorem grow_any (n : Nat) (w : World) (h0 : 0 < n) (hn : n ≤ 1048576) :
    Calls Try.prog 86 #[.slice none 0 0, .int .i64 (n : Int)] w fun e w' => ∃ c, e = .returned (.slice (some ⟨w.heap.size, 0, none⟩) 0 c) ∧ Own w' w.heap.size w'.heap.size 2 1 (some ⟨w.heap.size, 0, none⟩) 0 c [] ∧ Below w.heap.size w w' := by
  have h1 : (0 : Int) < (n : Int) := by omega
  go_enter Try.func86, Try.ntmps86
  go_wp2_with (at_builtin; refine wpList_appZeros _ rfl (.tmp 20) (.tmp 21) _ _ rfl Try.underlying22 Try.underlying3 info_i64 rfl rfl rfl h0 (by simp only [maxLen]; omega) (by omega) ?_; intro c2 w2 O2 hc1 hc2 hb2; simp only [maxLen] at hc2)
  go_ret
  exact ⟨c2, rfl, O2, hb2⟩

/-- Slices as the cells that hold them. -/
abbrev Part := Option Addr × Nat × Nat × List Int
def parts (ps : List Part) : List Value := ps.map fun p => .slice p.1 p.2.1 p.2.2.1
def sumP (ps : List Part) : Nat := (ps.map fun p => p.2.1).sum
def joinP (ps : List Part) : List Int := ps.flatMap fun p => p.2.2.2
theorem parts_get {ps : List Part} {k : Nat} {p : Part} (h : ps[k]? = some p) : (parts ps)[k]? = some (.slice p.1 p.2.1 p.2.2.1) := by simp [parts, h]
theorem sumP_snoc {ps : List Part} {k : Nat} {p : Part} (h : ps[k]? = some p) : sumP (ps.take (k + 1)) = sumP (ps.take k) + p.2.1 := by rw [take_snoc h]; simp [sumP]
theorem joinP_snoc {ps : List Part} {k : Nat} {p : Part} (h : ps[k]? = some p) : joinP (ps.take (k + 1)) = joinP (ps.take k) ++ p.2.2.2 := by rw [take_snoc h]; simp [joinP]
theorem sumP_app (a b : List Part) : sumP (a ++ b) = sumP a + sumP b := by simp [sumP]
theorem sumP_le {ps : List Part} (k : Nat) : sumP (ps.take k) ≤ sumP ps := by
  have := sumP_app (ps.take k) (ps.drop k)
  rw [List.take_append_drop] at this
  omega

def RowsOf (w : World) (ps : List Part) : Prop := ∀ p ∈ ps, Row w 1 p.1 p.2.1 (ints p.2.2.2)
theorem RowsOf.below {w w' : World} {ps : List Part} (h : RowsOf w ps) {B : Nat} (hb : Below B w w') (hB : w.heap.size ≤ B) : RowsOf w' ps := fun p hp => (h p hp).below hb hB
theorem Row.atP {w : World} {a : Option Addr} {n k : Nat} {ps : List Part} (h : Row w 1 a n (parts ps)) (hk : k < n) :
    ∃ b off a' m c xs, a = some ⟨b, off, none⟩ ∧ w.cell? ⟨b, off + k, none⟩ = some (.slice a' m c) ∧ Hid (ps[k]? = some (a', m, c, xs)) := by
  have hl : ps.length = n := by have := h.1; simpa [parts] using this
  obtain ⟨b, off, e, hc⟩ := h.2 (by omega)
  have hx : ps[k]? = some ps[k] := List.getElem?_eq_getElem (by omega)
  exact ⟨b, off, ps[k].1, ps[k].2.1, ps[k].2.2.1, ps[k].2.2.2, e, hc k _ (parts_get hx), hx⟩

set_option maxHeartbeats 1600000 in
theorem concat_any (a : Option Addr) (n c : Nat) (ps : List Part) (w : World) (h : Row w 1 a n (parts ps)) (hps : RowsOf w ps) (hn : n ≤ 1048576) (h0 : 0 < sumP ps) (hs : sumP ps ≤ 1048576) :
    Calls Try.prog 72 #[.slice a n c] w fun e w' => ∃ a' m c', e = .returned (.slice a' m c') ∧ Own w' w.heap.size w'.heap.size 2 1 a' m c' (ints (joinP ps)) ∧ Below w.heap.size w w' := by
  have hl : ps.length = n := by have := h.1; simpa [parts] using this
  have HL := Lib.hid hl
  have HP := Lib.hid hps
  have HT := Lib.hid (sumP_le (ps := ps))
  clear hl hps
  obtain ⟨S, hS⟩ : ∃ S, sumP ps = S := ⟨_, rfl⟩
  rw [hS] at h0 hs
  have HS := Lib.hid hS
  clear hS
  go_enter Try.func72, Try.ntmps72
  go_wp2
  go_loop [3, 5, 11] (fun s _ i => ∃ k : Nat, k ≤ n ∧ i = .int .i64 k ∧ s = .int .i64 (sumP (ps.take k) : Nat)) (fun _ _ i => n - (intOf i).toNat)
  case atStart => exact ⟨0, Nat.zero_le _, rfl, by simp [sumP]⟩
  case round =>
    obtain ⟨k, hk, rfl, rfl⟩ := hrel
    by_cases hlt : k < n
    · obtain ⟨b, off, a', m, c', xs, rfl, hc, hx⟩ := h.atP hlt
      have hsn := sumP_snoc hx.out
      have hle := HT.out (k + 1)
      rw [HS.out] at hle
      rw [hsn] at hle
      simp only at hle
      obtain ⟨q, hq⟩ : ∃ q, sumP (ps.take k) = q := ⟨_, rfl⟩
      rw [hq] at hle hsn ⊢
      have HSN := Lib.hid hsn
      clear hsn hq
      go_wp2
      go_round
      case rel => exact ⟨k + 1, by omega, by go_num, by rw [HSN.out]; go_num⟩
      case measure => simp [intOf] <;> omega
    · obtain rfl : k = n := by omega
      have hfull : sumP (ps.take k) = S := by rw [List.take_of_length_le (by have := HL.out; omega)]; exact HS.out
      rw [hfull]
      clear hfull
      go_wp2_with fail
      go_at_call 86
      refine (grow_any _ _ h0 hs).mono ?_
      rintro e w1 ⟨c1, rfl, O, B⟩
      go_wp2
      go_loopw [6, 8, 27] (fun o _ i wr => ∃ (j q cp : Nat) (a' : Option Addr), j ≤ k ∧ i = .int .i64 j ∧ o = .slice a' q cp ∧ Own wr w.heap.size wr.heap.size 2 1 a' q cp (ints (joinP (ps.take j))) ∧ Hid (q = sumP (ps.take j)) ∧ Below w.heap.size w wr) (fun _ _ i _ => k - (intOf i).toNat)
      case atStart => exact ⟨0, 0, _, _, Nat.zero_le _, rfl, rfl, by simpa [joinP, ints] using O, by unfold Hid; simp [sumP], B⟩
      case round =>
        clear O B
        obtain ⟨j, q, cp, a1, hj, rfl, rfl, O, hq, B⟩ := hrel
        have hzs := B.size
        by_cases hjt : j < k
        · obtain ⟨b, off, a', m, c', xs, rfl, hc, hx⟩ := (h.below B (Nat.le_refl _)).atP hjt
          have hr := (HP.out.below B (Nat.le_refl _)) _ (List.mem_of_getElem? hx.out)
          have hle : q + m ≤ 1048576 := by
            have h1 := HT.out (j + 1)
            have h2 := sumP_snoc hx.out
            have h3 := hq.out
            have h4 := HS.out
            simp only at h2
            omega
          have HJ := Lib.hid (joinP_snoc hx.out)
          have HQ := Lib.hid (show q + m = sumP (ps.take (j + 1)) by have h2 := sumP_snoc hx.out; have h3 := hq.out; simp only at h2; omega)
          clear hx hq
          go_wp2_with (at_builtin; refine wpList_app0 _ rfl (.tmp 31) (.tmp 32) _ rfl Try.underlying22 info_i64 rfl (by decide) rfl O (Nat.le_refl _) rfl hr (ints_one _) (by simp only [maxLen]; omega) (by omega) hzs ?_; intro A2 c2 w2 O2 hb2 _)
          go_roundw
          case rel => exact ⟨j + 1, _, _, _, by omega, by go_num, rfl, by rw [HJ.out, ints_app]; exact O2, HQ.out, B.trans hb2⟩
          case measure => simp [intOf] <;> omega
        · obtain rfl : j = k := by omega
          go_wp2
          go_ret
          rw [List.take_of_length_le (by have := HL.out; omega)] at O
          exact ⟨_, _, _, rfl, O, B⟩
end Go.Proofs.Ytmljcbfpennjkaa
