/- Plain facts of the counts of weights, for FnDistances. -/
import Derived.Test.YtbdlihocnpppaaaWeights
import Derived.Test.YtbdlihocnpppaaaPEnc
namespace Go.Proofs.Ytbdlihocnpppaaa
open Go.RowKit
set_option maxRecDepth 100000
set_option linter.unusedVariables false

theorem count_facts : ∀ n, n < 11 → (countN n).sum = 2 ^ n ∧ (countN n)[0]? = some 1 ∧ (countN n)[1]? = some 0 ∧ (countN n)[2]? = some 0 ∧ (countN n)[3]? = some 0 ∧ (countN n)[4]? = some 0 := by decide +kernel

theorem enc_zero : ∀ k : Nat, (enc 0 (List.replicate k 0)).sum = 0
  | 0 => rfl
  | k + 1 => by
    rw [List.replicate_succ, enc, show nxt 0 0 = 0 by decide, show out1 0 0 = 0 by decide, show out2 0 0 = 0 by decide]
    simp [enc_zero k]
theorem enc_unit (j : Nat) : ∀ i : Nat, (enc 0 (List.replicate i 0 ++ 1 :: List.replicate (j + 2) 0)).sum = 5
  | 0 => by
    rw [List.replicate_zero, List.nil_append, List.replicate_succ, List.replicate_succ, enc, enc, enc]
    have h3 : nxt (nxt (nxt 0 1) 0) 0 = 0 := by decide
    have h4 : out1 0 1 + out2 0 1 + out1 (nxt 0 1) 0 + out2 (nxt 0 1) 0 + out1 (nxt (nxt 0 1) 0) 0 + out2 (nxt (nxt 0 1) 0) 0 = 5 := by decide
    rw [h3]
    simp only [List.sum_cons, enc_zero j]
    omega
  | i + 1 => by
    rw [List.replicate_succ, List.cons_append, enc, show nxt 0 0 = 0 by decide, show out1 0 0 = 0 by decide, show out2 0 0 = 0 by decide]
    simp only [List.sum_cons, enc_unit j i]
    omega
theorem dist_xor : ∀ {xs ys : List Int}, xs.length = ys.length → Bits xs → Bits ys → dist xs ys = (List.zipWith xorI xs ys).sum
  | [], [], _, _, _ => rfl
  | [], b :: u, h, _, _ => by simp at h
  | a :: v, [], h, _, _ => by simp at h
  | a :: v, b :: u, h, hx, hy => by
    have ha := hx a (by simp)
    have hb := hy b (by simp)
    have ih := dist_xor (xs := v) (ys := u) (by simpa using h) (fun x h' => hx x (List.mem_cons_of_mem _ h')) (fun x h' => hy x (List.mem_cons_of_mem _ h'))
    rw [dist, List.zipWith_cons_cons, List.sum_cons, ih]
    unfold xorI
    split <;> omega

theorem xor_unit : ∀ {ms : List Int} {i : Nat} {x : Int}, ms[i]? = some x → Bits ms → List.zipWith xorI ms (ms.set i (1 - x)) = List.replicate i 0 ++ 1 :: List.replicate (ms.length - i - 1) 0
  | [], i, x, h, _ => by simp at h
  | a :: t, 0, x, h, hb => by
    simp at h
    subst h
    have ha := hb a (by simp)
    have e : ∀ u : List Int, Bits u → List.zipWith xorI u u = List.replicate u.length 0 := by
      intro u
      induction u with
      | nil => intro _; rfl
      | cons c v ih =>
        intro hu
        rw [List.zipWith_cons_cons, ih (fun x h' => hu x (List.mem_cons_of_mem _ h')), List.length_cons, List.replicate_succ]
        congr 1
        unfold xorI; omega
    have h1 : xorI a (1 - a) = 1 := by unfold xorI; omega
    rw [List.set_cons_zero, List.zipWith_cons_cons, h1, e t (fun x h' => hb x (List.mem_cons_of_mem _ h'))]
    simp
  | a :: t, i + 1, x, h, hb => by
    have ih := xor_unit (ms := t) (i := i) (x := x) (by simpa using h) (fun x h' => hb x (List.mem_cons_of_mem _ h'))
    have h1 : xorI a a = 0 := by unfold xorI; omega
    rw [List.set_cons_succ, List.zipWith_cons_cons, h1, ih, List.replicate_succ, List.cons_append]
    congr 3
    simp
theorem dist_unit {ms : List Int} {i : Nat} {x : Int} (hx : ms[i]? = some x) (hok : listOk 300 0 1 ms = true) :
    codeDistance (encL ms) (encL (ms.set i (1 - x))) = (5, 0) ∧ encodeBits (ms.set i (1 - x)) = (encL (ms.set i (1 - x)), 0) := by
  have hb := Bits.of hok
  have hl : (ms.length : Int) ≤ 300 := listOk_le hok rfl
  have hil : i < ms.length := (List.getElem?_eq_some_iff.1 hx).1
  have hxb := hb.get hx
  have hb2 : Bits (ms.set i (1 - x)) := by
    intro y hy
    rcases List.mem_or_eq_of_mem_set hy with h | h
    · exact hb y h
    · subst h; omega
  have hlen : (ms.set i (1 - x)).length = ms.length := by simp
  have h1 : listOk 604 0 1 (encL ms) = true := listOk_mk (enc_bits' _ _) (by rw [encL_len]; omega)
  have h2 : listOk 604 0 1 (encL (ms.set i (1 - x))) = true := listOk_mk (enc_bits' _ _) (by rw [encL_len, hlen]; omega)
  have h3 : (encL ms).length = (encL (ms.set i (1 - x))).length := by rw [encL_len, encL_len, hlen]
  refine ⟨?_, encodeBits_yes (listOk_mk hb2 (by rw [hlen]; omega))⟩
  have hd : dist (encL ms) (encL (ms.set i (1 - x))) = 5 := by
    rw [dist_xor h3 (enc_bits' _ _) (enc_bits' _ _), ← encL_sum2 (by rw [hlen]) hb hb2, xor_unit hx hb, encL]
    have := enc_unit (ms.length - i - 1) i
    rw [List.append_assoc, List.cons_append, ← List.replicate_append_replicate (n := ms.length - i - 1) (m := 2)] at *
    exact this
  simp [codeDistance, h1, h2, h3, hd]
end Go.Proofs.Ytbdlihocnpppaaa
