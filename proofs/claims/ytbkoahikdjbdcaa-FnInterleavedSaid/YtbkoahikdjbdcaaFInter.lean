/- FnInterleaved: the plain law, and what is drawn. -/
import Derived.Test.YtbkoahikdjbdcaaIleave
import Derived.Test.YtbkoahikdjbdcaaPlacesFn
import Derived.Test.YtbkoahikdjbdcaaDrawBits
import Derived.Test.YtbkoahikdjbdcaaOpenY
namespace Go.Proofs.Ytbkoahikdjbdcaa
open Go.RowKit
set_option maxRecDepth 100000
set_option linter.unusedVariables false

theorem listOk_mk {most lo hi : Int} {xs : List Int} (h : ∀ x ∈ xs, lo ≤ x ∧ x ≤ hi) (hl : (xs.length : Int) ≤ most) : listOk most lo hi xs = true := by
  simp only [listOk, Bool.and_eq_true, List.all_eq_true, decide_eq_true_eq, inR]
  exact ⟨fun x hx => h x hx, hl⟩
theorem tabCode_mk {xs : List Int} {r c : Int} (h1 : listOk 1200 0 1 xs = true) (h2 : tableOk r c = true) (h3 : r * c = xs.length) : tabCode xs r c = 0 := by
  simp [tabCode, h1, h2, h3]

/-- What the law asks of valid bits. -/
theorem inter_facts {xs : List Int} {r c : Int} (h : tabCode xs r c = 0) :
    sortBits (interleaveBits xs r c).1 r c = (xs, 0) ∧ tableOk r c = true ∧ (placesL r c).length = xs.length ∧ (interleaveBits xs r c).1.length = xs.length ∧
    ∀ t, t < xs.length → ∃ (q : Nat) (x : Int), (placesL r c)[t]? = some (q : Int) ∧ q < xs.length ∧ xs[q]? = some x ∧ (interleaveBits xs r c).1[t]? = some x := by
  obtain ⟨h1, h2, h3⟩ := tabCode_yes h
  obtain ⟨g1, g2, -⟩ := tableOk_true h2
  have hi : interleaveBits xs r c = (ileave xs (placesL r c), 0) := by simp [interleaveBits, h]
  rw [hi]
  obtain ⟨R, rfl⟩ := Int.eq_ofNat_of_zero_le (show 0 ≤ r by omega)
  obtain ⟨C, rfl⟩ := Int.eq_ofNat_of_zero_le (show 0 ≤ c by omega)
  have hlen : xs.length = R * C := by have : ((R * C : Nat) : Int) = xs.length := by rw [← h3]; simp
                                      omega
  have hcr : C * R = R * C := Nat.mul_comm _ _
  simp only [placesL, Int.toNat_natCast]
  have hpl : (placesTo R C C).length = R * C := by rw [placesTo_length]; exact hcr
  have hyl : (ileave xs (placesTo R C C)).length = C * R := by rw [ileave_len, hpl, hcr]
  have hget : ∀ t, t < C * R → (ileave xs (placesTo R C C))[t]? = xs[plc R C t]? := fun t ht => ileave_get ht hlen
  refine ⟨?_, h2, by omega, by omega, ?_⟩
  · have hb : listOk 1200 0 1 (ileave xs (placesTo R C C)) = true := by
      refine listOk_mk (fun x hx => ?_) ?_
      · obtain ⟨t, ht⟩ := List.mem_iff_getElem?.1 hx
        have htl : t < C * R := by have := (List.getElem?_eq_some_iff.1 ht).1; omega
        rw [hget t htl] at ht
        exact listOk_get h1 ht
      · have : (xs.length : Int) ≤ 1200 := listOk_le h1 rfl
        omega
    have ht : tabCode (ileave xs (placesTo R C C)) (R : Int) (C : Int) = 0 := tabCode_mk hb h2 (by rw [h3]; omega)
    have hs : sortBits (ileave xs (placesTo R C C)) (R : Int) (C : Int) = (ileave (ileave xs (placesTo R C C)) (placesL (C : Int) (R : Int)), 0) := by simp [sortBits, ht]
    rw [hs]
    simp only [placesL, Int.toNat_natCast]
    congr 1
    refine List.ext_getElem? fun t => ?_
    rcases Nat.lt_or_ge t (R * C) with hlt | hge
    · rw [ileave_get (R := C) (C := R) hlt hyl]
      have hq : plc C R t < C * R := plc_lt hlt
      rw [hget _ hq, plc_inv (R := C) (C := R) hlt]
    · rw [List.getElem?_eq_none (by rw [ileave_len, placesTo_length]; omega), List.getElem?_eq_none (by omega)]
  · intro t ht
    have htl : t < C * R := by omega
    have hq := plc_lt htl
    have hx : xs[plc R C t]? = some xs[plc R C t] := List.getElem?_eq_getElem (by omega)
    exact ⟨plc R C t, _, placesTo_get C t htl, by omega, hx, by rw [hget t htl]; exact hx⟩
end Go.Proofs.Ytbkoahikdjbdcaa
