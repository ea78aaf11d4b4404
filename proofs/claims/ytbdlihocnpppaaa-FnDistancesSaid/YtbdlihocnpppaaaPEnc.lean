/- Plain laws of the code: a message is restored; sums of codes are codes of sums. No program in sight. -/
import Derived.Test.YtbdlihocnpppaaaEncode
namespace Go.Proofs.Ytbdlihocnpppaaa
open Go.RowKit
set_option maxRecDepth 100000
set_option linter.unusedVariables false

theorem listOk_mk {most lo hi : Int} {xs : List Int} (h : ∀ x ∈ xs, lo ≤ x ∧ x ≤ hi) (hl : (xs.length : Int) ≤ most) : listOk most lo hi xs = true := by
  simp only [listOk, Bool.and_eq_true, List.all_eq_true, decide_eq_true_eq, inR]
  exact ⟨fun x hx => h x hx, hl⟩
theorem enc_bits' : ∀ (xs : List Int) (s : Int), Bits (enc s xs)
  | [], _ => by intro x hx; simp [enc] at hx
  | b :: t, s => by
    intro x hx
    have h := out_rng s b
    rw [enc] at hx
    rcases List.mem_cons.1 hx with rfl | hx
    · exact h.1
    · rcases List.mem_cons.1 hx with rfl | hx
      · exact h.2
      · exact enc_bits' t _ x hx
theorem unm_enc : ∀ (xs : List Int) (s : Int), Bits xs → 0 ≤ s → s ≤ 3 → unm s (enc s (xs ++ [0, 0])) = xs
  | [], s, _, _, _ => by simp [enc, unm]
  | b :: t, s, hb, h0, h3 => by
    have hbb := hb b (by simp)
    have ht : Bits t := fun x hx => hb x (List.mem_cons_of_mem _ hx)
    have hn := nxt_rng h0 h3 hbb.1 hbb.2
    have ih := unm_enc t (nxt s b) ht hn.1 hn.2
    have e : (out2 s b + s) % 2 = b := by unfold out2; omega
    rw [List.cons_append, enc, unm, if_pos (by rw [enc_len]; simp; omega), e, ih]
theorem messageOf_enc {m : List Int} (h : listOk 300 0 1 m = true) : messageOf (encL m) = (m, 0) := by
  have hb := Bits.of h
  have hl : (m.length : Int) ≤ 300 := listOk_le h rfl
  have he := unm_enc m 0 hb (by omega) (by omega)
  have hu : unm 0 (encL m) = m := he
  have hlen := encL_len m
  rw [messageOf_yes (xs := encL m) (listOk_mk (enc_bits' (m ++ [0, 0]) 0) (by omega)) (by omega) (by rw [hu]), hu]
theorem messageOf_code {xs : List Int} (h : (messageOf xs).2 = 0) : encodeBits (messageOf xs).1 = (xs, 0) := by
  cases h1 : listOk 604 0 1 xs
  · rw [messageOf_no h1] at h; simp at h
  · by_cases h2 : xs.length % 2 = 1 ∨ xs.length < 4
    · rw [messageOf_odd h1 h2] at h; simp at h
    · by_cases h3 : encL (unm 0 xs) = xs
      · rw [messageOf_yes h1 h2 h3]
        have hl : (xs.length : Int) ≤ 604 := listOk_le h1 rfl
        have hlen := encL_len (unm 0 xs)
        rw [h3] at hlen
        rw [encodeBits_yes (listOk_mk (unm_bits 0 xs) (by omega)), h3]
      · rw [messageOf_ne h1 h3] at h; simp at h

/-! sums -/
def xorI (a b : Int) : Int := (a + b) % 2
def sx (s t : Int) : Int := 2 * ((s / 2 + t / 2) % 2) + (s % 2 + t % 2) % 2
theorem nxt_sx {s t a b : Int} (h1 : 0 ≤ s ∧ s ≤ 3) (h2 : 0 ≤ t ∧ t ≤ 3) (h3 : 0 ≤ a ∧ a ≤ 1) (h4 : 0 ≤ b ∧ b ≤ 1) : nxt (sx s t) (xorI a b) = sx (nxt s a) (nxt t b) := by
  unfold nxt sx xorI; omega
theorem out1_sx (s t a b : Int) (h1 : 0 ≤ s ∧ s ≤ 3) (h2 : 0 ≤ t ∧ t ≤ 3) : out1 (sx s t) (xorI a b) = xorI (out1 s a) (out1 t b) := by
  unfold out1 sx xorI; omega
theorem out2_sx (s t a b : Int) (h1 : 0 ≤ s ∧ s ≤ 3) (h2 : 0 ≤ t ∧ t ≤ 3) : out2 (sx s t) (xorI a b) = xorI (out2 s a) (out2 t b) := by
  unfold out2 sx xorI; omega
theorem enc_sx : ∀ (xs ys : List Int) (s t : Int), xs.length = ys.length → Bits xs → Bits ys → (0 ≤ s ∧ s ≤ 3) → (0 ≤ t ∧ t ≤ 3) → enc (sx s t) (List.zipWith xorI xs ys) = List.zipWith xorI (enc s xs) (enc t ys)
  | [], [], _, _, _, _, _, _, _ => rfl
  | [], b :: u, _, _, h, _, _, _, _ => by simp at h
  | a :: v, [], _, _, h, _, _, _, _ => by simp at h
  | a :: v, b :: u, s, t, h, hx, hy, h1, h2 => by
    have ha := hx a (by simp)
    have hb := hy b (by simp)
    have hn := nxt_rng h1.1 h1.2 ha.1 ha.2
    have hm := nxt_rng h2.1 h2.2 hb.1 hb.2
    have ih := enc_sx v u (nxt s a) (nxt t b) (by simpa using h) (fun x hx' => hx x (List.mem_cons_of_mem _ hx')) (fun x hx' => hy x (List.mem_cons_of_mem _ hx')) hn hm
    simp only [List.zipWith_cons_cons, enc]
    rw [out1_sx s t a b h1 h2, out2_sx s t a b h1 h2, nxt_sx h1 h2 ha hb, ih]
theorem encL_sum2 {xs ys : List Int} (h : xs.length = ys.length) (hx : Bits xs) (hy : Bits ys) : encL (List.zipWith xorI xs ys) = List.zipWith xorI (encL xs) (encL ys) := by
  have e : List.zipWith xorI xs ys ++ [0, 0] = List.zipWith xorI (xs ++ [0, 0]) (ys ++ [0, 0]) := by
    rw [List.zipWith_append h]; rfl
  have e0 : sx 0 0 = 0 := by decide
  have := enc_sx (xs ++ [0, 0]) (ys ++ [0, 0]) 0 0 (by simp [h]) hx.end_ hy.end_ (by omega) (by omega)
  rw [e0] at this
  rw [encL, e, this]
  rfl
theorem xor_bits {xs ys : List Int} : Bits (List.zipWith xorI xs ys) := by
  intro x hx
  obtain ⟨i, hi⟩ := List.mem_iff_getElem?.1 hx
  rw [List.getElem?_zipWith] at hi
  cases h1 : xs[i]? <;> cases h2 : ys[i]? <;> simp [h1, h2] at hi
  subst hi
  unfold xorI
  omega
theorem xor_get {xs ys : List Int} {i : Nat} {x y : Int} (h1 : xs[i]? = some x) (h2 : ys[i]? = some y) : (List.zipWith xorI xs ys)[i]? = some (xorI x y) := by
  rw [List.getElem?_zipWith, h1, h2]
theorem encodeBits_cases (xs : List Int) : (encodeBits xs = ([], 1)) ∨ (listOk 300 0 1 xs = true ∧ encodeBits xs = (encL xs, 0)) := by
  cases h : listOk 300 0 1 xs
  · exact .inl (encodeBits_no h)
  · exact .inr ⟨rfl, encodeBits_yes h⟩
theorem xor_two {a b : Int} (ha : 0 ≤ a ∧ a ≤ 1) (hb : 0 ≤ b ∧ b ≤ 1) : bits .xor .i64 a b = xorI a b := by
  have h1 : a = 0 ∨ a = 1 := by omega
  have h2 : b = 0 ∨ b = 1 := by omega
  rcases h1 with rfl | rfl <;> rcases h2 with rfl | rfl <;> rfl
end Go.Proofs.Ytbdlihocnpppaaa
