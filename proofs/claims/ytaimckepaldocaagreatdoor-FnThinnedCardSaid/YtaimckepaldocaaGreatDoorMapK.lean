/- A map keyed by points: how a point reads as a key; what the map of the best soundings holds. -/
import Derived.Test.YtaimckepaldocaaGreatDoorThin
import Derived.Maps.OwnSet
import Derived.Maps.RangeWalk
import Derived.DeepKeys4
namespace Go.Proofs.YtaimckepaldocaaGreatDoor
open Go.RowKit Go.Maps
set_option maxRecDepth 100000
set_option linter.unusedVariables false
set_option linter.unusedSimpArgs false
set_option linter.unusedVariables false

def keyL (p : Int × Int) : Lit := .string (keyBytes [.int .i64 p.1, .int .i64 p.2])
theorem laidOut : laidOutB Tryz.prog = true := by kernel_rfl
theorem rowPt : (47 : TypeId) < (Tryz.prog).types.size := of_decide_eq_true (by kernel_rfl)
theorem widePt : (match (Tryz.prog).underlying 47 with | some (.array _ _) | some (.struct _) => true | _ => false) = true := by kernel_rfl
theorem lawPt : Keyed Tryz.prog 47 := Keyed.of_law (deep_law_laid laidOut (m := 2) (by omega) rowPt (by kernel_rfl) widePt)
theorem zeroI (w : World) : (zeroValue 2).run Tryz.prog w = .ok (.int .i64 0) w := by kernel_rfl
theorem keyOf_pair {P : Program} {k e : TypeId} {x y : Int} {f0 f1 : Field} (hu : P.underlying k = some (.struct #[f0, f1])) (hn0 : (f0.name != "_") = true) (hn1 : (f1.name != "_") = true) (ho0 : f0.offset = 0) (ho1 : f1.offset = 1) (ht0 : f0.type = e) (ht1 : f1.type = e)
    (hk : P.keyType k = true) (hc : P.cellsOf k = 2) (he : P.underlying e = some (.int .i64)) (hce : P.cellsOf e = 1) (hsz : 0 < P.types.size) (hx : I64 x) (hy : I64 y) :
    keyOf P k (.agg #[.int .i64 x, .int .i64 y]) = some (keyL (x, y)) := by
  obtain ⟨m, hm⟩ : ∃ m, P.types.size = m + 1 := ⟨P.types.size - 1, by omega⟩
  have w1 : (Lit.int .i64 x).wf = true := by
    simp only [Lit.wf, Bool.and_eq_true, decide_eq_true_eq]
    exact hx
  have w2 : (Lit.int .i64 y).wf = true := by
    simp only [Lit.wf, Bool.and_eq_true, decide_eq_true_eq]
    exact hy
  have hf : (Value.agg #[.int .i64 x, .int .i64 y]).formed P k = true := by simp [Value.formed, hu, hc]
  have l0 : P.keyLits (m + 1) e [.int .i64 x] = some [.int .i64 x] := by simp [Program.keyLits, he, w1]
  have l1 : P.keyLits (m + 1) e [.int .i64 y] = some [.int .i64 y] := by simp [Program.keyLits, he, w2]
  have hl : P.keyLits (P.types.size + 1) k [.int .i64 x, .int .i64 y] = some [.int .i64 x, .int .i64 y] := by
    have n0 : f0.name ≠ "_" := by simpa using hn0
    have n1 : f1.name ≠ "_" := by simpa using hn1
    rw [hm]
    simp [Program.keyLits, hu, hc, n0, n1, ho0, ho1, ht0, ht1, hce, he, w1, w2]
  unfold keyOf
  rw [hu]
  simp only [hk, hf, Bool.and_self, if_true]
  show (P.keyLits (P.types.size + 1) k [.int .i64 x, .int .i64 y]).map _ = _
  rw [hl]
  rfl
theorem keyOf_pt (p : Int × Int) (h1 : I64 p.1) (h2 : I64 p.2) : keyOf Tryz.prog 47 (.agg #[.int .i64 p.1, .int .i64 p.2]) = some (keyL p) :=
  keyOf_pair Tryz.underlying47 rfl rfl rfl rfl rfl rfl (by kernel_rfl) (by kernel_rfl) Tryz.underlying2 (by kernel_rfl) (Nat.lt_of_le_of_lt (Nat.zero_le _) rowPt) h1 h2
theorem key_inj {p q : Int × Int} (h1 : I64 p.1) (h2 : I64 p.2) (h3 : I64 q.1) (h4 : I64 q.2) (h : keyL p = keyL q) : p = q := by
  have := lawPt.inj (keyOf_pt p h1 h2) (h ▸ keyOf_pt q h3 h4)
  injection this with this
  simp only [Array.mk.injEq, List.cons.injEq, Value.int.injEq, true_and, and_true] at this
  exact Prod.ext this.1 this.2
theorem key_is (p : Int × Int) : WideAt.IsKeyLit (keyL p) := trivial
theorem same_self (p : Int × Int) : (keyL p).sameKey (keyL p) = true := by simp [keyL, Lit.sameKey]

/-! ### what the map holds behind k soundings -/
theorem keepTo_iff {ss : List I4} {z : Int} {b k : Nat} : keepTo ss z b k = true ↔ ∀ j, j < k → beats ss z b j = false := by
  simp [keepTo, List.all_eq_true]
theorem beats_iff {ss : List I4} {z : Int} {i j : Nat} : beats ss z i j = true ↔ sq z (at4 ss j) = sq z (at4 ss i) ∧ (lowOf (at4 ss j) < lowOf (at4 ss i) ∨ lowOf (at4 ss j) = lowOf (at4 ss i) ∧ j < i) := by
  simp [beats]
theorem beats_not {ss : List I4} {z : Int} {i j : Nat} : beats ss z i j = false ↔ ¬ (sq z (at4 ss j) = sq z (at4 ss i) ∧ (lowOf (at4 ss j) < lowOf (at4 ss i) ∨ lowOf (at4 ss j) = lowOf (at4 ss i) ∧ j < i)) := by
  rw [← beats_iff]; simp
abbrev kyOf (ss : List I4) (z : Int) (j : Nat) : Lit := keyL (sq z (at4 ss j))
abbrev dI (b : Int) : DataW Unit := .lit (.int .i64 b)
structure MOk (ss : List I4) (z : Int) (k : Nat) (D : DataW Unit) : Prop where
  im : Maps.IsMap D
  has : ∀ kl, Maps.has D kl = true ↔ ∃ j, j < k ∧ kl = kyOf ss z j
  best : ∀ j, j < k → ∃ b, b < k ∧ sq z (at4 ss b) = sq z (at4 ss j) ∧ keepTo ss z b k = true ∧ D.atKey (kyOf ss z j) (dI 0) = dI b
section
variable {ss : List I4} {z : Int} {i n : Nat} {D : DataW Unit}
theorem MOk.start (ss : List I4) (z : Int) : MOk ss z 0 (.map []) := ⟨Maps.isMap_empty, fun kl => by simp [Maps.has], fun j h => by omega⟩
theorem MOk.put (h : MOk ss z i D) (hI : ∀ j, j ≤ i → I64 (sq z (at4 ss j)).1 ∧ I64 (sq z (at4 ss j)).2) (hk : keepTo ss z i (i + 1) = true) : MOk ss z (i + 1) (D.put (kyOf ss z i) (dI i)) := by
  refine ⟨h.im.put _ _, fun kl => ?_, fun j hj => ?_⟩
  · by_cases hkl : kl = kyOf ss z i
    · subst hkl
      rw [Maps.has_put_same h.im (key_is _)]
      exact ⟨fun _ => ⟨i, by omega, rfl⟩, fun _ => rfl⟩
    · rw [Maps.has_put_other hkl, h.has]
      constructor
      · rintro ⟨j, hj, rfl⟩; exact ⟨j, by omega, rfl⟩
      · rintro ⟨j, hj, rfl⟩
        rcases Nat.lt_or_ge j i with h1 | h1
        · exact ⟨j, h1, rfl⟩
        · obtain rfl : j = i := by omega
          exact absurd rfl hkl
  · by_cases hs : sq z (at4 ss j) = sq z (at4 ss i)
    · refine ⟨i, by omega, hs.symm, hk, ?_⟩
      rw [show kyOf ss z j = kyOf ss z i by simp only [kyOf, hs]]
      exact Maps.atKey_put_same h.im (key_is _) _ _
    · have hji : j < i := by
        rcases Nat.lt_or_ge j i with h1 | h1
        · exact h1
        · obtain rfl : j = i := by omega
          exact absurd rfl hs
      obtain ⟨b, hb, e1, e2, e3⟩ := h.best j hji
      refine ⟨b, by omega, e1, ?_, ?_⟩
      · rw [keepTo_succ, e2, beats_no1 (by rw [e1]; exact fun e => hs e.symm)]; rfl
      · rw [Maps.atKey_put_other (fun e => hs (key_inj (hI j (by omega)).1 (hI j (by omega)).2 (hI i (by omega)).1 (hI i (by omega)).2 e))]
        exact e3
theorem MOk.miss (h : MOk ss z i D) (hI : ∀ j, j ≤ i → I64 (sq z (at4 ss j)).1 ∧ I64 (sq z (at4 ss j)).2) (hm : Maps.has D (kyOf ss z i) = false) : MOk ss z (i + 1) (D.put (kyOf ss z i) (dI i)) := by
  refine h.put hI (keepTo_iff.2 fun j hj => beats_not.2 ?_)
  rintro ⟨e1, e2⟩
  rcases Nat.lt_or_ge j i with h1 | h1
  · have : Maps.has D (kyOf ss z i) = true := (h.has _).2 ⟨j, h1, by simp only [kyOf, e1]⟩
    rw [hm] at this; cases this
  · obtain rfl : j = i := by omega
    omega
/-- The index at a key that is there. -/
theorem MOk.at (h : MOk ss z i D) (hI : ∀ j, j ≤ i → I64 (sq z (at4 ss j)).1 ∧ I64 (sq z (at4 ss j)).2) (hm : Maps.has D (kyOf ss z i) = true) {c : Int} (hc : D.atKey (kyOf ss z i) (dI 0) = dI c) :
    ∃ b : Nat, c = b ∧ b < i ∧ sq z (at4 ss b) = sq z (at4 ss i) ∧ keepTo ss z b i = true := by
  obtain ⟨j, hj, e⟩ := (h.has _).1 hm
  have hs := key_inj (hI i (by omega)).1 (hI i (by omega)).2 (hI j (by omega)).1 (hI j (by omega)).2 e
  obtain ⟨b, hb, e1, e2, e3⟩ := h.best j hj
  rw [← e, hc] at e3
  refine ⟨b, ?_, hb, e1.trans hs.symm, e2⟩
  simpa [dI] using e3
theorem MOk.better (h : MOk ss z i D) (hI : ∀ j, j ≤ i → I64 (sq z (at4 ss j)).1 ∧ I64 (sq z (at4 ss j)).2) {b : Nat} (hb : b < i) (hs : sq z (at4 ss b) = sq z (at4 ss i)) (hk : keepTo ss z b i = true) (hl : lowOf (at4 ss i) < lowOf (at4 ss b)) : MOk ss z (i + 1) (D.put (kyOf ss z i) (dI i)) := by
  refine h.put hI (keepTo_iff.2 fun j hj => beats_not.2 ?_)
  rintro ⟨e1, e2⟩
  rcases Nat.lt_or_ge j i with h1 | h1
  · have := beats_not.1 (keepTo_iff.1 hk j h1)
    apply this
    refine ⟨e1.trans hs.symm, .inl ?_⟩
    omega
  · obtain rfl : j = i := by omega
    omega
theorem MOk.stay (h : MOk ss z i D) {b : Nat} (hI : ∀ j, j ≤ i → I64 (sq z (at4 ss j)).1 ∧ I64 (sq z (at4 ss j)).2) (hb : b < i) (hs : sq z (at4 ss b) = sq z (at4 ss i)) (hk : keepTo ss z b i = true) (hc : D.atKey (kyOf ss z i) (dI 0) = dI b) (hl : ¬ lowOf (at4 ss i) < lowOf (at4 ss b)) : MOk ss z (i + 1) D := by
  have hkb : keepTo ss z b (i + 1) = true := by
    rw [keepTo_succ, hk, beats_not.2 (by rintro ⟨e1, e2⟩; omega)]; rfl
  refine ⟨h.im, fun kl => ?_, fun j hj => ?_⟩
  · rw [h.has]
    constructor
    · rintro ⟨j, hj, rfl⟩; exact ⟨j, by omega, rfl⟩
    · rintro ⟨j, hj, rfl⟩
      rcases Nat.lt_or_ge j i with h1 | h1
      · exact ⟨j, h1, rfl⟩
      · obtain rfl : j = i := by omega
        exact ⟨b, hb, by simp only [kyOf, hs]⟩
  · by_cases hsj : sq z (at4 ss j) = sq z (at4 ss i)
    · refine ⟨b, by omega, hs.trans hsj.symm, hkb, ?_⟩
      rw [show kyOf ss z j = kyOf ss z i by simp only [kyOf, hsj]]
      exact hc
    · have hji : j < i := by
        rcases Nat.lt_or_ge j i with h1 | h1
        · exact h1
        · obtain rfl : j = i := by omega
          exact absurd rfl hsj
      obtain ⟨b', hb', e1, e2, e3⟩ := h.best j hji
      refine ⟨b', by omega, e1, ?_, e3⟩
      rw [keepTo_succ, e2, beats_no1 (by rw [e1]; exact fun e => hsj e.symm)]; rfl
end

/-! ### the values, whatever their order -/
theorem pick_sorted (p : Nat → Bool) : ∀ n, (pick p n).Pairwise (· < ·)
  | 0 => by simp [pick_zero]
  | n + 1 => by
    cases hp : p n
    · rw [pick_no hp]; exact pick_sorted p n
    · rw [pick_yes hp, List.pairwise_append]
      refine ⟨pick_sorted p n, by simp, fun a ha b hb => ?_⟩
      obtain ⟨j, rfl, hj, -⟩ := mem_pick.1 ha
      simp at hb; subst hb; omega
theorem sorted_eq : ∀ {xs ys : List Int}, xs.Perm ys → xs.Pairwise (· ≤ ·) → ys.Pairwise (· ≤ ·) → xs = ys
  | [], ys, h, _, _ => (List.nil_perm.1 h).symm ▸ rfl
  | x :: xs, [], h, _, _ => absurd h.length_eq (by simp)
  | x :: xs, y :: ys, h, hx, hy => by
    have h1 := List.pairwise_cons.1 hx
    have h2 := List.pairwise_cons.1 hy
    have a : x ∈ y :: ys := h.mem_iff.1 (by simp)
    have b : y ∈ x :: xs := h.mem_iff.2 (by simp)
    have hxy : x = y := by
      rcases List.mem_cons.1 a with a | a
      · exact a
      · rcases List.mem_cons.1 b with b | b
        · exact b.symm
        · have := h1.1 y b; have := h2.1 x a; omega
    subst hxy
    rw [sorted_eq (List.perm_cons x |>.1 h) h1.2 h2.2]
theorem filter_add (p : Int → Bool) (b : Int) (hp : p b = false) : ∀ l : List Int, l.Pairwise (· < ·) → b ∈ l → (l.filter fun v => p v || decide (v = b)).Perm (l.filter p ++ [b])
  | [], _, h => by simp at h
  | a :: l, hl, h => by
    have h1 := List.pairwise_cons.1 hl
    by_cases hab : a = b
    · subst hab
      have h2 : (l.filter fun v => p v || decide (v = a)) = l.filter p := List.filter_congr fun v hv => by
        have := h1.1 v hv
        rw [decide_eq_false (by omega), Bool.or_false]
      rw [List.filter_cons, if_pos (by simp), h2, List.filter_cons, if_neg (by simp [hp])]
      exact List.perm_append_comm (l₁ := [a]) (l₂ := l.filter p)
    · have hb : b ∈ l := by rcases List.mem_cons.1 h with h | h; exact absurd h.symm hab; exact h
      have ih := filter_add p b hp l h1.2 hb
      cases hpa : p a
      · rw [List.filter_cons, if_neg (by simp [hpa, hab]), List.filter_cons, if_neg (by simp [hpa])]
        exact ih
      · rw [List.filter_cons, if_pos (by simp [hpa]), List.filter_cons, if_pos hpa]
        exact List.Perm.cons a ih

/-- The values met so far: 'left' says which keys are still to come. -/
def Coll (ss : List I4) (z : Int) (left : Lit → Bool) (vs : List Int) : Prop := vs.Perm ((thinL ss z).filter fun v => !left (kyOf ss z v.toNat))
section
variable {ss : List I4} {z : Int} {D : DataW Unit} {left : Lit → Bool} {vs : List Int}
theorem Coll.start (h : MOk ss z ss.length D) : Coll ss z (Maps.has D) [] := by
  unfold Coll
  rw [List.filter_eq_nil_iff.2]
  intro v hv
  obtain ⟨j, rfl, hj, -⟩ := mem_pick.1 hv
  simp only [Int.toNat_natCast, Bool.not_eq_true', Bool.not_eq_false]
  exact (h.has _).2 ⟨j, hj, rfl⟩
theorem Coll.len (h : Coll ss z left vs) : vs.length ≤ ss.length := by
  have h1 := h.length_eq
  have h2 := List.length_filter_le (fun v : Int => !left (kyOf ss z v.toNat)) (thinL ss z)
  have h3 := thinL_len ss z
  omega
theorem Coll.step (h : Coll ss z left vs) (hD : MOk ss z ss.length D) (hI : ∀ j, j < ss.length → I64 (sq z (at4 ss j)).1 ∧ I64 (sq z (at4 ss j)).2) {kl : Lit} {c : Int} (hl : left kl = true) (hat : ∀ zd, D.atKey kl zd = dI c) :
    Coll ss z (fun y => left y && !y.sameKey kl) (vs ++ [c]) ∧ 0 ≤ c ∧ c ≤ ss.length := by
  obtain ⟨j, hj, rfl⟩ := (hD.has _).1 (Maps.has_true_of_atKey hat)
  obtain ⟨b, hb, e1, e2, e3⟩ := hD.best j hj
  rw [hat] at e3
  obtain rfl : c = (b : Int) := by simpa [dI] using e3
  refine ⟨?_, by omega, by omega⟩
  have hky : kyOf ss z j = kyOf ss z b := by simp only [kyOf, e1]
  rw [hky] at hl ⊢
  have hbm : (b : Int) ∈ thinL ss z := mem_pick.2 ⟨b, rfl, hb, e2⟩
  unfold Coll
  have hf : (thinL ss z).filter (fun v => !(left (kyOf ss z v.toNat) && !(kyOf ss z v.toNat).sameKey (kyOf ss z b))) = (thinL ss z).filter (fun v => !left (kyOf ss z v.toNat) || decide (v = (b : Int))) := List.filter_congr fun v hv => by
    obtain ⟨i, rfl, hi, hk⟩ := mem_pick.1 hv
    rw [Int.toNat_natCast]
    by_cases hib : i = b
    · subst hib; rw [same_self]; simp
    · have hne : kyOf ss z i ≠ kyOf ss z b := fun e => by
        have hs := key_inj (hI i hi).1 (hI i hi).2 (hI b hb).1 (hI b hb).2 e
        have h1 := beats_not.1 (keepTo_iff.1 hk b hb)
        have h2 := beats_not.1 (keepTo_iff.1 e2 i hi)
        apply h1
        refine ⟨hs.symm, ?_⟩
        rcases Int.lt_trichotomy (lowOf (at4 ss b)) (lowOf (at4 ss i)) with h3 | h3 | h3
        · exact .inl h3
        · rcases Nat.lt_or_ge b i with h4 | h4
          · exact .inr ⟨h3, h4⟩
          · exact absurd ⟨hs, .inr ⟨h3.symm, by omega⟩⟩ h2
        · exact absurd ⟨hs, .inl h3⟩ h2
      rw [Maps.sameKey_ne hne, decide_eq_false (by omega)]
      simp
  rw [hf]
  refine ((List.Perm.append_right [(b : Int)] h).trans (filter_add _ _ (by simp [hl]) _ (pick_sorted _ _) hbm).symm)
theorem Coll.done (h : Coll ss z left vs) (hl : ∀ kl, left kl = false) : (vs.mergeSort fun x y => decide (x ≤ y)) = thinL ss z := by
  have h1 : vs.Perm (thinL ss z) := by
    have : (thinL ss z).filter (fun v => !left (kyOf ss z v.toNat)) = thinL ss z := List.filter_eq_self.2 fun v _ => by rw [hl]; rfl
    unfold Coll at h
    rwa [this] at h
  have hs := List.pairwise_mergeSort (le := fun x y : Int => decide (x ≤ y)) (by intro a b c; simp; omega) (by intro a b; simp; omega) vs
  exact sorted_eq ((List.mergeSort_perm _ _).trans h1) (hs.imp (by simp)) ((pick_sorted _ _).imp (by omega))
end
end Go.Proofs.YtaimckepaldocaaGreatDoor
