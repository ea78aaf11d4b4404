/- The least cover of a width: plain, and by both programs. -/
import Derived.Test.YtdihpllebccncaaSpans
import Derived.Test.YtdihpllebccncaaLib
import Derived.Test.YtdihpllebccncaaEven
import Derived.Deep.RegionHeld3
import Derived.Outline
namespace Go.Proofs.Ytdihpllebccncaa
open Go.RowKit
set_option maxRecDepth 100000
set_option linter.unusedVariables false
set_option linter.unusedSimpArgs false

def spAt (ss : List (Int × Int)) (k : Nat) : Int × Int := ss[k]?.getD (0, 0)
theorem spAt_get {ss : List (Int × Int)} {k : Nat} {s : Int × Int} (h : ss[k]? = some s) : spAt ss k = s := by simp [spAt, h]
def hiOf (ss : List (Int × Int)) (b : Int) : Int := (spAt ss b.toNat).1 + (spAt ss b.toNat).2
theorem hiOf_get {ss : List (Int × Int)} {k : Nat} {x y : Int} (h : ss[k]? = some (x, y)) : hiOf ss (k : Int) = x + y := by
  unfold hiOf; rw [Int.toNat_natCast, spAt_get h]
def inB (p : Int) (s : Int × Int) : Bool := inR (s.1 - s.2) (s.1 + s.2) p
def upB (p : Int) (s : Int × Int) : Bool := decide (s.1 - s.2 ≤ p) && decide (p < s.1 + s.2)
/-- The first of the spans that reach farthest, among those of the first k that c holds of. -/
def best (c : Int × Int → Bool) (ss : List (Int × Int)) : Nat → Int
  | 0 => -1
  | k + 1 => if c (spAt ss k) && (decide (best c ss k < 0) || decide (hiOf ss (best c ss k) < (spAt ss k).1 + (spAt ss k).2)) then (k : Int) else best c ss k
theorem best_cases (c : Int × Int → Bool) (ss : List (Int × Int)) : ∀ k, best c ss k = -1 ∨ ∃ j : Nat, best c ss k = j ∧ j < k ∧ c (spAt ss j) = true := by
  intro k
  induction k with
  | zero => exact .inl rfl
  | succ k ih =>
    rw [best]
    split
    · rename_i h
      simp only [Bool.and_eq_true] at h
      exact .inr ⟨k, rfl, by omega, h.1⟩
    · rcases ih with h | ⟨j, h1, h2, h3⟩
      · exact .inl h
      · exact .inr ⟨j, h1, by omega, h3⟩
theorem best_no {c : Int × Int → Bool} {ss : List (Int × Int)} {k : Nat} {s : Int × Int} (hs : ss[k]? = some s) (h : c s = false) : best c ss (k + 1) = best c ss k := by
  rw [best, spAt_get hs, h]; simp
theorem best_first {c : Int × Int → Bool} {ss : List (Int × Int)} {k : Nat} {s : Int × Int} (hs : ss[k]? = some s) (h : c s = true) (hb : best c ss k = -1) : best c ss (k + 1) = k := by
  rw [best, spAt_get hs, h, hb]; simp
theorem best_more {c : Int × Int → Bool} {ss : List (Int × Int)} {k j : Nat} {x y u v : Int} (hs : ss[k]? = some (x, y)) (h : c (x, y) = true) (hb : best c ss k = j) (hj : ss[j]? = some (u, v)) (hlt : u + v < x + y) : best c ss (k + 1) = k := by
  rw [best, spAt_get hs, h, hb, hiOf_get hj, decide_eq_true hlt]; simp
theorem best_less {c : Int × Int → Bool} {ss : List (Int × Int)} {k j : Nat} {x y u v : Int} (hs : ss[k]? = some (x, y)) (h : c (x, y) = true) (hb : best c ss k = j) (hj : ss[j]? = some (u, v)) (hlt : ¬ u + v < x + y) : best c ss (k + 1) = j := by
  have h0 : ¬ ((j : Int) < 0) := by omega
  rw [best, spAt_get hs, h, hb, hiOf_get hj, decide_eq_false hlt, decide_eq_false h0]; simp
/-- Both programs choose the same span, if one reaches beyond the place. -/
theorem best_rel (p : Int) (ss : List (Int × Int)) : ∀ k, k ≤ ss.length → (0 ≤ best (upB p) ss k → best (inB p) ss k = best (upB p) ss k ∧ p < hiOf ss (best (upB p) ss k)) ∧ (best (upB p) ss k < 0 → best (inB p) ss k < 0 ∨ hiOf ss (best (inB p) ss k) ≤ p) := by
  intro k
  induction k with
  | zero => intro _; exact ⟨fun h => by simp [best] at h, fun _ => .inl (by simp [best])⟩
  | succ k ih =>
    intro hk
    obtain ⟨ih1, ih2⟩ := ih (by omega)
    have hs : ss[k]? = some ss[k] := List.getElem?_eq_getElem (by omega)
    generalize ss[k] = s at hs
    obtain ⟨x, y⟩ := s
    have hkk := hiOf_get hs
    cases hu : upB p (x, y)
    · rw [best_no hs hu]
      cases hi : inB p (x, y)
      · rw [best_no hs hi]; exact ⟨ih1, ih2⟩
      · have e : x + y = p := by
          simp only [upB, inB, inR, Bool.and_eq_true, Bool.and_eq_false_iff, decide_eq_true_eq, decide_eq_false_iff_not] at hu hi
          omega
        refine ⟨fun h0 => ?_, fun h0 => ?_⟩
        · obtain ⟨i1, i2⟩ := ih1 h0
          refine ⟨?_, i2⟩
          rcases best_cases (inB p) ss k with hb | ⟨j, hb, hj, hc⟩
          · omega
          · rw [best, spAt_get hs, hi, if_neg]
            · exact i1
            · rw [i1]; simp; omega
        · rw [best, spAt_get hs, hi]
          split
          · exact .inr (by rw [hkk]; omega)
          · exact ih2 h0
    · have hi : inB p (x, y) = true := by
        simp only [upB, inB, inR, Bool.and_eq_true, decide_eq_true_eq] at hu ⊢
        omega
      have hp : p < x + y := by
        simp only [upB, Bool.and_eq_true, decide_eq_true_eq] at hu; omega
      rcases best_cases (upB p) ss k with hb | ⟨j, hb, hj, hc⟩
      · rw [best_first hs hu hb]
        refine ⟨fun _ => ⟨?_, by rw [hkk]; exact hp⟩, fun h => by omega⟩
        rw [best, spAt_get hs, hi, if_pos]
        rcases ih2 (by omega) with h | h
        · simp [h]
        · simp only [Bool.true_and, Bool.or_eq_true, decide_eq_true_eq]; exact .inr (by omega)
      · obtain ⟨i1, i2⟩ := ih1 (by omega)
        have hjs : ss[j]? = some ss[j] := List.getElem?_eq_getElem (by omega)
        generalize ss[j] = sj at hjs
        obtain ⟨u, v⟩ := sj
        by_cases hlt : u + v < x + y
        · rw [best_more hs hu hb hjs hlt, best_more hs hi (i1.trans hb) hjs hlt]
          exact ⟨fun _ => ⟨rfl, by rw [hkk]; exact hp⟩, fun h => by omega⟩
        · rw [best_less hs hu hb hjs hlt, best_less hs hi (i1.trans hb) hjs hlt]
          rw [hb] at i2
          exact ⟨fun _ => ⟨rfl, i2⟩, fun h => by omega⟩

/-- The cover, span by span, in at most f steps. -/
def coverF (W : Int) (ss : List (Int × Int)) : Nat → Int → List Int → Option (List Int)
  | 0, _, acc => some acc
  | f + 1, p, acc => if p < W then (if best (upB p) ss ss.length < 0 then none else coverF W ss f (hiOf ss (best (upB p) ss ss.length)) (acc ++ [best (upB p) ss ss.length])) else some acc
theorem coverF_done {W p : Int} {ss : List (Int × Int)} {acc : List Int} (h : ¬ p < W) (f : Nat) : coverF W ss f p acc = some acc := by
  cases f with
  | zero => rfl
  | succ f => simp [coverF, h]
theorem coverF_none {W p : Int} {ss : List (Int × Int)} {acc : List Int} (h : p < W) (hb : best (upB p) ss ss.length < 0) (f : Nat) : coverF W ss (f + 1) p acc = none := by simp [coverF, h, hb]
theorem coverF_step {W p : Int} {ss : List (Int × Int)} {acc : List Int} {b : Int} (h : p < W) (hb : best (upB p) ss ss.length = b) (h0 : ¬ b < 0) (f : Nat) : coverF W ss (f + 1) p acc = coverF W ss f (hiOf ss b) (acc ++ [b]) := by simp [coverF, h, hb, h0]
theorem coverF_len {W : Int} {ss : List (Int × Int)} : ∀ (f : Nat) (p : Int) (acc l : List Int), coverF W ss f p acc = some l → l.length ≤ acc.length + f := by
  intro f
  induction f with
  | zero => intro p acc l h; simp [coverF] at h; subst h; omega
  | succ f ih =>
    intro p acc l h
    rw [coverF] at h
    split at h
    · split at h
      · cases h
      · have := ih _ _ _ h; simp at this; omega
    · injection h with h; subst h; omega
def coverC (W : Int) (ss : List (Int × Int)) : Int := if spansOk ss then (if inR 1 10000 W then 0 else 2) else 1
def leastCover (W : Int) (ss : List (Int × Int)) : List Int × Int :=
  if coverC W ss = 0 then (match coverF W ss W.toNat 0 [] with | some l => (l, 0) | none => ([], 4)) else ([], coverC W ss)
theorem coverC_cases (W : Int) (ss : List (Int × Int)) : (coverC W ss = 0 ∧ spansOk ss = true ∧ 1 ≤ W ∧ W ≤ 10000) ∨ ∃ c, coverC W ss = c ∧ c ≠ 0 := by
  unfold coverC
  cases spansOk ss
  · exact .inr ⟨1, rfl, by omega⟩
  · cases h : inR 1 10000 W
    · exact .inr ⟨2, by simp, by omega⟩
    · refine .inl ⟨by simp, rfl, ?_⟩
      simp only [inR, Bool.and_eq_true, decide_eq_true_eq] at h; exact h
theorem leastCover_no {W : Int} {ss : List (Int × Int)} {c : Int} (h : coverC W ss = c) (hc : c ≠ 0) : leastCover W ss = ([], c) := by simp [leastCover, h, hc]
theorem leastCover_none {W : Int} {ss : List (Int × Int)} (h : coverC W ss = 0) (h2 : coverF W ss W.toNat 0 [] = none) : leastCover W ss = ([], 4) := by simp [leastCover, h, h2]
theorem leastCover_some {W : Int} {ss : List (Int × Int)} {l : List Int} (h : coverC W ss = 0) (h2 : coverF W ss W.toNat 0 [] = some l) : leastCover W ss = (l, 0) := by simp [leastCover, h, h2]
theorem leastCover_len (W : Int) (ss : List (Int × Int)) : (leastCover W ss).1.length ≤ 10000 := by
  rcases coverC_cases W ss with ⟨h, -, h1, h2⟩ | ⟨c, h, hc⟩
  · cases he : coverF W ss W.toNat 0 [] with
    | none => rw [leastCover_none h he]; simp
    | some l => rw [leastCover_some h he]; have := coverF_len _ _ _ _ he; simp at this ⊢; omega
  · rw [leastCover_no h hc]; simp
theorem spanOk_bd {x y : Int} (h : spanOk (x, y) = true) : (0 ≤ x ∧ x ≤ 10000) ∧ (0 ≤ y ∧ y ≤ 10000) := by
  simp only [spanOk, inR, Bool.and_eq_true, decide_eq_true_eq] at h; omega
theorem spansOk_get {ss : List (Int × Int)} {k : Nat} {s : Int × Int} (h : spansOk ss = true) (hs : ss[k]? = some s) : spanOk s = true := by
  simp only [spansOk, Bool.and_eq_true, List.all_eq_true] at h
  exact h.1 s (List.mem_of_getElem? hs)
theorem spansOk_len {ss : List (Int × Int)} {n : Nat} (h : spansOk ss = true) (hl : ss.length = n) : n ≤ 60 := by
  simp only [spansOk, Bool.and_eq_true, decide_eq_true_eq] at h; omega
theorem sp_at {ss : List (Int × Int)} {k n : Nat} (hl : ss.length = n) (hk : k < n) : ∃ x y, Hid (ss[k]? = some (x, y)) := by
  have hx : ss[k]? = some ss[k] := List.getElem?_eq_getElem (by omega)
  exact ⟨_, _, hx⟩

theorem low_any (x y : Int) (w : World) (h1 : 0 ≤ x ∧ x ≤ 10000) (h2 : 0 ≤ y ∧ y ≤ 10000) :
    Calls Try.prog 65 #[.agg #[.int .i64 x, .int .i64 y]] w fun e w' => e = .returned (.int .i64 (x - y)) ∧ Below w.heap.size w w' := by
  go_enter Try.func65, Try.ntmps65
  go_wp2
  go_ret
  exact ⟨rfl, by go_grown⟩
theorem high_any (x y : Int) (w : World) (h1 : 0 ≤ x ∧ x ≤ 10000) (h2 : 0 ≤ y ∧ y ≤ 10000) :
    Calls Try.prog 55 #[.agg #[.int .i64 x, .int .i64 y]] w fun e w' => e = .returned (.int .i64 (x + y)) ∧ Below w.heap.size w w' := by
  go_enter Try.func55, Try.ntmps55
  go_wp2
  go_ret
  exact ⟨rfl, by go_grown⟩

theorem coverCode_any (W : Int) (a : Option Addr) (n c : Nat) (ss : List (Int × Int)) (w : World) (h : Row w 2 a n (prs ss)) (hn : n ≤ 1048576) :
    Calls Try.prog 36 #[.int .i64 W, .slice a n c] w fun e w' => e = .returned (.int .i64 (coverC W ss)) ∧ Below w.heap.size w w' := by
  cases hs : spansOk ss
  · have hc : coverC W ss = 1 := by simp [coverC, hs]
    rw [hc]
    clear hc
    go_enter Try.func36, Try.ntmps36
    go_wp2_with (go_at_call 31; refine (areSpans_impl _ _ _ _ _ h hn).mono ?_; rintro e w' ⟨rfl, hb⟩)
    go_ret
    exact ⟨rfl, hb⟩
  · cases hw : inR 1 10000 W
    · have hc : coverC W ss = 2 := by simp [coverC, hs, hw]
      rw [hc]
      clear hc
      go_enter Try.func36, Try.ntmps36
      go_wp2_with (first | (go_at_call 31; refine (areSpans_impl _ _ _ _ _ h hn).mono ?_; rintro e w' ⟨rfl, hb⟩) | (go_at_call 43; refine (isWidth_any _ _).mono ?_; rintro e w' ⟨rfl, rfl⟩))
      go_ret
      exact ⟨rfl, hb⟩
    · have hc : coverC W ss = 0 := by simp [coverC, hs, hw]
      rw [hc]
      clear hc
      go_enter Try.func36, Try.ntmps36
      go_wp2_with (first | (go_at_call 31; refine (areSpans_impl _ _ _ _ _ h hn).mono ?_; rintro e w' ⟨rfl, hb⟩) | (go_at_call 43; refine (isWidth_any _ _).mono ?_; rintro e w' ⟨rfl, rfl⟩))
      go_ret
      exact ⟨rfl, hb⟩
theorem l24Code_any (W : Int) (a : Option Addr) (n c : Nat) (ss : List (Int × Int)) (w : World) (h : Row w 2 a n (prs ss)) (hn : n ≤ 1048576) :
    Calls Try.prog 33 #[.int .i64 W, .slice a n c] w fun e w' => e = .returned (.int .i64 (coverC W ss)) ∧ Below w.heap.size w w' := by
  cases hs : spansOk ss
  · have hc : coverC W ss = 1 := by simp [coverC, hs]
    rw [hc]
    clear hc
    go_enter Try.func33, Try.ntmps33
    go_wp2_with (go_at_call 32; refine (areSpans_spec _ _ _ _ _ h hn).mono ?_; rintro e w' ⟨rfl, hb⟩)
    go_ret
    exact ⟨rfl, hb⟩
  · cases hw : inR 1 10000 W
    · have hc : coverC W ss = 2 := by simp [coverC, hs, hw]
      rw [hc]
      clear hc
      go_enter Try.func33, Try.ntmps33
      go_wp2_with (first | (go_at_call 32; refine (areSpans_spec _ _ _ _ _ h hn).mono ?_; rintro e w' ⟨rfl, hb⟩) | (go_at_call 46; refine (l24Width_any _ _).mono ?_; rintro e w' ⟨rfl, rfl⟩))
      go_ret
      exact ⟨rfl, hb⟩
    · have hc : coverC W ss = 0 := by simp [coverC, hs, hw]
      rw [hc]
      clear hc
      go_enter Try.func33, Try.ntmps33
      go_wp2_with (first | (go_at_call 32; refine (areSpans_spec _ _ _ _ _ h hn).mono ?_; rintro e w' ⟨rfl, hb⟩) | (go_at_call 46; refine (l24Width_any _ _).mono ?_; rintro e w' ⟨rfl, rfl⟩))
      go_ret
      exact ⟨rfl, hb⟩

set_option maxHeartbeats 3200000 in
theorem farthest_any (p : Int) (a : Option Addr) (n c : Nat) (ss : List (Int × Int)) (w : World) (h : Row w 2 a n (prs ss)) (hs : spansOk ss = true) (hp : 0 ≤ p ∧ p ≤ 30000) :
    Calls Try.prog 54 #[.slice a n c, .int .i64 p] w fun e w' => e = .returned (.int .i64 (best (inB p) ss n)) ∧ Below w.heap.size w w' := by
  have hl := Lib.hid h.len2
  have hn := spansOk_len hs h.len2
  have HS := Lib.hid hs; clear hs
  go_enter Try.func54, Try.ntmps54
  go_wp2
  go_loopw [5, 10] (fun s kk wr => ∃ (k : Nat) (b : Int), k ≤ n ∧ kk = .int .i64 k ∧ s = .int .i64 b ∧ Hid (best (inB p) ss k = b) ∧ Below w.heap.size w wr) (fun _ i _ => n - (intOf i).toNat)
  case atStart => exact ⟨0, -1, Nat.zero_le _, rfl, rfl, rfl, Below.refl _ _⟩
  case round =>
    obtain ⟨k, b, hk, rfl, rfl, hb0, hbel⟩ := hrel
    by_cases hlt : k < n
    · obtain ⟨x, y, hx⟩ := sp_at hl.out hlt
      obtain ⟨d1, d2⟩ := spanOk_bd (spansOk_get HS.out hx.out)
      obtain ⟨bk, off, x', y', rfl, hc0, hc1, hx'⟩ := (h.below2 hbel (Nat.le_refl _)).at2 hlt
      have hxx : x' = x ∧ y' = y := by have := hx'.out; rw [hx.out] at this; injection this with this; injection this with h1 h2; exact ⟨h1.symm, h2.symm⟩
      obtain ⟨rfl, rfl⟩ := hxx
      clear hx'
      have hkI : (k : Int) < (n : Int) := by omega
      go_wp2_with fail
      obtain ⟨wa, hwa⟩ : ∃ wa, wr.alloc (.cells #[.int .i64 x', .int .i64 y'] 49) = wa := ⟨_, rfl⟩
      rw [hwa]
      obtain ⟨A, hA⟩ : ∃ A, wr.heap.size = A := ⟨_, rfl⟩
      rw [hA]
      have hbela : Below w.heap.size w wa := hwa ▸ hbel.alloc hbel.size _
      have KA := Lib.hid (show Blk wa A 49 #[.int .i64 x', .int .i64 y'] from hwa ▸ hA ▸ Blk.new wr _ _)
      clear hwa hA hc0 hc1 hbel
      have B := Below.refl wa.heap.size wa
      have x0 : wa.cell? ⟨A, 0, none⟩ = some (.int .i64 x') := KA.out.cell 0
      have x1 : wa.cell? ⟨A, 1, none⟩ = some (.int .i64 y') := KA.out.cell 1
      have B1 : Below wa.heap.size wa wa.drew := (Below.refl _ _).drew
      cases hin : inR (x' - y') (x' + y') p
      · have hst := Lib.hid ((best_no (c := inB p) hx.out hin).trans hb0.out)
        refine wp_region_held_drew (S := fun w' => w'.cell? ⟨A, 0, none⟩ = some (.int .i64 x') ∧ w'.cell? ⟨A, 1, none⟩ = some (.int .i64 y')) (by kernel_rfl) (⟨(KA.out.below B1 KA.out.lt).cell 0, (KA.out.below B1 KA.out.lt).cell 1⟩) (fun hHeld => ?_)
        refine wpAnyH_take (i := 0) (oi := ?oia0) (v := ?va0) ?hia0 (by kernel_rfl) (by kernel_rfl) (by kernel_rfl) ?hQa0 ?hya0 (by assumption) ?hra0
        case hia0 => (simp only [List.getElem?_toArray, List.getElem?_cons_succ, List.getElem?_cons_zero]; rfl)
        case hQa0 => exact fun _ _ _ h => h
        case hya0 => (refine Or.inl ⟨by rfl, ?_⟩; intro w hSw; (try dsimp only at hSw); (go_simp <;> with_reducible rfl))
        (try simp only [Act.put, List.setIfInBounds_toArray, List.set_cons_zero, List.set_cons_succ])
        refine wpAnyH_take (i := 1) (oi := ?oia1) (v := ?va1) ?hia1 (by kernel_rfl) (by kernel_rfl) (by kernel_rfl) ?hQa1 ?hya1 (by assumption) ?hra1
        case hia1 => (simp only [List.getElem?_toArray, List.getElem?_cons_succ, List.getElem?_cons_zero]; rfl)
        case hQa1 => exact fun _ _ _ h => h
        case hya1 => (refine Or.inl ⟨by rfl, ?_⟩; intro w hSw; (try dsimp only at hSw); (go_simp <;> with_reducible rfl))
        (try simp only [Act.put, List.setIfInBounds_toArray, List.set_cons_zero, List.set_cons_succ])
        refine wpAnyH_take (i := 3) (oi := ?oia3) (v := ?va3) ?hia3 (by kernel_rfl) (by kernel_rfl) (by kernel_rfl) ?hQa3 ?hya3 (by assumption) ?hra3
        case hia3 => (simp only [List.getElem?_toArray, List.getElem?_cons_succ, List.getElem?_cons_zero]; rfl)
        case hQa3 => exact fun _ _ _ h => h
        case hya3 => (refine Or.inl ⟨by rfl, ?_⟩; intro w hSw; (try dsimp only at hSw); (go_simp <;> with_reducible rfl))
        (try simp only [Act.put, List.setIfInBounds_toArray, List.set_cons_zero, List.set_cons_succ])
        refine wpAnyH_ready (rs := [2]) (by kernel_rfl) (by simp) ?_
        refine AllReadyH.cons (o := ?oia2) ?hia2 ?haa2 AllReadyH.nil
        case hia2 => (simp only [List.getElem?_toArray, List.getElem?_cons_succ, List.getElem?_cons_zero]; rfl)
        intro K hK
        go_simp
        (go_at_call 65; refine (low_any _ _ _ d1 d2).mono ?_; rintro e w1 ⟨rfl, hb⟩; replace B1 := B1.trans (hb.mono B1.size); clear hb; dsimp only)
        refine hK.out _ _ (⟨(KA.out.below B1 KA.out.lt).cell 0, (KA.out.below B1 KA.out.lt).cell 1⟩) (fun hHeld => ?_)
        clear hK K
        (try simp only [Act.put, List.setIfInBounds_toArray, List.set_cons_zero, List.set_cons_succ])
        refine wpAnyH_ready (rs := [4]) (by kernel_rfl) (by simp) ?_
        refine AllReadyH.cons (o := ?oia4) ?hia4 ?haa4 AllReadyH.nil
        case hia4 => (simp only [List.getElem?_toArray, List.getElem?_cons_succ, List.getElem?_cons_zero]; rfl)
        intro K hK
        go_simp
        (go_at_call 55; refine (high_any _ _ _ d1 d2).mono ?_; rintro e w1 ⟨rfl, hb⟩; replace B1 := B1.trans (hb.mono B1.size); clear hb; dsimp only)
        refine hK.out _ _ (⟨(KA.out.below B1 KA.out.lt).cell 0, (KA.out.below B1 KA.out.lt).cell 1⟩) (fun hHeld => ?_)
        clear hK K
        (try simp only [Act.put, List.setIfInBounds_toArray, List.set_cons_zero, List.set_cons_succ])
        refine wpAnyH_ready (rs := [5]) (by kernel_rfl) (by simp) ?_
        refine AllReadyH.cons (o := ?oia5) ?hia5 ?haa5 AllReadyH.nil
        case hia5 => (simp only [List.getElem?_toArray, List.getElem?_cons_succ, List.getElem?_cons_zero]; rfl)
        intro K hK
        go_simp
        (go_at_call 50; refine (within_any _ _ _ _).mono ?_; rintro e w3 ⟨rfl, rfl⟩; rw [hin]; dsimp only)
        refine hK.out _ _ (⟨(KA.out.below B1 KA.out.lt).cell 0, (KA.out.below B1 KA.out.lt).cell 1⟩) (fun hHeld => ?_)
        clear hK K
        (try simp only [Act.put, List.setIfInBounds_toArray, List.set_cons_zero, List.set_cons_succ])
        refine wpAnyH_take (i := 6) (oi := ?oia6) (v := ?va6) ?hia6 (by kernel_rfl) (by kernel_rfl) (by kernel_rfl) ?hQa6 ?hya6 (by assumption) ?hra6
        case hia6 => (simp only [List.getElem?_toArray, List.getElem?_cons_succ, List.getElem?_cons_zero]; rfl)
        case hQa6 => exact fun _ _ _ h => h
        case hya6 => (refine Or.inl ⟨by rfl, ?_⟩; intro w hSw; (try dsimp only at hSw); (go_simp <;> with_reducible rfl))
        (try simp only [Act.put, List.setIfInBounds_toArray, List.set_cons_zero, List.set_cons_succ])
        refine wpAnyH_take (i := 7) (oi := ?oia7) (v := undef) ?hia7 (by kernel_rfl) (by kernel_rfl) (by kernel_rfl) ?hQa7 ?hya7 (by assumption) ?hra7
        case hia7 => (simp only [List.getElem?_toArray, List.getElem?_cons_succ, List.getElem?_cons_zero]; rfl)
        case hQa7 => exact fun _ _ _ h => h
        case hya7 => exact Or.inr ⟨by rfl, rfl⟩
        (try simp only [Act.put, List.setIfInBounds_toArray, List.set_cons_zero, List.set_cons_succ])
        refine wpAnyH_take (i := 8) (oi := ?oia8) (v := undef) ?hia8 (by kernel_rfl) (by kernel_rfl) (by kernel_rfl) ?hQa8 ?hya8 (by assumption) ?hra8
        case hia8 => (simp only [List.getElem?_toArray, List.getElem?_cons_succ, List.getElem?_cons_zero]; rfl)
        case hQa8 => exact fun _ _ _ h => h
        case hya8 => exact Or.inr ⟨by rfl, rfl⟩
        (try simp only [Act.put, List.setIfInBounds_toArray, List.set_cons_zero, List.set_cons_succ])
        refine wpAnyH_take (i := 9) (oi := ?oia9) (v := undef) ?hia9 (by kernel_rfl) (by kernel_rfl) (by kernel_rfl) ?hQa9 ?hya9 (by assumption) ?hra9
        case hia9 => (simp only [List.getElem?_toArray, List.getElem?_cons_succ, List.getElem?_cons_zero]; rfl)
        case hQa9 => exact fun _ _ _ h => h
        case hya9 => exact Or.inr ⟨by rfl, rfl⟩
        (try simp only [Act.put, List.setIfInBounds_toArray, List.set_cons_zero, List.set_cons_succ])
        refine wpAnyH_take (i := 10) (oi := ?oia10) (v := undef) ?hia10 (by kernel_rfl) (by kernel_rfl) (by kernel_rfl) ?hQa10 ?hya10 (by assumption) ?hra10
        case hia10 => (simp only [List.getElem?_toArray, List.getElem?_cons_succ, List.getElem?_cons_zero]; rfl)
        case hQa10 => exact fun _ _ _ h => h
        case hya10 => exact Or.inr ⟨by rfl, rfl⟩
        (try simp only [Act.put, List.setIfInBounds_toArray, List.set_cons_zero, List.set_cons_succ])
        refine wpAnyH_take (i := 11) (oi := ?oia11) (v := undef) ?hia11 (by kernel_rfl) (by kernel_rfl) (by kernel_rfl) ?hQa11 ?hya11 (by assumption) ?hra11
        case hia11 => (simp only [List.getElem?_toArray, List.getElem?_cons_succ, List.getElem?_cons_zero]; rfl)
        case hQa11 => exact fun _ _ _ h => h
        case hya11 => exact Or.inr ⟨by rfl, rfl⟩
        (try simp only [Act.put, List.setIfInBounds_toArray, List.set_cons_zero, List.set_cons_succ])
        refine wpAnyH_take (i := 12) (oi := ?oia12) (v := undef) ?hia12 (by kernel_rfl) (by kernel_rfl) (by kernel_rfl) ?hQa12 ?hya12 (by assumption) ?hra12
        case hia12 => (simp only [List.getElem?_toArray, List.getElem?_cons_succ, List.getElem?_cons_zero]; rfl)
        case hQa12 => exact fun _ _ _ h => h
        case hya12 => exact Or.inr ⟨by rfl, rfl⟩
        (try simp only [Act.put, List.setIfInBounds_toArray, List.set_cons_zero, List.set_cons_succ])
        refine wpAnyH_take (i := 13) (oi := ?oia13) (v := undef) ?hia13 (by kernel_rfl) (by kernel_rfl) (by kernel_rfl) ?hQa13 ?hya13 (by assumption) ?hra13
        case hia13 => (simp only [List.getElem?_toArray, List.getElem?_cons_succ, List.getElem?_cons_zero]; rfl)
        case hQa13 => exact fun _ _ _ h => h
        case hya13 => exact Or.inr ⟨by rfl, rfl⟩
        (try simp only [Act.put, List.setIfInBounds_toArray, List.set_cons_zero, List.set_cons_succ])
        refine wpAnyH_take (i := 14) (oi := ?oia14) (v := undef) ?hia14 (by kernel_rfl) (by kernel_rfl) (by kernel_rfl) ?hQa14 ?hya14 (by assumption) ?hra14
        case hia14 => (simp only [List.getElem?_toArray, List.getElem?_cons_succ, List.getElem?_cons_zero]; rfl)
        case hQa14 => exact fun _ _ _ h => h
        case hya14 => exact Or.inr ⟨by rfl, rfl⟩
        (try simp only [Act.put, List.setIfInBounds_toArray, List.set_cons_zero, List.set_cons_succ])
        refine wpAnyH_take (i := 15) (oi := ?oia15) (v := undef) ?hia15 (by kernel_rfl) (by kernel_rfl) (by kernel_rfl) ?hQa15 ?hya15 (by assumption) ?hra15
        case hia15 => (simp only [List.getElem?_toArray, List.getElem?_cons_succ, List.getElem?_cons_zero]; rfl)
        case hQa15 => exact fun _ _ _ h => h
        case hya15 => exact Or.inr ⟨by rfl, rfl⟩
        (try simp only [Act.put, List.setIfInBounds_toArray, List.set_cons_zero, List.set_cons_succ])
        refine wpAnyH_take (i := 16) (oi := ?oia16) (v := undef) ?hia16 (by kernel_rfl) (by kernel_rfl) (by kernel_rfl) ?hQa16 ?hya16 (by assumption) ?hra16
        case hia16 => (simp only [List.getElem?_toArray, List.getElem?_cons_succ, List.getElem?_cons_zero]; rfl)
        case hQa16 => exact fun _ _ _ h => h
        case hya16 => exact Or.inr ⟨by rfl, rfl⟩
        (try simp only [Act.put, List.setIfInBounds_toArray, List.set_cons_zero, List.set_cons_succ])
        refine wpAnyH_take (i := 17) (oi := ?oia17) (v := undef) ?hia17 (by kernel_rfl) (by kernel_rfl) (by kernel_rfl) ?hQa17 ?hya17 (by assumption) ?hra17
        case hia17 => (simp only [List.getElem?_toArray, List.getElem?_cons_succ, List.getElem?_cons_zero]; rfl)
        case hQa17 => exact fun _ _ _ h => h
        case hya17 => exact Or.inr ⟨by rfl, rfl⟩
        (try simp only [Act.put, List.setIfInBounds_toArray, List.set_cons_zero, List.set_cons_succ])
        refine wpAnyH_take (i := 18) (oi := ?oia18) (v := undef) ?hia18 (by kernel_rfl) (by kernel_rfl) (by kernel_rfl) ?hQa18 ?hya18 (by assumption) ?hra18
        case hia18 => (simp only [List.getElem?_toArray, List.getElem?_cons_succ, List.getElem?_cons_zero]; rfl)
        case hQa18 => exact fun _ _ _ h => h
        case hya18 => exact Or.inr ⟨by rfl, rfl⟩
        (try simp only [Act.put, List.setIfInBounds_toArray, List.set_cons_zero, List.set_cons_succ])
        refine wpAnyH_take (i := 19) (oi := ?oia19) (v := ?va19) ?hia19 (by kernel_rfl) (by kernel_rfl) (by kernel_rfl) ?hQa19 ?hya19 (by assumption) ?hra19
        case hia19 => (simp only [List.getElem?_toArray, List.getElem?_cons_succ, List.getElem?_cons_zero]; rfl)
        case hQa19 => exact fun _ _ _ h => h
        case hya19 => (refine Or.inl ⟨by rfl, ?_⟩; intro w hSw; (try dsimp only at hSw); (go_simp <;> with_reducible rfl))
        (try simp only [Act.put, List.setIfInBounds_toArray, List.set_cons_zero, List.set_cons_succ])
        refine wpAnyH_done (by kernel_rfl) ?_ _
        go_wp2
        go_roundw
        case rel => exact ⟨k + 1, b, by omega, by go_num, rfl, hst.out, hbela.trans (B1.mono hbela.size)⟩
        case measure => simp [intOf]; omega
      · rcases best_cases (inB p) ss k with hm | ⟨j, hm, hjk, hc⟩
        · have hst := Lib.hid (best_first (c := inB p) hx.out hin hm)
          obtain rfl : b = -1 := hb0.out.symm.trans hm
          clear hm hb0
          refine wp_region_held_drew (S := fun w' => w'.cell? ⟨A, 0, none⟩ = some (.int .i64 x') ∧ w'.cell? ⟨A, 1, none⟩ = some (.int .i64 y')) (by kernel_rfl) (⟨(KA.out.below B1 KA.out.lt).cell 0, (KA.out.below B1 KA.out.lt).cell 1⟩) (fun hHeld => ?_)
          refine wpAnyH_take (i := 0) (oi := ?oib0) (v := ?vb0) ?hib0 (by kernel_rfl) (by kernel_rfl) (by kernel_rfl) ?hQb0 ?hyb0 (by assumption) ?hrb0
          case hib0 => (simp only [List.getElem?_toArray, List.getElem?_cons_succ, List.getElem?_cons_zero]; rfl)
          case hQb0 => exact fun _ _ _ h => h
          case hyb0 => (refine Or.inl ⟨by rfl, ?_⟩; intro w hSw; (try dsimp only at hSw); (go_simp <;> with_reducible rfl))
          (try simp only [Act.put, List.setIfInBounds_toArray, List.set_cons_zero, List.set_cons_succ])
          refine wpAnyH_take (i := 1) (oi := ?oib1) (v := ?vb1) ?hib1 (by kernel_rfl) (by kernel_rfl) (by kernel_rfl) ?hQb1 ?hyb1 (by assumption) ?hrb1
          case hib1 => (simp only [List.getElem?_toArray, List.getElem?_cons_succ, List.getElem?_cons_zero]; rfl)
          case hQb1 => exact fun _ _ _ h => h
          case hyb1 => (refine Or.inl ⟨by rfl, ?_⟩; intro w hSw; (try dsimp only at hSw); (go_simp <;> with_reducible rfl))
          (try simp only [Act.put, List.setIfInBounds_toArray, List.set_cons_zero, List.set_cons_succ])
          refine wpAnyH_take (i := 3) (oi := ?oib3) (v := ?vb3) ?hib3 (by kernel_rfl) (by kernel_rfl) (by kernel_rfl) ?hQb3 ?hyb3 (by assumption) ?hrb3
          case hib3 => (simp only [List.getElem?_toArray, List.getElem?_cons_succ, List.getElem?_cons_zero]; rfl)
          case hQb3 => exact fun _ _ _ h => h
          case hyb3 => (refine Or.inl ⟨by rfl, ?_⟩; intro w hSw; (try dsimp only at hSw); (go_simp <;> with_reducible rfl))
          (try simp only [Act.put, List.setIfInBounds_toArray, List.set_cons_zero, List.set_cons_succ])
          refine wpAnyH_ready (rs := [2]) (by kernel_rfl) (by simp) ?_
          refine AllReadyH.cons (o := ?oib2) ?hib2 ?hab2 AllReadyH.nil
          case hib2 => (simp only [List.getElem?_toArray, List.getElem?_cons_succ, List.getElem?_cons_zero]; rfl)
          intro K hK
          go_simp
          (go_at_call 65; refine (low_any _ _ _ d1 d2).mono ?_; rintro e w1 ⟨rfl, hb⟩; replace B1 := B1.trans (hb.mono B1.size); clear hb; dsimp only)
          refine hK.out _ _ (⟨(KA.out.below B1 KA.out.lt).cell 0, (KA.out.below B1 KA.out.lt).cell 1⟩) (fun hHeld => ?_)
          clear hK K
          (try simp only [Act.put, List.setIfInBounds_toArray, List.set_cons_zero, List.set_cons_succ])
          refine wpAnyH_ready (rs := [4]) (by kernel_rfl) (by simp) ?_
          refine AllReadyH.cons (o := ?oib4) ?hib4 ?hab4 AllReadyH.nil
          case hib4 => (simp only [List.getElem?_toArray, List.getElem?_cons_succ, List.getElem?_cons_zero]; rfl)
          intro K hK
          go_simp
          (go_at_call 55; refine (high_any _ _ _ d1 d2).mono ?_; rintro e w1 ⟨rfl, hb⟩; replace B1 := B1.trans (hb.mono B1.size); clear hb; dsimp only)
          refine hK.out _ _ (⟨(KA.out.below B1 KA.out.lt).cell 0, (KA.out.below B1 KA.out.lt).cell 1⟩) (fun hHeld => ?_)
          clear hK K
          (try simp only [Act.put, List.setIfInBounds_toArray, List.set_cons_zero, List.set_cons_succ])
          refine wpAnyH_ready (rs := [5]) (by kernel_rfl) (by simp) ?_
          refine AllReadyH.cons (o := ?oib5) ?hib5 ?hab5 AllReadyH.nil
          case hib5 => (simp only [List.getElem?_toArray, List.getElem?_cons_succ, List.getElem?_cons_zero]; rfl)
          intro K hK
          go_simp
          (go_at_call 50; refine (within_any _ _ _ _).mono ?_; rintro e w3 ⟨rfl, rfl⟩; rw [hin]; dsimp only)
          refine hK.out _ _ (⟨(KA.out.below B1 KA.out.lt).cell 0, (KA.out.below B1 KA.out.lt).cell 1⟩) (fun hHeld => ?_)
          clear hK K
          (try simp only [Act.put, List.setIfInBounds_toArray, List.set_cons_zero, List.set_cons_succ])
          refine wpAnyH_take (i := 6) (oi := ?oib6) (v := ?vb6) ?hib6 (by kernel_rfl) (by kernel_rfl) (by kernel_rfl) ?hQb6 ?hyb6 (by assumption) ?hrb6
          case hib6 => (simp only [List.getElem?_toArray, List.getElem?_cons_succ, List.getElem?_cons_zero]; rfl)
          case hQb6 => exact fun _ _ _ h => h
          case hyb6 => (refine Or.inl ⟨by rfl, ?_⟩; intro w hSw; (try dsimp only at hSw); (go_simp <;> with_reducible rfl))
          (try simp only [Act.put, List.setIfInBounds_toArray, List.set_cons_zero, List.set_cons_succ])
          refine wpAnyH_take (i := 7) (oi := ?oib7) (v := ?vb7) ?hib7 (by kernel_rfl) (by kernel_rfl) (by kernel_rfl) ?hQb7 ?hyb7 (by assumption) ?hrb7
          case hib7 => (simp only [List.getElem?_toArray, List.getElem?_cons_succ, List.getElem?_cons_zero]; rfl)
          case hQb7 => exact fun _ _ _ h => h
          case hyb7 => (refine Or.inl ⟨by rfl, ?_⟩; intro w hSw; (try dsimp only at hSw); (go_simp <;> with_reducible rfl))
          (try simp only [Act.put, List.setIfInBounds_toArray, List.set_cons_zero, List.set_cons_succ])
          refine wpAnyH_take (i := 8) (oi := ?oib8) (v := ?vb8) ?hib8 (by kernel_rfl) (by kernel_rfl) (by kernel_rfl) ?hQb8 ?hyb8 (by assumption) ?hrb8
          case hib8 => (simp only [List.getElem?_toArray, List.getElem?_cons_succ, List.getElem?_cons_zero]; rfl)
          case hQb8 => exact fun _ _ _ h => h
          case hyb8 => (refine Or.inl ⟨by rfl, ?_⟩; intro w hSw; (try dsimp only at hSw); (go_simp <;> with_reducible rfl))
          (try simp only [Act.put, List.setIfInBounds_toArray, List.set_cons_zero, List.set_cons_succ])
          refine wpAnyH_take (i := 9) (oi := ?oib9) (v := ?vb9) ?hib9 (by kernel_rfl) (by kernel_rfl) (by kernel_rfl) ?hQb9 ?hyb9 (by assumption) ?hrb9
          case hib9 => (simp only [List.getElem?_toArray, List.getElem?_cons_succ, List.getElem?_cons_zero]; rfl)
          case hQb9 => exact fun _ _ _ h => h
          case hyb9 => (refine Or.inl ⟨by rfl, ?_⟩; intro w hSw; (try dsimp only at hSw); (go_simp <;> with_reducible rfl))
          (try simp only [Act.put, List.setIfInBounds_toArray, List.set_cons_zero, List.set_cons_succ])
          refine wpAnyH_take (i := 10) (oi := ?oib10) (v := undef) ?hib10 (by kernel_rfl) (by kernel_rfl) (by kernel_rfl) ?hQb10 ?hyb10 (by assumption) ?hrb10
          case hib10 => (simp only [List.getElem?_toArray, List.getElem?_cons_succ, List.getElem?_cons_zero]; rfl)
          case hQb10 => exact fun _ _ _ h => h
          case hyb10 => exact Or.inr ⟨by rfl, rfl⟩
          (try simp only [Act.put, List.setIfInBounds_toArray, List.set_cons_zero, List.set_cons_succ])
          refine wpAnyH_take (i := 11) (oi := ?oib11) (v := undef) ?hib11 (by kernel_rfl) (by kernel_rfl) (by kernel_rfl) ?hQb11 ?hyb11 (by assumption) ?hrb11
          case hib11 => (simp only [List.getElem?_toArray, List.getElem?_cons_succ, List.getElem?_cons_zero]; rfl)
          case hQb11 => exact fun _ _ _ h => h
          case hyb11 => exact Or.inr ⟨by rfl, rfl⟩
          (try simp only [Act.put, List.setIfInBounds_toArray, List.set_cons_zero, List.set_cons_succ])
          refine wpAnyH_take (i := 12) (oi := ?oib12) (v := undef) ?hib12 (by kernel_rfl) (by kernel_rfl) (by kernel_rfl) ?hQb12 ?hyb12 (by assumption) ?hrb12
          case hib12 => (simp only [List.getElem?_toArray, List.getElem?_cons_succ, List.getElem?_cons_zero]; rfl)
          case hQb12 => exact fun _ _ _ h => h
          case hyb12 => exact Or.inr ⟨by rfl, rfl⟩
          (try simp only [Act.put, List.setIfInBounds_toArray, List.set_cons_zero, List.set_cons_succ])
          refine wpAnyH_take (i := 13) (oi := ?oib13) (v := undef) ?hib13 (by kernel_rfl) (by kernel_rfl) (by kernel_rfl) ?hQb13 ?hyb13 (by assumption) ?hrb13
          case hib13 => (simp only [List.getElem?_toArray, List.getElem?_cons_succ, List.getElem?_cons_zero]; rfl)
          case hQb13 => exact fun _ _ _ h => h
          case hyb13 => exact Or.inr ⟨by rfl, rfl⟩
          (try simp only [Act.put, List.setIfInBounds_toArray, List.set_cons_zero, List.set_cons_succ])
          refine wpAnyH_take (i := 14) (oi := ?oib14) (v := undef) ?hib14 (by kernel_rfl) (by kernel_rfl) (by kernel_rfl) ?hQb14 ?hyb14 (by assumption) ?hrb14
          case hib14 => (simp only [List.getElem?_toArray, List.getElem?_cons_succ, List.getElem?_cons_zero]; rfl)
          case hQb14 => exact fun _ _ _ h => h
          case hyb14 => exact Or.inr ⟨by rfl, rfl⟩
          (try simp only [Act.put, List.setIfInBounds_toArray, List.set_cons_zero, List.set_cons_succ])
          refine wpAnyH_take (i := 15) (oi := ?oib15) (v := undef) ?hib15 (by kernel_rfl) (by kernel_rfl) (by kernel_rfl) ?hQb15 ?hyb15 (by assumption) ?hrb15
          case hib15 => (simp only [List.getElem?_toArray, List.getElem?_cons_succ, List.getElem?_cons_zero]; rfl)
          case hQb15 => exact fun _ _ _ h => h
          case hyb15 => exact Or.inr ⟨by rfl, rfl⟩
          (try simp only [Act.put, List.setIfInBounds_toArray, List.set_cons_zero, List.set_cons_succ])
          refine wpAnyH_take (i := 16) (oi := ?oib16) (v := undef) ?hib16 (by kernel_rfl) (by kernel_rfl) (by kernel_rfl) ?hQb16 ?hyb16 (by assumption) ?hrb16
          case hib16 => (simp only [List.getElem?_toArray, List.getElem?_cons_succ, List.getElem?_cons_zero]; rfl)
          case hQb16 => exact fun _ _ _ h => h
          case hyb16 => exact Or.inr ⟨by rfl, rfl⟩
          (try simp only [Act.put, List.setIfInBounds_toArray, List.set_cons_zero, List.set_cons_succ])
          refine wpAnyH_take (i := 17) (oi := ?oib17) (v := undef) ?hib17 (by kernel_rfl) (by kernel_rfl) (by kernel_rfl) ?hQb17 ?hyb17 (by assumption) ?hrb17
          case hib17 => (simp only [List.getElem?_toArray, List.getElem?_cons_succ, List.getElem?_cons_zero]; rfl)
          case hQb17 => exact fun _ _ _ h => h
          case hyb17 => exact Or.inr ⟨by rfl, rfl⟩
          (try simp only [Act.put, List.setIfInBounds_toArray, List.set_cons_zero, List.set_cons_succ])
          refine wpAnyH_take (i := 18) (oi := ?oib18) (v := ?vb18) ?hib18 (by kernel_rfl) (by kernel_rfl) (by kernel_rfl) ?hQb18 ?hyb18 (by assumption) ?hrb18
          case hib18 => (simp only [List.getElem?_toArray, List.getElem?_cons_succ, List.getElem?_cons_zero]; rfl)
          case hQb18 => exact fun _ _ _ h => h
          case hyb18 => (refine Or.inl ⟨by rfl, ?_⟩; intro w hSw; (try dsimp only at hSw); (go_simp <;> with_reducible rfl))
          (try simp only [Act.put, List.setIfInBounds_toArray, List.set_cons_zero, List.set_cons_succ])
          refine wpAnyH_take (i := 19) (oi := ?oib19) (v := ?vb19) ?hib19 (by kernel_rfl) (by kernel_rfl) (by kernel_rfl) ?hQb19 ?hyb19 (by assumption) ?hrb19
          case hib19 => (simp only [List.getElem?_toArray, List.getElem?_cons_succ, List.getElem?_cons_zero]; rfl)
          case hQb19 => exact fun _ _ _ h => h
          case hyb19 => (refine Or.inl ⟨by rfl, ?_⟩; intro w hSw; (try dsimp only at hSw); (go_simp <;> with_reducible rfl))
          (try simp only [Act.put, List.setIfInBounds_toArray, List.set_cons_zero, List.set_cons_succ])
          refine wpAnyH_done (by kernel_rfl) ?_ _
          go_wp2
          go_roundw
          case rel => exact ⟨k + 1, k, by omega, by go_num, rfl, hst.out, hbela.trans (B1.mono hbela.size)⟩
          case measure => simp [intOf]; omega
        · obtain ⟨u, v, hxj⟩ := sp_at hl.out (show j < n by omega)
          obtain ⟨d3, d4⟩ := spanOk_bd (spansOk_get HS.out hxj.out)
          have hjI : (j : Int) < (n : Int) := by omega
          obtain rfl : b = j := hb0.out.symm.trans hm
          have hm2 := Lib.hid hm
          clear hm hb0 hc
          by_cases hcmp : u + v < x' + y'
          · have hst := Lib.hid (best_more (c := inB p) hx.out hin hm2.out hxj.out hcmp)
            refine wp_region_held_drew (S := fun w' => (w'.cell? ⟨A, 0, none⟩ = some (.int .i64 x') ∧ w'.cell? ⟨A, 1, none⟩ = some (.int .i64 y')) ∧ w'.cell? ⟨bk, off + j * 2, none⟩ = some (.int .i64 u) ∧ w'.cell? ⟨bk, off + j * 2 + 1, none⟩ = some (.int .i64 v)) (by kernel_rfl) (⟨⟨(KA.out.below B1 KA.out.lt).cell 0, (KA.out.below B1 KA.out.lt).cell 1⟩, (h.below2 (hbela.trans (B1.mono hbela.size)) (Nat.le_refl _)).get2_ hxj.out⟩) (fun hHeld => ?_)
            refine wpAnyH_take (i := 0) (oi := ?oic0) (v := ?vc0) ?hic0 (by kernel_rfl) (by kernel_rfl) (by kernel_rfl) ?hQc0 ?hyc0 (by assumption) ?hrc0
            case hic0 => (simp only [List.getElem?_toArray, List.getElem?_cons_succ, List.getElem?_cons_zero]; rfl)
            case hQc0 => exact fun _ _ _ h => h
            case hyc0 => (refine Or.inl ⟨by rfl, ?_⟩; intro w hSw; (try dsimp only at hSw); (go_simp <;> with_reducible rfl))
            (try simp only [Act.put, List.setIfInBounds_toArray, List.set_cons_zero, List.set_cons_succ])
            refine wpAnyH_take (i := 1) (oi := ?oic1) (v := ?vc1) ?hic1 (by kernel_rfl) (by kernel_rfl) (by kernel_rfl) ?hQc1 ?hyc1 (by assumption) ?hrc1
            case hic1 => (simp only [List.getElem?_toArray, List.getElem?_cons_succ, List.getElem?_cons_zero]; rfl)
            case hQc1 => exact fun _ _ _ h => h
            case hyc1 => (refine Or.inl ⟨by rfl, ?_⟩; intro w hSw; (try dsimp only at hSw); (go_simp <;> with_reducible rfl))
            (try simp only [Act.put, List.setIfInBounds_toArray, List.set_cons_zero, List.set_cons_succ])
            refine wpAnyH_take (i := 3) (oi := ?oic3) (v := ?vc3) ?hic3 (by kernel_rfl) (by kernel_rfl) (by kernel_rfl) ?hQc3 ?hyc3 (by assumption) ?hrc3
            case hic3 => (simp only [List.getElem?_toArray, List.getElem?_cons_succ, List.getElem?_cons_zero]; rfl)
            case hQc3 => exact fun _ _ _ h => h
            case hyc3 => (refine Or.inl ⟨by rfl, ?_⟩; intro w hSw; (try dsimp only at hSw); (go_simp <;> with_reducible rfl))
            (try simp only [Act.put, List.setIfInBounds_toArray, List.set_cons_zero, List.set_cons_succ])
            refine wpAnyH_ready (rs := [2]) (by kernel_rfl) (by simp) ?_
            refine AllReadyH.cons (o := ?oic2) ?hic2 ?hac2 AllReadyH.nil
            case hic2 => (simp only [List.getElem?_toArray, List.getElem?_cons_succ, List.getElem?_cons_zero]; rfl)
            intro K hK
            go_simp
            (go_at_call 65; refine (low_any _ _ _ d1 d2).mono ?_; rintro e w1 ⟨rfl, hb⟩; replace B1 := B1.trans (hb.mono B1.size); clear hb; dsimp only)
            refine hK.out _ _ (⟨⟨(KA.out.below B1 KA.out.lt).cell 0, (KA.out.below B1 KA.out.lt).cell 1⟩, (h.below2 (hbela.trans (B1.mono hbela.size)) (Nat.le_refl _)).get2_ hxj.out⟩) (fun hHeld => ?_)
            clear hK K
            (try simp only [Act.put, List.setIfInBounds_toArray, List.set_cons_zero, List.set_cons_succ])
            refine wpAnyH_ready (rs := [4]) (by kernel_rfl) (by simp) ?_
            refine AllReadyH.cons (o := ?oic4) ?hic4 ?hac4 AllReadyH.nil
            case hic4 => (simp only [List.getElem?_toArray, List.getElem?_cons_succ, List.getElem?_cons_zero]; rfl)
            intro K hK
            go_simp
            (go_at_call 55; refine (high_any _ _ _ d1 d2).mono ?_; rintro e w1 ⟨rfl, hb⟩; replace B1 := B1.trans (hb.mono B1.size); clear hb; dsimp only)
            refine hK.out _ _ (⟨⟨(KA.out.below B1 KA.out.lt).cell 0, (KA.out.below B1 KA.out.lt).cell 1⟩, (h.below2 (hbela.trans (B1.mono hbela.size)) (Nat.le_refl _)).get2_ hxj.out⟩) (fun hHeld => ?_)
            clear hK K
            (try simp only [Act.put, List.setIfInBounds_toArray, List.set_cons_zero, List.set_cons_succ])
            refine wpAnyH_ready (rs := [5]) (by kernel_rfl) (by simp) ?_
            refine AllReadyH.cons (o := ?oic5) ?hic5 ?hac5 AllReadyH.nil
            case hic5 => (simp only [List.getElem?_toArray, List.getElem?_cons_succ, List.getElem?_cons_zero]; rfl)
            intro K hK
            go_simp
            (go_at_call 50; refine (within_any _ _ _ _).mono ?_; rintro e w3 ⟨rfl, rfl⟩; rw [hin]; dsimp only)
            refine hK.out _ _ (⟨⟨(KA.out.below B1 KA.out.lt).cell 0, (KA.out.below B1 KA.out.lt).cell 1⟩, (h.below2 (hbela.trans (B1.mono hbela.size)) (Nat.le_refl _)).get2_ hxj.out⟩) (fun hHeld => ?_)
            clear hK K
            (try simp only [Act.put, List.setIfInBounds_toArray, List.set_cons_zero, List.set_cons_succ])
            refine wpAnyH_take (i := 6) (oi := ?oic6) (v := ?vc6) ?hic6 (by kernel_rfl) (by kernel_rfl) (by kernel_rfl) ?hQc6 ?hyc6 (by assumption) ?hrc6
            case hic6 => (simp only [List.getElem?_toArray, List.getElem?_cons_succ, List.getElem?_cons_zero]; rfl)
            case hQc6 => exact fun _ _ _ h => h
            case hyc6 => (refine Or.inl ⟨by rfl, ?_⟩; intro w hSw; (try dsimp only at hSw); (go_simp <;> with_reducible rfl))
            (try simp only [Act.put, List.setIfInBounds_toArray, List.set_cons_zero, List.set_cons_succ])
            refine wpAnyH_take (i := 7) (oi := ?oic7) (v := ?vc7) ?hic7 (by kernel_rfl) (by kernel_rfl) (by kernel_rfl) ?hQc7 ?hyc7 (by assumption) ?hrc7
            case hic7 => (simp only [List.getElem?_toArray, List.getElem?_cons_succ, List.getElem?_cons_zero]; rfl)
            case hQc7 => exact fun _ _ _ h => h
            case hyc7 => (refine Or.inl ⟨by rfl, ?_⟩; intro w hSw; (try dsimp only at hSw); (go_simp <;> with_reducible rfl))
            (try simp only [Act.put, List.setIfInBounds_toArray, List.set_cons_zero, List.set_cons_succ])
            refine wpAnyH_take (i := 8) (oi := ?oic8) (v := ?vc8) ?hic8 (by kernel_rfl) (by kernel_rfl) (by kernel_rfl) ?hQc8 ?hyc8 (by assumption) ?hrc8
            case hic8 => (simp only [List.getElem?_toArray, List.getElem?_cons_succ, List.getElem?_cons_zero]; rfl)
            case hQc8 => exact fun _ _ _ h => h
            case hyc8 => (refine Or.inl ⟨by rfl, ?_⟩; intro w hSw; (try dsimp only at hSw); (go_simp <;> with_reducible rfl))
            (try simp only [Act.put, List.setIfInBounds_toArray, List.set_cons_zero, List.set_cons_succ])
            refine wpAnyH_take (i := 9) (oi := ?oic9) (v := ?vc9) ?hic9 (by kernel_rfl) (by kernel_rfl) (by kernel_rfl) ?hQc9 ?hyc9 (by assumption) ?hrc9
            case hic9 => (simp only [List.getElem?_toArray, List.getElem?_cons_succ, List.getElem?_cons_zero]; rfl)
            case hQc9 => exact fun _ _ _ h => h
            case hyc9 => (refine Or.inl ⟨by rfl, ?_⟩; intro w hSw; (try dsimp only at hSw); (go_simp <;> with_reducible rfl))
            (try simp only [Act.put, List.setIfInBounds_toArray, List.set_cons_zero, List.set_cons_succ])
            refine wpAnyH_take (i := 10) (oi := ?oic10) (v := ?vc10) ?hic10 (by kernel_rfl) (by kernel_rfl) (by kernel_rfl) ?hQc10 ?hyc10 (by assumption) ?hrc10
            case hic10 => (simp only [List.getElem?_toArray, List.getElem?_cons_succ, List.getElem?_cons_zero]; rfl)
            case hQc10 => exact fun _ _ _ h => h
            case hyc10 => (refine Or.inl ⟨by rfl, ?_⟩; intro w hSw; (try dsimp only at hSw); (go_simp <;> with_reducible rfl))
            (try simp only [Act.put, List.setIfInBounds_toArray, List.set_cons_zero, List.set_cons_succ])
            refine wpAnyH_take (i := 12) (oi := ?oic12) (v := ?vc12) ?hic12 (by kernel_rfl) (by kernel_rfl) (by kernel_rfl) ?hQc12 ?hyc12 (by assumption) ?hrc12
            case hic12 => (simp only [List.getElem?_toArray, List.getElem?_cons_succ, List.getElem?_cons_zero]; rfl)
            case hQc12 => exact fun _ _ _ h => h
            case hyc12 => (refine Or.inl ⟨by rfl, ?_⟩; intro w hSw; (try dsimp only at hSw); (go_simp <;> with_reducible rfl))
            (try simp only [Act.put, List.setIfInBounds_toArray, List.set_cons_zero, List.set_cons_succ])
            refine wpAnyH_take (i := 13) (oi := ?oic13) (v := ?vc13) ?hic13 (by kernel_rfl) (by kernel_rfl) (by kernel_rfl) ?hQc13 ?hyc13 (by assumption) ?hrc13
            case hic13 => (simp only [List.getElem?_toArray, List.getElem?_cons_succ, List.getElem?_cons_zero]; rfl)
            case hQc13 => exact fun _ _ _ h => h
            case hyc13 => (refine Or.inl ⟨by rfl, ?_⟩; intro w hSw; (try dsimp only at hSw); (go_simp <;> with_reducible rfl))
            (try simp only [Act.put, List.setIfInBounds_toArray, List.set_cons_zero, List.set_cons_succ])
            refine wpAnyH_take (i := 14) (oi := ?oic14) (v := ?vc14) ?hic14 (by kernel_rfl) (by kernel_rfl) (by kernel_rfl) ?hQc14 ?hyc14 (by assumption) ?hrc14
            case hic14 => (simp only [List.getElem?_toArray, List.getElem?_cons_succ, List.getElem?_cons_zero]; rfl)
            case hQc14 => exact fun _ _ _ h => h
            case hyc14 => (refine Or.inl ⟨by rfl, ?_⟩; intro w hSw; (try dsimp only at hSw); (go_simp <;> with_reducible rfl))
            (try simp only [Act.put, List.setIfInBounds_toArray, List.set_cons_zero, List.set_cons_succ])
            refine wpAnyH_take (i := 15) (oi := ?oic15) (v := ?vc15) ?hic15 (by kernel_rfl) (by kernel_rfl) (by kernel_rfl) ?hQc15 ?hyc15 (by assumption) ?hrc15
            case hic15 => (simp only [List.getElem?_toArray, List.getElem?_cons_succ, List.getElem?_cons_zero]; rfl)
            case hQc15 => exact fun _ _ _ h => h
            case hyc15 => (refine Or.inl ⟨by rfl, ?_⟩; intro w hSw; (try dsimp only at hSw); (go_simp <;> with_reducible rfl))
            (try simp only [Act.put, List.setIfInBounds_toArray, List.set_cons_zero, List.set_cons_succ])
            refine wpAnyH_ready (rs := [11]) (by kernel_rfl) (by simp) ?_
            refine AllReadyH.cons (o := ?oic11) ?hic11 ?hac11 AllReadyH.nil
            case hic11 => (simp only [List.getElem?_toArray, List.getElem?_cons_succ, List.getElem?_cons_zero]; rfl)
            intro K hK
            go_simp
            (go_at_call 55; refine (high_any _ _ _ d1 d2).mono ?_; rintro e w1 ⟨rfl, hb⟩; replace B1 := B1.trans (hb.mono B1.size); clear hb; dsimp only)
            refine hK.out _ _ (⟨⟨(KA.out.below B1 KA.out.lt).cell 0, (KA.out.below B1 KA.out.lt).cell 1⟩, (h.below2 (hbela.trans (B1.mono hbela.size)) (Nat.le_refl _)).get2_ hxj.out⟩) (fun hHeld => ?_)
            clear hK K
            (try simp only [Act.put, List.setIfInBounds_toArray, List.set_cons_zero, List.set_cons_succ])
            refine wpAnyH_ready (rs := [16]) (by kernel_rfl) (by simp) ?_
            refine AllReadyH.cons (o := ?oic16) ?hic16 ?hac16 AllReadyH.nil
            case hic16 => (simp only [List.getElem?_toArray, List.getElem?_cons_succ, List.getElem?_cons_zero]; rfl)
            intro K hK
            go_simp
            (go_at_call 55; refine (high_any _ _ _ d3 d4).mono ?_; rintro e w1 ⟨rfl, hb⟩; replace B1 := B1.trans (hb.mono B1.size); clear hb; dsimp only)
            refine hK.out _ _ (⟨⟨(KA.out.below B1 KA.out.lt).cell 0, (KA.out.below B1 KA.out.lt).cell 1⟩, (h.below2 (hbela.trans (B1.mono hbela.size)) (Nat.le_refl _)).get2_ hxj.out⟩) (fun hHeld => ?_)
            clear hK K
            (try simp only [Act.put, List.setIfInBounds_toArray, List.set_cons_zero, List.set_cons_succ])
            refine wpAnyH_take (i := 17) (oi := ?oic17) (v := ?vc17) ?hic17 (by kernel_rfl) (by kernel_rfl) (by kernel_rfl) ?hQc17 ?hyc17 (by assumption) ?hrc17
            case hic17 => (simp only [List.getElem?_toArray, List.getElem?_cons_succ, List.getElem?_cons_zero]; rfl)
            case hQc17 => exact fun _ _ _ h => h
            case hyc17 => (refine Or.inl ⟨by rfl, ?_⟩; intro w hSw; (try dsimp only at hSw); (go_simp <;> with_reducible rfl))
            (try simp only [Act.put, List.setIfInBounds_toArray, List.set_cons_zero, List.set_cons_succ])
            refine wpAnyH_take (i := 18) (oi := ?oic18) (v := ?vc18) ?hic18 (by kernel_rfl) (by kernel_rfl) (by kernel_rfl) ?hQc18 ?hyc18 (by assumption) ?hrc18
            case hic18 => (simp only [List.getElem?_toArray, List.getElem?_cons_succ, List.getElem?_cons_zero]; rfl)
            case hQc18 => exact fun _ _ _ h => h
            case hyc18 => (refine Or.inl ⟨by rfl, ?_⟩; intro w hSw; (try dsimp only at hSw); (go_simp <;> with_reducible rfl))
            (try simp only [Act.put, List.setIfInBounds_toArray, List.set_cons_zero, List.set_cons_succ])
            refine wpAnyH_take (i := 19) (oi := ?oic19) (v := ?vc19) ?hic19 (by kernel_rfl) (by kernel_rfl) (by kernel_rfl) ?hQc19 ?hyc19 (by assumption) ?hrc19
            case hic19 => (simp only [List.getElem?_toArray, List.getElem?_cons_succ, List.getElem?_cons_zero]; rfl)
            case hQc19 => exact fun _ _ _ h => h
            case hyc19 => (refine Or.inl ⟨by rfl, ?_⟩; intro w hSw; (try dsimp only at hSw); (go_simp <;> with_reducible rfl))
            (try simp only [Act.put, List.setIfInBounds_toArray, List.set_cons_zero, List.set_cons_succ])
            refine wpAnyH_done (by kernel_rfl) ?_ _
            go_wp2
            go_roundw
            case rel => exact ⟨k + 1, k, by omega, by go_num, rfl, hst.out, hbela.trans (B1.mono hbela.size)⟩
            case measure => simp [intOf]; omega
          · have hst := Lib.hid (best_less (c := inB p) hx.out hin hm2.out hxj.out hcmp)
            refine wp_region_held_drew (S := fun w' => (w'.cell? ⟨A, 0, none⟩ = some (.int .i64 x') ∧ w'.cell? ⟨A, 1, none⟩ = some (.int .i64 y')) ∧ w'.cell? ⟨bk, off + j * 2, none⟩ = some (.int .i64 u) ∧ w'.cell? ⟨bk, off + j * 2 + 1, none⟩ = some (.int .i64 v)) (by kernel_rfl) (⟨⟨(KA.out.below B1 KA.out.lt).cell 0, (KA.out.below B1 KA.out.lt).cell 1⟩, (h.below2 (hbela.trans (B1.mono hbela.size)) (Nat.le_refl _)).get2_ hxj.out⟩) (fun hHeld => ?_)
            refine wpAnyH_take (i := 0) (oi := ?oid0) (v := ?vd0) ?hid0 (by kernel_rfl) (by kernel_rfl) (by kernel_rfl) ?hQd0 ?hyd0 (by assumption) ?hrd0
            case hid0 => (simp only [List.getElem?_toArray, List.getElem?_cons_succ, List.getElem?_cons_zero]; rfl)
            case hQd0 => exact fun _ _ _ h => h
            case hyd0 => (refine Or.inl ⟨by rfl, ?_⟩; intro w hSw; (try dsimp only at hSw); (go_simp <;> with_reducible rfl))
            (try simp only [Act.put, List.setIfInBounds_toArray, List.set_cons_zero, List.set_cons_succ])
            refine wpAnyH_take (i := 1) (oi := ?oid1) (v := ?vd1) ?hid1 (by kernel_rfl) (by kernel_rfl) (by kernel_rfl) ?hQd1 ?hyd1 (by assumption) ?hrd1
            case hid1 => (simp only [List.getElem?_toArray, List.getElem?_cons_succ, List.getElem?_cons_zero]; rfl)
            case hQd1 => exact fun _ _ _ h => h
            case hyd1 => (refine Or.inl ⟨by rfl, ?_⟩; intro w hSw; (try dsimp only at hSw); (go_simp <;> with_reducible rfl))
            (try simp only [Act.put, List.setIfInBounds_toArray, List.set_cons_zero, List.set_cons_succ])
            refine wpAnyH_take (i := 3) (oi := ?oid3) (v := ?vd3) ?hid3 (by kernel_rfl) (by kernel_rfl) (by kernel_rfl) ?hQd3 ?hyd3 (by assumption) ?hrd3
            case hid3 => (simp only [List.getElem?_toArray, List.getElem?_cons_succ, List.getElem?_cons_zero]; rfl)
            case hQd3 => exact fun _ _ _ h => h
            case hyd3 => (refine Or.inl ⟨by rfl, ?_⟩; intro w hSw; (try dsimp only at hSw); (go_simp <;> with_reducible rfl))
            (try simp only [Act.put, List.setIfInBounds_toArray, List.set_cons_zero, List.set_cons_succ])
            refine wpAnyH_ready (rs := [2]) (by kernel_rfl) (by simp) ?_
            refine AllReadyH.cons (o := ?oid2) ?hid2 ?had2 AllReadyH.nil
            case hid2 => (simp only [List.getElem?_toArray, List.getElem?_cons_succ, List.getElem?_cons_zero]; rfl)
            intro K hK
            go_simp
            (go_at_call 65; refine (low_any _ _ _ d1 d2).mono ?_; rintro e w1 ⟨rfl, hb⟩; replace B1 := B1.trans (hb.mono B1.size); clear hb; dsimp only)
            refine hK.out _ _ (⟨⟨(KA.out.below B1 KA.out.lt).cell 0, (KA.out.below B1 KA.out.lt).cell 1⟩, (h.below2 (hbela.trans (B1.mono hbela.size)) (Nat.le_refl _)).get2_ hxj.out⟩) (fun hHeld => ?_)
            clear hK K
            (try simp only [Act.put, List.setIfInBounds_toArray, List.set_cons_zero, List.set_cons_succ])
            refine wpAnyH_ready (rs := [4]) (by kernel_rfl) (by simp) ?_
            refine AllReadyH.cons (o := ?oid4) ?hid4 ?had4 AllReadyH.nil
            case hid4 => (simp only [List.getElem?_toArray, List.getElem?_cons_succ, List.getElem?_cons_zero]; rfl)
            intro K hK
            go_simp
            (go_at_call 55; refine (high_any _ _ _ d1 d2).mono ?_; rintro e w1 ⟨rfl, hb⟩; replace B1 := B1.trans (hb.mono B1.size); clear hb; dsimp only)
            refine hK.out _ _ (⟨⟨(KA.out.below B1 KA.out.lt).cell 0, (KA.out.below B1 KA.out.lt).cell 1⟩, (h.below2 (hbela.trans (B1.mono hbela.size)) (Nat.le_refl _)).get2_ hxj.out⟩) (fun hHeld => ?_)
            clear hK K
            (try simp only [Act.put, List.setIfInBounds_toArray, List.set_cons_zero, List.set_cons_succ])
            refine wpAnyH_ready (rs := [5]) (by kernel_rfl) (by simp) ?_
            refine AllReadyH.cons (o := ?oid5) ?hid5 ?had5 AllReadyH.nil
            case hid5 => (simp only [List.getElem?_toArray, List.getElem?_cons_succ, List.getElem?_cons_zero]; rfl)
            intro K hK
            go_simp
            (go_at_call 50; refine (within_any _ _ _ _).mono ?_; rintro e w3 ⟨rfl, rfl⟩; rw [hin]; dsimp only)
            refine hK.out _ _ (⟨⟨(KA.out.below B1 KA.out.lt).cell 0, (KA.out.below B1 KA.out.lt).cell 1⟩, (h.below2 (hbela.trans (B1.mono hbela.size)) (Nat.le_refl _)).get2_ hxj.out⟩) (fun hHeld => ?_)
            clear hK K
            (try simp only [Act.put, List.setIfInBounds_toArray, List.set_cons_zero, List.set_cons_succ])
            refine wpAnyH_take (i := 6) (oi := ?oid6) (v := ?vd6) ?hid6 (by kernel_rfl) (by kernel_rfl) (by kernel_rfl) ?hQd6 ?hyd6 (by assumption) ?hrd6
            case hid6 => (simp only [List.getElem?_toArray, List.getElem?_cons_succ, List.getElem?_cons_zero]; rfl)
            case hQd6 => exact fun _ _ _ h => h
            case hyd6 => (refine Or.inl ⟨by rfl, ?_⟩; intro w hSw; (try dsimp only at hSw); (go_simp <;> with_reducible rfl))
            (try simp only [Act.put, List.setIfInBounds_toArray, List.set_cons_zero, List.set_cons_succ])
            refine wpAnyH_take (i := 7) (oi := ?oid7) (v := ?vd7) ?hid7 (by kernel_rfl) (by kernel_rfl) (by kernel_rfl) ?hQd7 ?hyd7 (by assumption) ?hrd7
            case hid7 => (simp only [List.getElem?_toArray, List.getElem?_cons_succ, List.getElem?_cons_zero]; rfl)
            case hQd7 => exact fun _ _ _ h => h
            case hyd7 => (refine Or.inl ⟨by rfl, ?_⟩; intro w hSw; (try dsimp only at hSw); (go_simp <;> with_reducible rfl))
            (try simp only [Act.put, List.setIfInBounds_toArray, List.set_cons_zero, List.set_cons_succ])
            refine wpAnyH_take (i := 8) (oi := ?oid8) (v := ?vd8) ?hid8 (by kernel_rfl) (by kernel_rfl) (by kernel_rfl) ?hQd8 ?hyd8 (by assumption) ?hrd8
            case hid8 => (simp only [List.getElem?_toArray, List.getElem?_cons_succ, List.getElem?_cons_zero]; rfl)
            case hQd8 => exact fun _ _ _ h => h
            case hyd8 => (refine Or.inl ⟨by rfl, ?_⟩; intro w hSw; (try dsimp only at hSw); (go_simp <;> with_reducible rfl))
            (try simp only [Act.put, List.setIfInBounds_toArray, List.set_cons_zero, List.set_cons_succ])
            refine wpAnyH_take (i := 9) (oi := ?oid9) (v := ?vd9) ?hid9 (by kernel_rfl) (by kernel_rfl) (by kernel_rfl) ?hQd9 ?hyd9 (by assumption) ?hrd9
            case hid9 => (simp only [List.getElem?_toArray, List.getElem?_cons_succ, List.getElem?_cons_zero]; rfl)
            case hQd9 => exact fun _ _ _ h => h
            case hyd9 => (refine Or.inl ⟨by rfl, ?_⟩; intro w hSw; (try dsimp only at hSw); (go_simp <;> with_reducible rfl))
            (try simp only [Act.put, List.setIfInBounds_toArray, List.set_cons_zero, List.set_cons_succ])
            refine wpAnyH_take (i := 10) (oi := ?oid10) (v := ?vd10) ?hid10 (by kernel_rfl) (by kernel_rfl) (by kernel_rfl) ?hQd10 ?hyd10 (by assumption) ?hrd10
            case hid10 => (simp only [List.getElem?_toArray, List.getElem?_cons_succ, List.getElem?_cons_zero]; rfl)
            case hQd10 => exact fun _ _ _ h => h
            case hyd10 => (refine Or.inl ⟨by rfl, ?_⟩; intro w hSw; (try dsimp only at hSw); (go_simp <;> with_reducible rfl))
            (try simp only [Act.put, List.setIfInBounds_toArray, List.set_cons_zero, List.set_cons_succ])
            refine wpAnyH_take (i := 12) (oi := ?oid12) (v := ?vd12) ?hid12 (by kernel_rfl) (by kernel_rfl) (by kernel_rfl) ?hQd12 ?hyd12 (by assumption) ?hrd12
            case hid12 => (simp only [List.getElem?_toArray, List.getElem?_cons_succ, List.getElem?_cons_zero]; rfl)
            case hQd12 => exact fun _ _ _ h => h
            case hyd12 => (refine Or.inl ⟨by rfl, ?_⟩; intro w hSw; (try dsimp only at hSw); (go_simp <;> with_reducible rfl))
            (try simp only [Act.put, List.setIfInBounds_toArray, List.set_cons_zero, List.set_cons_succ])
            refine wpAnyH_take (i := 13) (oi := ?oid13) (v := ?vd13) ?hid13 (by kernel_rfl) (by kernel_rfl) (by kernel_rfl) ?hQd13 ?hyd13 (by assumption) ?hrd13
            case hid13 => (simp only [List.getElem?_toArray, List.getElem?_cons_succ, List.getElem?_cons_zero]; rfl)
            case hQd13 => exact fun _ _ _ h => h
            case hyd13 => (refine Or.inl ⟨by rfl, ?_⟩; intro w hSw; (try dsimp only at hSw); (go_simp <;> with_reducible rfl))
            (try simp only [Act.put, List.setIfInBounds_toArray, List.set_cons_zero, List.set_cons_succ])
            refine wpAnyH_take (i := 14) (oi := ?oid14) (v := ?vd14) ?hid14 (by kernel_rfl) (by kernel_rfl) (by kernel_rfl) ?hQd14 ?hyd14 (by assumption) ?hrd14
            case hid14 => (simp only [List.getElem?_toArray, List.getElem?_cons_succ, List.getElem?_cons_zero]; rfl)
            case hQd14 => exact fun _ _ _ h => h
            case hyd14 => (refine Or.inl ⟨by rfl, ?_⟩; intro w hSw; (try dsimp only at hSw); (go_simp <;> with_reducible rfl))
            (try simp only [Act.put, List.setIfInBounds_toArray, List.set_cons_zero, List.set_cons_succ])
            refine wpAnyH_take (i := 15) (oi := ?oid15) (v := ?vd15) ?hid15 (by kernel_rfl) (by kernel_rfl) (by kernel_rfl) ?hQd15 ?hyd15 (by assumption) ?hrd15
            case hid15 => (simp only [List.getElem?_toArray, List.getElem?_cons_succ, List.getElem?_cons_zero]; rfl)
            case hQd15 => exact fun _ _ _ h => h
            case hyd15 => (refine Or.inl ⟨by rfl, ?_⟩; intro w hSw; (try dsimp only at hSw); (go_simp <;> with_reducible rfl))
            (try simp only [Act.put, List.setIfInBounds_toArray, List.set_cons_zero, List.set_cons_succ])
            refine wpAnyH_ready (rs := [11]) (by kernel_rfl) (by simp) ?_
            refine AllReadyH.cons (o := ?oid11) ?hid11 ?had11 AllReadyH.nil
            case hid11 => (simp only [List.getElem?_toArray, List.getElem?_cons_succ, List.getElem?_cons_zero]; rfl)
            intro K hK
            go_simp
            (go_at_call 55; refine (high_any _ _ _ d1 d2).mono ?_; rintro e w1 ⟨rfl, hb⟩; replace B1 := B1.trans (hb.mono B1.size); clear hb; dsimp only)
            refine hK.out _ _ (⟨⟨(KA.out.below B1 KA.out.lt).cell 0, (KA.out.below B1 KA.out.lt).cell 1⟩, (h.below2 (hbela.trans (B1.mono hbela.size)) (Nat.le_refl _)).get2_ hxj.out⟩) (fun hHeld => ?_)
            clear hK K
            (try simp only [Act.put, List.setIfInBounds_toArray, List.set_cons_zero, List.set_cons_succ])
            refine wpAnyH_ready (rs := [16]) (by kernel_rfl) (by simp) ?_
            refine AllReadyH.cons (o := ?oid16) ?hid16 ?had16 AllReadyH.nil
            case hid16 => (simp only [List.getElem?_toArray, List.getElem?_cons_succ, List.getElem?_cons_zero]; rfl)
            intro K hK
            go_simp
            (go_at_call 55; refine (high_any _ _ _ d3 d4).mono ?_; rintro e w1 ⟨rfl, hb⟩; replace B1 := B1.trans (hb.mono B1.size); clear hb; dsimp only)
            refine hK.out _ _ (⟨⟨(KA.out.below B1 KA.out.lt).cell 0, (KA.out.below B1 KA.out.lt).cell 1⟩, (h.below2 (hbela.trans (B1.mono hbela.size)) (Nat.le_refl _)).get2_ hxj.out⟩) (fun hHeld => ?_)
            clear hK K
            (try simp only [Act.put, List.setIfInBounds_toArray, List.set_cons_zero, List.set_cons_succ])
            refine wpAnyH_take (i := 17) (oi := ?oid17) (v := ?vd17) ?hid17 (by kernel_rfl) (by kernel_rfl) (by kernel_rfl) ?hQd17 ?hyd17 (by assumption) ?hrd17
            case hid17 => (simp only [List.getElem?_toArray, List.getElem?_cons_succ, List.getElem?_cons_zero]; rfl)
            case hQd17 => exact fun _ _ _ h => h
            case hyd17 => (refine Or.inl ⟨by rfl, ?_⟩; intro w hSw; (try dsimp only at hSw); (go_simp <;> with_reducible rfl))
            (try simp only [Act.put, List.setIfInBounds_toArray, List.set_cons_zero, List.set_cons_succ])
            refine wpAnyH_take (i := 18) (oi := ?oid18) (v := ?vd18) ?hid18 (by kernel_rfl) (by kernel_rfl) (by kernel_rfl) ?hQd18 ?hyd18 (by assumption) ?hrd18
            case hid18 => (simp only [List.getElem?_toArray, List.getElem?_cons_succ, List.getElem?_cons_zero]; rfl)
            case hQd18 => exact fun _ _ _ h => h
            case hyd18 => (refine Or.inl ⟨by rfl, ?_⟩; intro w hSw; (try dsimp only at hSw); (go_simp <;> with_reducible rfl))
            (try simp only [Act.put, List.setIfInBounds_toArray, List.set_cons_zero, List.set_cons_succ])
            refine wpAnyH_take (i := 19) (oi := ?oid19) (v := ?vd19) ?hid19 (by kernel_rfl) (by kernel_rfl) (by kernel_rfl) ?hQd19 ?hyd19 (by assumption) ?hrd19
            case hid19 => (simp only [List.getElem?_toArray, List.getElem?_cons_succ, List.getElem?_cons_zero]; rfl)
            case hQd19 => exact fun _ _ _ h => h
            case hyd19 => (refine Or.inl ⟨by rfl, ?_⟩; intro w hSw; (try dsimp only at hSw); (go_simp <;> with_reducible rfl))
            (try simp only [Act.put, List.setIfInBounds_toArray, List.set_cons_zero, List.set_cons_succ])
            refine wpAnyH_done (by kernel_rfl) ?_ _
            go_wp2
            go_roundw
            case rel => exact ⟨k + 1, j, by omega, by go_num, rfl, hst.out, hbela.trans (B1.mono hbela.size)⟩
            case measure => simp [intOf]; omega
    · go_wp2
      go_ret
      have hd : k = n := by omega
      subst hd
      exact ⟨by rw [hb0.out]; rfl, hbel⟩
end Go.Proofs.Ytdihpllebccncaa
