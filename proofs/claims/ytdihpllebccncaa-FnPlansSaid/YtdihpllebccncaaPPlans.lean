/- The law of even plans: plain, as the walk needs it. -/
import Derived.Test.YtdihpllebccncaaEven
import Derived.Test.YtdihpllebccncaaGapsOf0
namespace Go.Proofs.Ytdihpllebccncaa
open Go.RowKit
set_option maxRecDepth 100000
set_option linter.unusedVariables false

def planSpans (h : Int) (xs : List Int) : List I2 := xs.map fun x => (x, h)
theorem planSpans_snoc (h : Int) {xs : List Int} {k : Nat} {x : Int} (hx : xs[k]? = some x) : planSpans h (xs.take (k + 1)) = planSpans h (xs.take k) ++ [(x, h)] := by
  rw [take_snoc hx]; simp [planSpans]
theorem planPt_next {W h o : Int} (hs : 0 ≤ 2 * h - o) (k : Nat) : planPt W h o k ≤ planPt W h o (k + 1) ∧ planPt W h o (k + 1) - planPt W h o k ≤ 2 * h - o := by
  unfold planPt
  have e : (((k + 1 : Nat) : Int)) * (2 * h - o) = (k : Int) * (2 * h - o) + (2 * h - o) := by
    rw [Int.natCast_add, Int.add_mul]; simp
  rw [e]
  generalize (k : Int) * (2 * h - o) = t
  omega
theorem planPt_lt {W h o : Int} (hs : 0 < 2 * h - o) {k : Nat} (hk : (k : Int) * (2 * h - o) < W - 2 * h) : planPt W h o k < planPt W h o (k + 1) := by
  unfold planPt
  have e : (((k + 1 : Nat) : Int)) * (2 * h - o) = (k : Int) * (2 * h - o) + (2 * h - o) := by
    rw [Int.natCast_add, Int.add_mul]; simp
  rw [e]
  revert hk
  generalize (k : Int) * (2 * h - o) = t
  intro hk
  omega
theorem planPt_zero {W h o : Int} (e : ¬ 2 * h ≥ W) : planPt W h o 0 = h := by
  unfold planPt
  have : ((0 : Nat) : Int) * (2 * h - o) = 0 := by simp
  rw [this]
  omega
theorem plan_hits {W h o q : Int} (e : ¬ 2 * h ≥ W) (e3 : ¬ o ≥ 2 * h) (ho : 0 ≤ o) (hq : 0 ≤ q) : ∀ m : Nat, q < planPt W h o m + h → ∃ i, i ≤ m ∧ planPt W h o i - h ≤ q ∧ q + 1 ≤ planPt W h o i + h
  | 0, hm => ⟨0, Nat.le_refl _, by rw [planPt_zero e]; omega, by omega⟩
  | m + 1, hm => by
    by_cases hl : planPt W h o (m + 1) - h ≤ q
    · exact ⟨m + 1, Nat.le_refl _, hl, by omega⟩
    · have := (planPt_next (W := W) (h := h) (o := o) (by omega) m).2
      obtain ⟨i, h1, h2, h3⟩ := plan_hits e e3 ho hq m (by omega)
      exact ⟨i, by omega, h2, h3⟩

/-- What a plan that there is says. -/
structure PlanIs (W h o : Int) (xs : List Int) : Prop where
  bd : (1 ≤ W ∧ W ≤ 10000) ∧ (1 ≤ h ∧ h ≤ 10000) ∧ (0 ≤ o ∧ o ≤ 10000)
  pos : 0 < xs.length
  len : xs.length ≤ 60
  step : ∀ (k : Nat) (x y : Int), xs[k]? = some x → xs[k + 1]? = some y → x < y ∧ y - x ≤ 2 * h - o
  within : ∀ (k : Nat) (x : Int), xs[k]? = some x → 0 ≤ x ∧ x ≤ 10000
  least : xs.length = 1 ∨ (0 < 2 * h - o ∧ 2 * h + ((xs.length : Int) - 2) * (2 * h - o) < W)
  covers : isCovered W (planSpans h xs) = (true, 0)

theorem planSpans_ok {h : Int} {xs : List Int} (hh : 1 ≤ h ∧ h ≤ 10000) (hl : xs.length ≤ 60) (hb : ∀ (k : Nat) (x : Int), xs[k]? = some x → 0 ≤ x ∧ x ≤ 10000) : spansOk (planSpans h xs) = true := by
  simp only [spansOk, Bool.and_eq_true, List.all_eq_true, decide_eq_true_eq]
  refine ⟨fun s hs => ?_, by simp [planSpans]; omega⟩
  obtain ⟨x, hx, rfl⟩ := List.mem_map.1 hs
  obtain ⟨k, hk⟩ := List.mem_iff_getElem?.1 hx
  have := hb k x hk
  simp [spanOk, inR]; omega

theorem plan_covers {W h : Int} {xs : List Int} (hw : 1 ≤ W ∧ W ≤ 10000) (hh : 1 ≤ h ∧ h ≤ 10000) (hl : xs.length ≤ 60) (hb : ∀ (k : Nat) (x : Int), xs[k]? = some x → 0 ≤ x ∧ x ≤ 10000)
    (hc : ∀ q : Int, 0 ≤ q → q < W → ∃ x ∈ xs, x - h ≤ q ∧ q + 1 ≤ x + h) : isCovered W (planSpans h xs) = (true, 0) := by
  have hok := planSpans_ok hh hl hb
  have h0 : coverC W (planSpans h xs) = 0 := by
    rw [coverC, if_pos hok, if_pos (by simp [inR]; omega)]
  rw [isCovered_yes h0, decide_eq_true]
  refine gapsL_nil.2 fun j j1 j2 => ?_
  obtain ⟨x, hx, h1, h2⟩ := hc j j1 j2
  exact unitB_iff.2 ⟨(x, h), List.mem_map.2 ⟨x, hx, rfl⟩, h1, h2⟩

theorem planPts_get (W h o : Int) {n k : Nat} {x : Int} (hx : (planPts W h o n)[k]? = some x) : k < n ∧ x = planPt W h o k := by
  have hk : k < n := by have := (List.getElem?_eq_some_iff.1 hx).1; rwa [planPts_len] at this
  refine ⟨hk, ?_⟩
  rw [planPts, List.getElem?_map, List.getElem?_range hk] at hx
  injection hx with hx
  exact hx.symm

theorem plan_is {W h o : Int} (e : (evenPlan W h o).2 = 0) : PlanIs W h o (evenPlan W h o).1 := by
  cases hok : planOk W h o with
  | false => rw [evenPlan_no hok] at e; exact absurd e (by decide)
  | true =>
    have hb := planOk_true hok
    by_cases e2 : 2 * h ≥ W
    · rw [evenPlan_one hok e2]
      have hin : ∀ (k : Nat) (x : Int), [h][k]? = some x → 0 ≤ x ∧ x ≤ 10000 := by
        intro k x hx
        have := List.mem_of_getElem? hx
        simp at this
        omega
      refine ⟨hb, by simp, by simp, ?_, hin, .inl rfl, plan_covers hb.1 hb.2.1 (by simp) hin fun q q1 q2 => ⟨h, by simp, by omega, by omega⟩⟩
      intro k x y _ hy
      simp at hy
    · by_cases e3 : o ≥ 2 * h
      · rw [evenPlan_state hok e2 e3] at e; exact absurd e (by decide)
      · by_cases e4 : planN W h o > 60
        · rw [evenPlan_limit hok e2 e3 e4] at e; exact absurd e (by decide)
        · obtain ⟨p1, p2, p3⟩ := planN_spec e2 e3
          rw [evenPlan_yes hok e2 e3 e4]
          generalize hN : planN W h o = N at *
          obtain ⟨n, rfl⟩ : ∃ n : Nat, N = (n : Int) + 2 := ⟨(N - 2).toNat, by omega⟩
          have hn : ((n : Int) + 2).toNat = n + 2 := by omega
          rw [hn]
          have hin : ∀ (k : Nat) (x : Int), (planPts W h o (n + 2))[k]? = some x → 0 ≤ x ∧ x ≤ 10000 := by
            intro k x hx
            obtain ⟨hk, rfl⟩ := planPts_get W h o hx
            have : 0 ≤ (k : Int) * (2 * h - o) := Int.mul_nonneg (by omega) (by omega)
            unfold planPt
            omega
          have hlast : planPt W h o (n + 1) = W - h := by
            unfold planPt
            have : (((n + 1 : Nat) : Int)) * (2 * h - o) ≥ W - 2 * h := by
              have e5 : ((n : Int) + 2 - 1) = ((n + 1 : Nat) : Int) := by omega
              rw [e5] at p2; exact p2
            omega
          refine ⟨hb, by rw [planPts_len]; omega, by rw [planPts_len]; omega, ?_, hin, .inr ⟨by omega, ?_⟩, plan_covers hb.1 hb.2.1 (by rw [planPts_len]; omega) hin ?_⟩
          · intro k x y hx hy
            obtain ⟨hk, rfl⟩ := planPts_get W h o hx
            obtain ⟨hk2, rfl⟩ := planPts_get W h o hy
            refine ⟨planPt_lt (by omega) ?_, (planPt_next (by omega) k).2⟩
            have e6 : ((n : Int) + 2 - 2) = (n : Int) := by omega
            rw [e6] at p3
            have : (k : Int) * (2 * h - o) ≤ (n : Int) * (2 * h - o) := Int.mul_le_mul_of_nonneg_right (by omega) (by omega)
            omega
          · rw [planPts_len]
            have e6 : (((n + 2 : Nat) : Int) - 2) = (n : Int) + 2 - 2 := by omega
            rw [e6]
            omega
          · intro q q1 q2
            obtain ⟨i, h1, h2, h3⟩ := plan_hits e2 e3 hb.2.2.1 q1 (n + 1) (by rw [hlast]; omega)
            exact ⟨planPt W h o i, List.mem_map.2 ⟨i, by simp; omega, rfl⟩, h2, h3⟩

/-- The bounds of a plan's lines where the walk compares them. -/
theorem PlanIs.prev {W h o : Int} {xs : List Int} (p : PlanIs W h o xs) {k : Nat} {y : Int} (hy : xs[k + 1]? = some y) : ∃ x, xs[k]? = some x ∧ x < y ∧ y - x ≤ 2 * h - o ∧ 0 ≤ x ∧ x ≤ 10000 := by
  have hk := (List.getElem?_eq_some_iff.1 hy).1
  have hx : xs[k]? = some xs[k] := List.getElem?_eq_getElem (by omega)
  have := p.step k _ y hx hy
  have := p.within k _ hx
  exact ⟨_, hx, by omega, by omega, by omega, by omega⟩

theorem likeOwnSpan_same (a b : Option Addr) (n c d : Nat) (xs : List I2) (w : World) (hxs : Row w 2 a n (prs xs)) (hys : Row w 2 b n (prs xs)) (hn : n ≤ 1048576) :
    Calls Try.prog 25 #[.slice a n c, .slice b n d] w fun e w' => e = .returned (.bool true) ∧ Below w.heap.size w w' := by
  go_enter Try.func25, Try.ntmps25
  go_wp2
  go_loopw [5] (fun i wr => ∃ k : Nat, k ≤ n ∧ i = .int .i64 k ∧ Below w.heap.size w wr) (fun i _ => n - (intOf i).toNat)
  case atStart => exact ⟨0, Nat.zero_le _, rfl, Below.refl _ _⟩
  case round =>
    obtain ⟨k, hk, rfl, hbel⟩ := hrel
    by_cases hlt : k < n
    · obtain ⟨b1, off1, x, y, rfl, hc0, hc1, hx⟩ := (hxs.below2 hbel (Nat.le_refl _)).at2 hlt
      obtain ⟨b2, off2, x', y', rfl, hd0, hd1, hy⟩ := (hys.below2 hbel (Nat.le_refl _)).at2 hlt
      have he := hy.out
      rw [hx.out] at he
      simp only [Option.some.injEq, Prod.mk.injEq] at he
      obtain ⟨rfl, rfl⟩ := he
      have hi : (k : Int) < (n : Int) := by omega
      clear hx hy
      have ex : (x == x) = true := by simp
      have ey : (y == y) = true := by simp
      go_wp2_with fail
      go_quiet (fail)
      go_wp2
      go_roundw
      case rel => exact ⟨k + 1, by omega, by go_num, bdn hbel _⟩
      case measure => simp [intOf] <;> omega
    · go_wp2
      go_ret
      exact ⟨rfl, hbel⟩
end Go.Proofs.Ytdihpllebccncaa
