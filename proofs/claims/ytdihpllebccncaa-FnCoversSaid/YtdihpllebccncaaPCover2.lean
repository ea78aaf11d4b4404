/- The law of covers: plain, as the walk needs it. -/
import Derived.Test.YtdihpllebccncaaPCover
import Derived.Test.YtdihpllebccncaaDrawCover
namespace Go.Proofs.Ytdihpllebccncaa
open Go.RowKit
set_option maxRecDepth 100000
set_option linter.unusedVariables false

theorem cover_facts {W : Int} {ss : List I2} (h : coverC W ss = 0) : (∃ l, leastCover W ss = (l, 0) ∧ gapsL W ss = [] ∧ Chain W ss 0 l) ∨ (leastCover W ss = ([], 4) ∧ gapsL W ss ≠ []) := by
  rcases coverC_cases W ss with ⟨-, hs, h1, h2⟩ | ⟨c, hc, hne⟩
  · cases he : coverF W ss W.toNat 0 [] with
    | none =>
      refine .inr ⟨leastCover_none h he, fun hg => ?_⟩
      obtain ⟨q, q1, q2, q3⟩ := coverF_hole _ _ _ (Int.le_refl 0) he
      have := gapsL_nil.1 hg q q1 q2
      rw [q3] at this; cases this
    | some l =>
      obtain ⟨t, ht, hch⟩ := coverF_chain _ _ _ _ (by omega) he
      rw [List.nil_append] at ht
      subst ht
      refine .inl ⟨l, leastCover_some h he, gapsL_nil.2 fun j j1 j2 => ?_, hch⟩
      obtain ⟨s, hm, h4⟩ := unitB_iff.1 (chain_covers l 0 hch j j1 j2)
      obtain ⟨b, hb, rfl⟩ := List.mem_map.1 hm
      have hlt := (chain_up l 0 hch b hb).2.2
      exact unitB_iff.2 ⟨spB ss b, List.mem_of_getElem? (show ss[b.toNat]? = some (spB ss b) by rw [spB, spAt, List.getElem?_eq_getElem hlt]; rfl), h4⟩
  · omega

/-- What is kept of the first i when number D - 1 is left out. -/
def keepTo (l : List Int) (D : Nat) : Nat → List Int
  | 0 => []
  | i + 1 => keepTo l D i ++ (if i + 1 = D then [] else [l[i]?.getD 0])
theorem keepTo_eq (l : List Int) (D : Nat) : ∀ i, i ≤ l.length → keepTo l D i = if D = 0 then l.take i else (l.take i).eraseIdx (D - 1) := by
  intro i
  induction i with
  | zero => intro _; simp [keepTo]
  | succ i ih =>
    intro hi
    have hx : l[i]? = some l[i] := List.getElem?_eq_getElem (by omega)
    have hlen : (l.take i).length = i := by rw [List.length_take]; omega
    rw [keepTo, ih (by omega), take_snoc hx, hx]
    simp only [Option.getD_some]
    by_cases hD : D = 0
    · subst hD; simp
    · rw [if_neg hD, if_neg hD]
      by_cases h1 : i + 1 = D
      · subst h1
        rw [if_pos rfl, List.append_nil, show i + 1 - 1 = i by omega, List.eraseIdx_of_length_le (by omega), List.eraseIdx_append_of_length_le (by omega), hlen, Nat.sub_self]
        simp
      · rw [if_neg h1]
        by_cases h2 : D - 1 < i
        · rw [List.eraseIdx_append_of_lt_length (by omega)]
        · rw [List.eraseIdx_of_length_le (by omega), List.eraseIdx_of_length_le (by simp; omega)]
theorem keepTo_mem {l : List Int} {D i : Nat} (hi : i ≤ l.length) : ∀ b ∈ keepTo l D i, b ∈ l := by
  intro b hb
  rw [keepTo_eq l D i hi] at hb
  split at hb
  · exact List.mem_of_mem_take hb
  · exact List.mem_of_mem_take (List.mem_of_mem_eraseIdx hb)
theorem keepTo_len (l : List Int) (D : Nat) : ∀ i, (keepTo l D i).length ≤ i
  | 0 => by simp [keepTo]
  | i + 1 => by have := keepTo_len l D i; rw [keepTo, List.length_append]; split <;> (simp; omega)

/-- With one left out: not covered; with none: covered. -/
theorem chosen_covered {W : Int} {ss : List I2} {l : List Int} (h : coverC W ss = 0) (hch : Chain W ss 0 l) (D : Nat) (hD : D ≤ l.length) :
    isCovered W ((keepTo l D l.length).map (spB ss)) = (decide (D = 0), 0) := by
  have hk := keepTo_eq l D l.length (Nat.le_refl _)
  rw [List.take_length] at hk
  rcases coverC_cases W ss with ⟨-, hs, h1, h2⟩ | ⟨c, hc, hne⟩
  · have hlen := chain_len l 0 hch
    have hl60 : l.length ≤ 60 := by
      have := List.countP_le_length (p := fun s => decide (0 < hiS s)) (l := ss)
      have := spansOk_len hs rfl
      omega
    have hok : spansOk ((keepTo l D l.length).map (spB ss)) = true := by
      have hkl := keepTo_len l D l.length
      simp only [spansOk, Bool.and_eq_true, decide_eq_true_eq, List.all_eq_true, List.length_map]
      refine ⟨fun s hm => ?_, by omega⟩
      obtain ⟨b, hb, rfl⟩ := List.mem_map.1 hm
      have hlt := (chain_up l 0 hch b (keepTo_mem (Nat.le_refl _) b hb)).2.2
      exact spansOk_get hs (show ss[b.toNat]? = some (spB ss b) by rw [spB, spAt, List.getElem?_eq_getElem hlt]; rfl)
    have hc0 : coverC W ((keepTo l D l.length).map (spB ss)) = 0 := by
      unfold coverC
      rw [hok, if_pos rfl, if_pos (by simp only [inR, Bool.and_eq_true, decide_eq_true_eq]; omega)]
    rw [isCovered_yes hc0]
    by_cases hz : D = 0
    · rw [hk, if_pos hz, gapsL_nil.2 (fun j j1 j2 => chain_covers l 0 hch j j1 j2)]
      simp [hz]
    · rw [hk, if_neg hz]
      obtain ⟨q, q1, q2, q3⟩ := chain_needs l 0 hch (D - 1) (by omega)
      rw [decide_eq_false (fun hg => by have := gapsL_nil.1 hg q q1 q2; rw [q3] at this; cases this), decide_eq_false hz]
  · omega

theorem likeRanges_same (a b : Option Addr) (n c d : Nat) (xs : List I2) (w : World) (hxs : Row w 2 a n (prs xs)) (hys : Row w 2 b n (prs xs)) (hn : n ≤ 1048576) :
    Calls Try.prog 30 #[.slice a n c, .slice b n d] w fun e w' => e = .returned (.bool true) ∧ Below w.heap.size w w' := by
  go_enter Try.func30, Try.ntmps30
  go_wp2
  go_loopw [5] (fun i wr => ∃ k : Nat, k ≤ n ∧ i = .int .i64 k ∧ Below w.heap.size w wr) (fun i _ => n - (intOf i).toNat)
  case atStart => exact ⟨0, Nat.zero_le _, rfl, Below.refl _ _⟩
  case round =>
    obtain ⟨k, hk, rfl, hbel⟩ := hrel
    by_cases hlt : k < n
    · obtain ⟨b1, off1, x, y, rfl, hc0, hc1, hx⟩ := (hxs.below2 hbel (Nat.le_refl _)).at2 hlt
      obtain ⟨b2, off2, x', y', rfl, hd0, hd1, hy⟩ := (hys.below2 hbel (Nat.le_refl _)).at2 hlt
      have he := hy.out
      rw [hx.out] at he
      simp only [Option.some.injEq, Prod.mk.injEq] at he
      obtain ⟨rfl, rfl⟩ := he
      have hi : (k : Int) < (n : Int) := by omega
      clear hx hy
      go_wp2_with fail
      go_quiet (fail)
      go_wp2
      go_roundw
      case rel => exact ⟨k + 1, by omega, by go_num, bdn hbel _⟩
      case measure => simp [intOf] <;> omega
    · go_wp2
      go_ret
      exact ⟨rfl, hbel⟩
end Go.Proofs.Ytdihpllebccncaa
