/- The number of bits; a flag at a place. -/
import Derived.Test.YtmljcbfpennjkaaByte
import Derived.Outline
namespace Go.Proofs.Ytmljcbfpennjkaa
open Go.RowKit
set_option maxRecDepth 100000
set_option linter.unusedVariables false
set_option linter.unusedSimpArgs false

theorem numL_take {xs : List Int} {k : Nat} {x : Int} (hx : xs[k]? = some x) : numL (xs.take (k + 1)) = 2 * numL (xs.take k) + x := by
  rw [take_snoc hx, numL_snoc]
theorem numL_take_bd {xs : List Int} (hs : Small01 xs) {k : Nat} (hk : k ≤ 8) : 0 ≤ numL (xs.take k) ∧ numL (xs.take k) < 256 := by
  have := numL_bd 8 (bs := xs.take k) (by rw [List.length_take]; omega) (fun x hx => hs x (List.mem_of_mem_take hx))
  simpa using this

theorem numberOf_any (a : Option Addr) (n c : Nat) (xs : List Int) (w : World) (h : Row w 1 a n (ints xs)) (hn : n ≤ 8) (hs : Small01 xs) :
    Calls Try.prog 82 #[.slice a n c] w fun e w' => e = .returned (.int .i64 (numL xs)) ∧ w = w' := by
  have hl := Lib.hid h.len
  have HS := Lib.hid hs; clear hs
  go_enter Try.func82, Try.ntmps82
  go_wp2
  go_loop [3, 5, 8] (fun s _ i => ∃ k : Nat, k ≤ n ∧ i = .int .i64 k ∧ s = .int .i64 (numL (xs.take k))) (fun _ _ i => n - (intOf i).toNat)
  case atStart => exact ⟨0, Nat.zero_le _, rfl, by simp [numL]⟩
  case round =>
    obtain ⟨k, hk, rfl, rfl⟩ := hrel
    obtain ⟨s0, s1⟩ := numL_take_bd HS.out (show k ≤ 8 by omega)
    by_cases hlt : k < n
    · obtain ⟨b, off, x, rfl, hc, hx⟩ := h.at_ hlt
      obtain ⟨x0, x1⟩ := HS.out x (List.mem_of_getElem? hx.out)
      have hst := Lib.hid (numL_take hx.out)
      go_wp2
      go_round
      case rel => exact ⟨k + 1, by omega, by go_num, by rw [hst.out]⟩
      case measure => simp [intOf] <;> omega
    · have hd := Lib.hid (take_done hl.out hk hlt)
      go_wp2
      go_ret
      exact ⟨by rw [hd.out]; rfl, rfl⟩

/-- A flag stands at a place. -/
def flagAt (xs : List Int) (i : Nat) : Bool := decide ((xs.drop i).take 8 = flagL)
theorem flagAt_far {xs : List Int} {i n : Nat} (hl : xs.length = n) (h : ¬ i + 8 ≤ n) : flagAt xs i = false := by
  simp only [flagAt, decide_eq_false_iff_not]
  intro e
  have := congrArg List.length e
  simp [flagL] at this
  omega

theorem Row.piece {w : World} {b off n c : Nat} {xs : List Int} (h : Row w 1 (some ⟨b, off, none⟩) n (ints xs)) {i m : Nat} (him : i + m ≤ n) : Row w 1 (some ⟨b, off + i, none⟩) m (ints ((xs.drop i).take m)) := by
  have := h.sub him (some ⟨b, off + i, none⟩) (fun _ b' off' e => by injection e with e; injection e with e1 e2 _; subst e1; subst e2; rfl)
  simpa [ints, List.map_drop, List.map_take] using this

set_option maxHeartbeats 1600000 in
theorem l25At_any (a : Option Addr) (n c i : Nat) (xs : List Int) (w : World) (h : Row w 1 a n (ints xs)) (hn : n ≤ 1048576) (hnc : n ≤ c) (hc : c ≤ maxLen) (hi : i ≤ 1048576) :
    Calls Try.prog 64 #[.slice a n c, .int .i64 (i : Int)] w fun e w' => e = .returned (.bool (flagAt xs i)) ∧ Below w.heap.size w w' := by
  have hl := h.len
  by_cases him : i + 8 ≤ n
  · obtain ⟨b, off, rfl, -⟩ := h.2 (by omega)
    have hr := h.piece (c := c) him
    obtain ⟨ys, hys⟩ : ∃ ys, (xs.drop i).take 8 = ys := ⟨_, rfl⟩
    rw [flagAt, hys]
    rw [hys] at hr
    simp only [maxLen] at hc
    have g1 : (i : Int) + 8 ≤ (n : Int) := by omega
    have gw : IntKind.i64.wrap ((i : Int) + 8) = (i : Int) + 8 := by rw [IntKind.wrap_i64]; omega
    have gd : decide ((i : Int) + 8 ≤ (n : Int)) = true := decide_eq_true g1
    have g2 : (i : Int) + 8 ≤ (c : Int) := by omega
    have g3 : ((i : Int) + 8).toNat = i + 8 := by omega
    have g4 : ¬ c = i := by omega
    have g5 : (0 : Int) ≤ (i : Int) + 8 := by omega
    have g6 : (i : Int) ≤ (i : Int) + 8 := by omega
    have B := Below.refl w.heap.size w
    clear hys hl
    go_enter Try.func64, Try.ntmps64
    go_wp2_with fail
    refine wp_region_held_drew (S := fun w' => True) (by kernel_rfl) (trivial) (fun hHeld => ?_)
    refine wpAnyH_take (i := 0) (oi := ?oia0) (v := ?va0) ?hia0 (by kernel_rfl) (by kernel_rfl) (by kernel_rfl) ?hQa0 ?hya0 (by assumption) ?hra0
    case hia0 => (simp only [List.getElem?_toArray, List.getElem?_cons_succ, List.getElem?_cons_zero]; rfl)
    case hQa0 => exact fun _ _ _ h => h
    case hya0 => (refine Or.inl ⟨by rfl, ?_⟩; intro w hSw; (try dsimp only at hSw); (go_simp <;> with_reducible rfl))
    (try simp only [Act.put, List.setIfInBounds_toArray, List.set_cons_zero, List.set_cons_succ])
    refine wpAnyH_take (i := 1) (oi := ?oia1) (v := ?va1) ?hia1 (by kernel_rfl) (by kernel_rfl) (by kernel_rfl) ?hQa1 ?hya1 (by assumption) ?hra1
    case hia1 => (simp only [List.getElem?_toArray, List.getElem?_cons_succ, List.getElem?_cons_zero]; rfl)
    case hQa1 => exact fun _ _ _ h => h
    case hya1 => (refine Or.inl ⟨by rfl, ?_⟩; intro w hSw; (try dsimp only at hSw); (go_simp <;> with_reducible rfl))
    (try simp only [Act.put, List.setIfInBounds_toArray, List.set_cons_zero, List.set_cons_succ])
    refine wpAnyH_take (i := 2) (oi := ?oia2) (v := ?va2) ?hia2 (by kernel_rfl) (by kernel_rfl) (by kernel_rfl) ?hQa2 ?hya2 (by assumption) ?hra2
    case hia2 => (simp only [List.getElem?_toArray, List.getElem?_cons_succ, List.getElem?_cons_zero]; rfl)
    case hQa2 => exact fun _ _ _ h => h
    case hya2 => (refine Or.inl ⟨by rfl, ?_⟩; intro w hSw; (try dsimp only at hSw); (go_simp <;> with_reducible rfl))
    (try simp only [Act.put, List.setIfInBounds_toArray, List.set_cons_zero, List.set_cons_succ])
    refine wpAnyH_take (i := 3) (oi := ?oia3) (v := ?va3) ?hia3 (by kernel_rfl) (by kernel_rfl) (by kernel_rfl) ?hQa3 ?hya3 (by assumption) ?hra3
    case hia3 => (simp only [List.getElem?_toArray, List.getElem?_cons_succ, List.getElem?_cons_zero]; rfl)
    case hQa3 => exact fun _ _ _ h => h
    case hya3 => (refine Or.inl ⟨by rfl, ?_⟩; intro w hSw; (try dsimp only at hSw); (go_simp <;> with_reducible rfl))
    (try simp only [Act.put, List.setIfInBounds_toArray, List.set_cons_zero, List.set_cons_succ])
    refine wpAnyH_take (i := 4) (oi := ?oia4) (v := ?va4) ?hia4 (by kernel_rfl) (by kernel_rfl) (by kernel_rfl) ?hQa4 ?hya4 (by assumption) ?hra4
    case hia4 => (simp only [List.getElem?_toArray, List.getElem?_cons_succ, List.getElem?_cons_zero]; rfl)
    case hQa4 => exact fun _ _ _ h => h
    case hya4 => (refine Or.inl ⟨by rfl, ?_⟩; intro w hSw; (try dsimp only at hSw); (go_simp <;> with_reducible rfl))
    (try simp only [Act.put, List.setIfInBounds_toArray, List.set_cons_zero, List.set_cons_succ])
    refine wpAnyH_take (i := 5) (oi := ?oia5) (v := ?va5) ?hia5 (by kernel_rfl) (by kernel_rfl) (by kernel_rfl) ?hQa5 ?hya5 (by assumption) ?hra5
    case hia5 => (simp only [List.getElem?_toArray, List.getElem?_cons_succ, List.getElem?_cons_zero]; rfl)
    case hQa5 => exact fun _ _ _ h => h
    case hya5 => (refine Or.inl ⟨by rfl, ?_⟩; intro w hSw; (try dsimp only at hSw); (go_simp <;> with_reducible rfl))
    (try simp only [Act.put, List.setIfInBounds_toArray, List.set_cons_zero, List.set_cons_succ])
    refine wpAnyH_take (i := 6) (oi := ?oia6) (v := ?va6) ?hia6 (by kernel_rfl) (by kernel_rfl) (by kernel_rfl) ?hQa6 ?hya6 (by assumption) ?hra6
    case hia6 => (simp only [List.getElem?_toArray, List.getElem?_cons_succ, List.getElem?_cons_zero]; rfl)
    case hQa6 => exact fun _ _ _ h => h
    case hya6 => (refine Or.inl ⟨by rfl, ?_⟩; intro w hSw; (try dsimp only at hSw); (go_simp <;> with_reducible rfl))
    (try simp only [Act.put, List.setIfInBounds_toArray, List.set_cons_zero, List.set_cons_succ])
    refine wpAnyH_take (i := 7) (oi := ?oia7) (v := ?va7) ?hia7 (by kernel_rfl) (by kernel_rfl) (by kernel_rfl) ?hQa7 ?hya7 (by assumption) ?hra7
    case hia7 => (simp only [List.getElem?_toArray, List.getElem?_cons_succ, List.getElem?_cons_zero]; rfl)
    case hQa7 => exact fun _ _ _ h => h
    case hya7 => (refine Or.inl ⟨by rfl, ?_⟩; intro w hSw; (try dsimp only at hSw); (go_simp <;> with_reducible rfl))
    (try simp only [Act.put, List.setIfInBounds_toArray, List.set_cons_zero, List.set_cons_succ])
    refine wpAnyH_take (i := 8) (oi := ?oia8) (v := ?va8) ?hia8 (by kernel_rfl) (by kernel_rfl) (by kernel_rfl) ?hQa8 ?hya8 (by assumption) ?hra8
    case hia8 => (simp only [List.getElem?_toArray, List.getElem?_cons_succ, List.getElem?_cons_zero]; rfl)
    case hQa8 => exact fun _ _ _ h => h
    case hya8 => (refine Or.inl ⟨by rfl, ?_⟩; intro w hSw; (try dsimp only at hSw); (go_simp <;> with_reducible rfl))
    (try simp only [Act.put, List.setIfInBounds_toArray, List.set_cons_zero, List.set_cons_succ])
    refine wpAnyH_take (i := 9) (oi := ?oia9) (v := ?va9) ?hia9 (by kernel_rfl) (by kernel_rfl) (by kernel_rfl) ?hQa9 ?hya9 (by assumption) ?hra9
    case hia9 => (simp only [List.getElem?_toArray, List.getElem?_cons_succ, List.getElem?_cons_zero]; rfl)
    case hQa9 => exact fun _ _ _ h => h
    case hya9 => (refine Or.inl ⟨by rfl, ?_⟩; intro w hSw; (try dsimp only at hSw); (go_simp <;> with_reducible rfl))
    (try simp only [Act.put, List.setIfInBounds_toArray, List.set_cons_zero, List.set_cons_succ])
    refine wpAnyH_take (i := 10) (oi := ?oia10) (v := ?va10) ?hia10 (by kernel_rfl) (by kernel_rfl) (by kernel_rfl) ?hQa10 ?hya10 (by assumption) ?hra10
    case hia10 => (simp only [List.getElem?_toArray, List.getElem?_cons_succ, List.getElem?_cons_zero]; rfl)
    case hQa10 => exact fun _ _ _ h => h
    case hya10 => (refine Or.inl ⟨by rfl, ?_⟩; intro w hSw; (try dsimp only at hSw); (go_simp <;> with_reducible rfl))
    (try simp only [Act.put, List.setIfInBounds_toArray, List.set_cons_zero, List.set_cons_succ])
    refine wpAnyH_ready (rs := [11]) (by kernel_rfl) (by simp) ?_
    refine AllReadyH.cons (o := ?oia11) ?hia11 ?haa11 AllReadyH.nil
    case hia11 => (simp only [List.getElem?_toArray, List.getElem?_cons_succ, List.getElem?_cons_zero]; rfl)
    intro K hK
    go_simp
    (go_at_call 70; refine (flag_spec _).mono ?_; rintro e w1 ⟨a1, c1, rfl, o1, hb⟩; have r1 := o1.row; have hr1 := hr.below (B.drew.trans hb) (Nat.le_refl _); have B1 := B.drew.trans (hb.mono B.drew.size); clear hb o1; dsimp only)
    refine hK.out _ _ (trivial) (fun hHeld => ?_)
    clear hK K
    (try simp only [Act.put, List.setIfInBounds_toArray, List.set_cons_zero, List.set_cons_succ])
    refine wpAnyH_ready (rs := [12]) (by kernel_rfl) (by simp) ?_
    refine AllReadyH.cons (o := ?oia12) ?hia12 ?haa12 AllReadyH.nil
    case hia12 => (simp only [List.getElem?_toArray, List.getElem?_cons_succ, List.getElem?_cons_zero]; rfl)
    intro K hK
    go_simp
    (go_at_call 78; refine (l01Same_any _ _ _ _ _ _ _ _ _ hr1 r1 (by omega)).mono ?_; rintro e w2 ⟨rfl, hb⟩; have B2 := B1.trans (hb.mono B1.size); clear hb; dsimp only)
    refine hK.out _ _ (trivial) (fun hHeld => ?_)
    clear hK K
    (try simp only [Act.put, List.setIfInBounds_toArray, List.set_cons_zero, List.set_cons_succ])
    refine wpAnyH_take (i := 13) (oi := ?oia13) (v := ?va13) ?hia13 (by kernel_rfl) (by kernel_rfl) (by kernel_rfl) ?hQa13 ?hya13 (by assumption) ?hra13
    case hia13 => (simp only [List.getElem?_toArray, List.getElem?_cons_succ, List.getElem?_cons_zero]; rfl)
    case hQa13 => exact fun _ _ _ h => h
    case hya13 => (refine Or.inl ⟨by rfl, ?_⟩; intro w hSw; (try dsimp only at hSw); (go_simp <;> with_reducible rfl))
    (try simp only [Act.put, List.setIfInBounds_toArray, List.set_cons_zero, List.set_cons_succ])
    refine wpAnyH_take (i := 14) (oi := ?oia14) (v := ?va14) ?hia14 (by kernel_rfl) (by kernel_rfl) (by kernel_rfl) ?hQa14 ?hya14 (by assumption) ?hra14
    case hia14 => (simp only [List.getElem?_toArray, List.getElem?_cons_succ, List.getElem?_cons_zero]; rfl)
    case hQa14 => exact fun _ _ _ h => h
    case hya14 => (refine Or.inl ⟨by rfl, ?_⟩; intro w hSw; (try dsimp only at hSw); (go_simp <;> with_reducible rfl))
    (try simp only [Act.put, List.setIfInBounds_toArray, List.set_cons_zero, List.set_cons_succ])
    refine wpAnyH_done (by kernel_rfl) ?_ _
    go_wp2
    go_ret
    exact ⟨rfl, B2⟩
  · have gw : IntKind.i64.wrap ((i : Int) + 8) = (i : Int) + 8 := by rw [IntKind.wrap_i64]; omega
    have gd : decide ((i : Int) + 8 ≤ (n : Int)) = false := by simp; omega
    rw [flagAt_far hl him]
    go_enter Try.func64, Try.ntmps64
    go_wp2_with fail
    go_quiet (fail)
    go_wp2
    go_ret
    exact ⟨rfl, bdn (Below.refl _ _) _⟩
end Go.Proofs.Ytmljcbfpennjkaa
