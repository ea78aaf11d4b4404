/- Decimal numerals as the specification writes and reads them. -/
import Derived.Test.YtaimckepaldocaaGreatDoorVars
import Derived.Deep.RegionWith
import Derived.Laws.IdiomStrings
import Derived.Lib.ItoaLen
namespace Go.Proofs.YtaimckepaldocaaGreatDoor
open Go.RowKit
set_option maxRecDepth 100000
set_option linter.unusedVariables false
open Go.Lib (decDigits itoa)
set_option linter.unusedSimpArgs false
set_option linter.unusedVariables false

/-- 'string([]byte{c})': the convert's run. -/
theorem conv_one (w : World) (b : Nat) (c : UInt8) (k : Int) (hk : k = (c.toNat : Int)) (h : w.cell? ⟨b, 0, none⟩ = some (.int .u8 k)) :
    (convert 22 9 (.slice (some ⟨b, 0, none⟩) 1 1)).run Tryz.prog w = .ok (.string (str [c])) w := by
  subst hk
  exact run_convert_bytes_back (P := Tryz.prog) w 22 9 5 ⟨b, 0, none⟩ 1 [c] Tryz.underlying22 Tryz.underlying5 Tryz.underlying9 (fun j hj => by
    have : j = 0 := by simpa using hj
    subst this
    simpa [Addr.add] using h)

theorem lit_u {KK : Act → World → Prop} {f : Act} {W w0 : World} {vs : Array Value} {E : Nat} (B : Below w0.heap.size w0 W) (h : ∀ W', Below w0.heap.size w0 W' → Blk W' W.heap.size E vs → KK f W') : KK f (W.alloc (.cells vs E)) :=
  h _ (B.alloc B.size _) (Blk.new W E vs)
theorem lit_ud {KK : Act → World → Prop} {f : Act} {W w0 : World} {vs : Array Value} {E : Nat} (B : Below w0.heap.size w0 W.drew) (h : ∀ W', Below w0.heap.size w0 W' → Blk W' W.heap.size E vs → KK f W') : KK f (W.alloc (.cells vs E)).drew :=
  h _ (B.alloc B.size (.cells vs E)) ((Blk.new W E vs).drew)

set_option maxHeartbeats 1600000 in
theorem l01Dec_any : ∀ (u : Nat) (w : World), u ≤ 9223372036854775807 →
    Calls Tryz.prog 70 #[.int .i64 u] w fun e w' => e = .returned (.string (str (decDigits u))) ∧ Below w.heap.size w w' := by
  intro u
  induction u using Nat.strongRecOn with
  | _ u ih =>
    intro w hu
    by_cases h : u < 10
    · have hI : (u : Int) < 10 := by omega
      obtain ⟨d, hd⟩ : ∃ d : UInt8, UInt8.ofNat (48 + u) = d := ⟨_, rfl⟩
      have hcv := conv_one (w.alloc (.cells #[.int .u8 (48 + (u : Int))] 5)) w.heap.size d (48 + (u : Int)) (by rw [← hd, dig_nat h]; omega) (by rw [(Blk.new w 5 #[.int .u8 (48 + (u : Int))]).cell 0]; rfl)
      rw [decDigits_small h, hd]
      clear h hd
      go_enter Tryz.func70, Tryz.ntmps70
      go_wp2
      go_ret
      exact ⟨rfl, by go_grown⟩
    · have hI : 10 ≤ (u : Int) := by omega
      have B := Below.refl w.heap.size w
      obtain ⟨r, hr⟩ : ∃ r, u % 10 = r := ⟨_, rfl⟩
      have hr9 : r < 10 := by omega
      obtain ⟨d, hd⟩ : ∃ d : UInt8, UInt8.ofNat (48 + r) = d := ⟨_, rfl⟩
      have hc1 := Lib.hid (show (48 : Int) + (r : Int) = (d.toNat : Int) by rw [← hd, dig_nat hr9]; omega)
      rw [decDigits_big h, hr, hd, ← str_app]
      have e10 : ((u / 10 : Nat) : Int) = (u : Int) / 10 := by omega
      have IH := Lib.hid (fun w => e10 ▸ ih (u / 10) (by omega) w (by omega))
      have hw1 : IntKind.i64.wrap ((u : Int) / 10) = (u : Int) / 10 := by rw [IntKind.wrap_i64]; omega
      have hm1 : (u : Int).tmod 10 = (r : Int) := by rw [Int.tmod_eq_emod_of_nonneg (by omega)]; omega
      have hw2 : IntKind.i64.wrap (48 + (r : Int)) = 48 + (r : Int) := by rw [IntKind.wrap_i64]; omega
      have hw3 : IntKind.u8.wrap (48 + (r : Int)) = 48 + (r : Int) := by rw [IntKind.wrap_u8]; omega
      have hsz : ¬ 9223372036854775807 < (str (decDigits (u / 10))).size + (str [d]).size := by
        rw [str_size, str_size]
        have := Go.Lib.itoa_length_le ((u / 10 : Nat) : Int) (by omega) (by omega)
        rw [Go.Lib.itoa_nonneg] at this
        simp; omega
      clear ih h hd e10 hr
      go_enter Tryz.func70, Tryz.ntmps70
      go_upto_region 3 with (fail)
      replace B := B.drew
      refine wp_region_held_drew (S := fun w' => True) (by kernel_rfl) (trivial) (fun hHeld => ?_)
      refine wpAnyH_take (i := 0) (oi := ?oin0_1) (v := ?vn0_1) ?hin0_1 (by kernel_rfl) (by kernel_rfl) (by kernel_rfl) ?hQn0_1 ?hyn0_1 (by assumption) ?hrn0_1
      case hin0_1 => (simp only [List.getElem?_toArray, List.getElem?_cons_succ, List.getElem?_cons_zero]; rfl)
      case hQn0_1 => exact fun _ _ _ h => h
      case hyn0_1 => (refine Or.inl ⟨by rfl, ?_⟩; intro w hSw; (try dsimp only at hSw); (go_simp <;> with_reducible rfl))
      (try simp only [Act.put, List.setIfInBounds_toArray, List.set_cons_zero, List.set_cons_succ])
      refine wpAnyH_take (i := 1) (oi := ?oin1_2) (v := ?vn1_2) ?hin1_2 (by kernel_rfl) (by kernel_rfl) (by kernel_rfl) ?hQn1_2 ?hyn1_2 (by assumption) ?hrn1_2
      case hin1_2 => (simp only [List.getElem?_toArray, List.getElem?_cons_succ, List.getElem?_cons_zero]; rfl)
      case hQn1_2 => exact fun _ _ _ h => h
      case hyn1_2 => (refine Or.inl ⟨by rfl, ?_⟩; intro w hSw; (try dsimp only at hSw); (go_simp <;> with_reducible rfl))
      (try simp only [Act.put, List.setIfInBounds_toArray, List.set_cons_zero, List.set_cons_succ])
      refine wpAnyH_take (i := 3) (oi := ?oin3_3) (v := ?vn3_3) ?hin3_3 (by kernel_rfl) (by kernel_rfl) (by kernel_rfl) ?hQn3_3 ?hyn3_3 (by assumption) ?hrn3_3
      case hin3_3 => (simp only [List.getElem?_toArray, List.getElem?_cons_succ, List.getElem?_cons_zero]; rfl)
      case hQn3_3 => exact fun _ _ _ h => h
      case hyn3_3 => (refine Or.inl ⟨by rfl, ?_⟩; intro w hSw; (try dsimp only at hSw); (go_simp <;> with_reducible rfl))
      (try simp only [Act.put, List.setIfInBounds_toArray, List.set_cons_zero, List.set_cons_succ])
      refine wpAnyH_take (i := 4) (oi := ?oin4_4) (v := ?vn4_4) ?hin4_4 (by kernel_rfl) (by kernel_rfl) (by kernel_rfl) ?hQn4_4 ?hyn4_4 (by assumption) ?hrn4_4
      case hin4_4 => (simp only [List.getElem?_toArray, List.getElem?_cons_succ, List.getElem?_cons_zero]; rfl)
      case hQn4_4 => exact fun _ _ _ h => h
      case hyn4_4 => (refine Or.inl ⟨by rfl, ?_⟩; intro w hSw; (try dsimp only at hSw); (go_simp <;> with_reducible rfl))
      (try simp only [Act.put, List.setIfInBounds_toArray, List.set_cons_zero, List.set_cons_succ])
      refine wpAnyH_take (i := 5) (oi := ?oin5_5) (v := ?vn5_5) ?hin5_5 (by kernel_rfl) (by kernel_rfl) (by kernel_rfl) ?hQn5_5 ?hyn5_5 (by assumption) ?hrn5_5
      case hin5_5 => (simp only [List.getElem?_toArray, List.getElem?_cons_succ, List.getElem?_cons_zero]; rfl)
      case hQn5_5 => exact fun _ _ _ h => h
      case hyn5_5 => (refine Or.inl ⟨by rfl, ?_⟩; intro w hSw; (try dsimp only at hSw); (go_simp <;> with_reducible rfl))
      (try simp only [Act.put, List.setIfInBounds_toArray, List.set_cons_zero, List.set_cons_succ])
      refine wpAnyH_take (i := 6) (oi := ?oin6_6) (v := ?vn6_6) ?hin6_6 (by kernel_rfl) (by kernel_rfl) (by kernel_rfl) ?hQn6_6 ?hyn6_6 (by assumption) ?hrn6_6
      case hin6_6 => (simp only [List.getElem?_toArray, List.getElem?_cons_succ, List.getElem?_cons_zero]; rfl)
      case hQn6_6 => exact fun _ _ _ h => h
      case hyn6_6 => (refine Or.inl ⟨by rfl, ?_⟩; intro w hSw; (try dsimp only at hSw); (go_simp <;> with_reducible rfl))
      (try simp only [Act.put, List.setIfInBounds_toArray, List.set_cons_zero, List.set_cons_succ])
      refine wpAnyH_ready (rs := [2, 7]) (by kernel_rfl) (by simp) ?_
      refine AllReadyH.cons (o := ?oin2_7) ?hin2_7 ?han2_7 ?hnn2_7
      case hin2_7 => (simp only [List.getElem?_toArray, List.getElem?_cons_succ, List.getElem?_cons_zero]; rfl)
      case han2_7 =>
        intro K hK
        go_simp
        go_at_call 70
        refine (IH.out _).mono ?_
        rintro e w8 ⟨rfl, hb⟩
        try (replace KB := KB.belowSelf hb)
        replace B := B.trans (hb.mono B.size)
        clear hb
        refine hK.out _ _ (trivial) (fun hHeld => ?_)
        clear hK K
        (try simp only [Act.put, List.setIfInBounds_toArray, List.set_cons_zero, List.set_cons_succ])
        refine wpAnyH_ready (rs := [7]) (by kernel_rfl) (by simp) ?_
        refine AllReadyH.cons (o := ?oin7_8) ?hin7_8 ?han7_8 ?hnn7_8
        case hin7_8 => (simp only [List.getElem?_toArray, List.getElem?_cons_succ, List.getElem?_cons_zero]; rfl)
        case han7_8 =>
          intro K hK
          go_simp
          (first | refine lit_u B ?_ | refine lit_ud B ?_)
          intro W7 B7 KB
          try (replace KB : Blk _ w.heap.size _ _ := KB)
          clear B
          have B := B7
          clear B7
          refine hK.out _ _ (trivial) (fun hHeld => ?_)
          clear hK K
          (try simp only [Act.put, List.setIfInBounds_toArray, List.set_cons_zero, List.set_cons_succ])
          refine wpAnyH_ready (rs := [8]) (by kernel_rfl) (by simp) ?_
          refine AllReadyH.cons (o := ?oin8_9) ?hin8_9 ?han8_9 ?hnn8_9
          case hin8_9 => (simp only [List.getElem?_toArray, List.getElem?_cons_succ, List.getElem?_cons_zero]; rfl)
          case han8_9 =>
            intro K hK
            have hcv := conv_one _ _ d (48 + (r : Int)) hc1.out (KB.cell 0)
            go_simp
            clear hcv
            refine hK.out _ _ (trivial) (fun hHeld => ?_)
            clear hK K
            (try simp only [Act.put, List.setIfInBounds_toArray, List.set_cons_zero, List.set_cons_succ])
            refine wpAnyH_take (i := 9) (oi := ?oin9_10) (v := ?vn9_10) ?hin9_10 (by kernel_rfl) (by kernel_rfl) (by kernel_rfl) ?hQn9_10 ?hyn9_10 (by assumption) ?hrn9_10
            case hin9_10 => (simp only [List.getElem?_toArray, List.getElem?_cons_succ, List.getElem?_cons_zero]; rfl)
            case hQn9_10 => exact fun _ _ _ h => h
            case hyn9_10 => (refine Or.inl ⟨by rfl, ?_⟩; intro w hSw; (try dsimp only at hSw); (go_simp <;> with_reducible rfl))
            (try simp only [Act.put, List.setIfInBounds_toArray, List.set_cons_zero, List.set_cons_succ])
            refine wpAnyH_take (i := 10) (oi := ?oin10_11) (v := ?vn10_11) ?hin10_11 (by kernel_rfl) (by kernel_rfl) (by kernel_rfl) ?hQn10_11 ?hyn10_11 (by assumption) ?hrn10_11
            case hin10_11 => (simp only [List.getElem?_toArray, List.getElem?_cons_succ, List.getElem?_cons_zero]; rfl)
            case hQn10_11 => exact fun _ _ _ h => h
            case hyn10_11 => (refine Or.inl ⟨by rfl, ?_⟩; intro w hSw; (try dsimp only at hSw); (go_simp <;> with_reducible rfl))
            (try simp only [Act.put, List.setIfInBounds_toArray, List.set_cons_zero, List.set_cons_succ])
            refine wpAnyH_done (by kernel_rfl) ?_ _
            go_wp2
            go_ret
            exact ⟨rfl, B⟩
          case hnn8_9 =>
            exact AllReadyH.nil
        case hnn7_8 =>
          exact AllReadyH.nil
      case hnn2_7 =>
        refine AllReadyH.cons (o := ?oin7_12) ?hin7_12 ?han7_12 ?hnn7_12
        case hin7_12 => (simp only [List.getElem?_toArray, List.getElem?_cons_succ, List.getElem?_cons_zero]; rfl)
        case han7_12 =>
          intro K hK
          go_simp
          (first | refine lit_u B ?_ | refine lit_ud B ?_)
          intro W7 B7 KB
          try (replace KB : Blk _ w.heap.size _ _ := KB)
          clear B
          have B := B7
          clear B7
          refine hK.out _ _ (trivial) (fun hHeld => ?_)
          clear hK K
          (try simp only [Act.put, List.setIfInBounds_toArray, List.set_cons_zero, List.set_cons_succ])
          refine wpAnyH_ready (rs := [2, 8]) (by kernel_rfl) (by simp) ?_
          refine AllReadyH.cons (o := ?oin2_13) ?hin2_13 ?han2_13 ?hnn2_13
          case hin2_13 => (simp only [List.getElem?_toArray, List.getElem?_cons_succ, List.getElem?_cons_zero]; rfl)
          case han2_13 =>
            intro K hK
            go_simp
            go_at_call 70
            refine (IH.out _).mono ?_
            rintro e w8 ⟨rfl, hb⟩
            try (replace KB := KB.belowSelf hb)
            replace B := B.trans (hb.mono B.size)
            clear hb
            refine hK.out _ _ (trivial) (fun hHeld => ?_)
            clear hK K
            (try simp only [Act.put, List.setIfInBounds_toArray, List.set_cons_zero, List.set_cons_succ])
            refine wpAnyH_ready (rs := [8]) (by kernel_rfl) (by simp) ?_
            refine AllReadyH.cons (o := ?oin8_14) ?hin8_14 ?han8_14 ?hnn8_14
            case hin8_14 => (simp only [List.getElem?_toArray, List.getElem?_cons_succ, List.getElem?_cons_zero]; rfl)
            case han8_14 =>
              intro K hK
              have hcv := conv_one _ _ d (48 + (r : Int)) hc1.out (KB.cell 0)
              go_simp
              clear hcv
              refine hK.out _ _ (trivial) (fun hHeld => ?_)
              clear hK K
              (try simp only [Act.put, List.setIfInBounds_toArray, List.set_cons_zero, List.set_cons_succ])
              refine wpAnyH_take (i := 9) (oi := ?oin9_15) (v := ?vn9_15) ?hin9_15 (by kernel_rfl) (by kernel_rfl) (by kernel_rfl) ?hQn9_15 ?hyn9_15 (by assumption) ?hrn9_15
              case hin9_15 => (simp only [List.getElem?_toArray, List.getElem?_cons_succ, List.getElem?_cons_zero]; rfl)
              case hQn9_15 => exact fun _ _ _ h => h
              case hyn9_15 => (refine Or.inl ⟨by rfl, ?_⟩; intro w hSw; (try dsimp only at hSw); (go_simp <;> with_reducible rfl))
              (try simp only [Act.put, List.setIfInBounds_toArray, List.set_cons_zero, List.set_cons_succ])
              refine wpAnyH_take (i := 10) (oi := ?oin10_16) (v := ?vn10_16) ?hin10_16 (by kernel_rfl) (by kernel_rfl) (by kernel_rfl) ?hQn10_16 ?hyn10_16 (by assumption) ?hrn10_16
              case hin10_16 => (simp only [List.getElem?_toArray, List.getElem?_cons_succ, List.getElem?_cons_zero]; rfl)
              case hQn10_16 => exact fun _ _ _ h => h
              case hyn10_16 => (refine Or.inl ⟨by rfl, ?_⟩; intro w hSw; (try dsimp only at hSw); (go_simp <;> with_reducible rfl))
              (try simp only [Act.put, List.setIfInBounds_toArray, List.set_cons_zero, List.set_cons_succ])
              refine wpAnyH_done (by kernel_rfl) ?_ _
              go_wp2
              go_ret
              exact ⟨rfl, B⟩
            case hnn8_14 =>
              exact AllReadyH.nil
          case hnn2_13 =>
            refine AllReadyH.cons (o := ?oin8_17) ?hin8_17 ?han8_17 ?hnn8_17
            case hin8_17 => (simp only [List.getElem?_toArray, List.getElem?_cons_succ, List.getElem?_cons_zero]; rfl)
            case han8_17 =>
              intro K hK
              have hcv := conv_one _ _ d (48 + (r : Int)) hc1.out (KB.cell 0)
              go_simp
              clear hcv
              refine hK.out _ _ (trivial) (fun hHeld => ?_)
              clear hK K
              (try simp only [Act.put, List.setIfInBounds_toArray, List.set_cons_zero, List.set_cons_succ])
              refine wpAnyH_ready (rs := [2]) (by kernel_rfl) (by simp) ?_
              refine AllReadyH.cons (o := ?oin2_18) ?hin2_18 ?han2_18 ?hnn2_18
              case hin2_18 => (simp only [List.getElem?_toArray, List.getElem?_cons_succ, List.getElem?_cons_zero]; rfl)
              case han2_18 =>
                intro K hK
                go_simp
                go_at_call 70
                refine (IH.out _).mono ?_
                rintro e w8 ⟨rfl, hb⟩
                try (replace KB := KB.belowSelf hb)
                replace B := B.trans (hb.mono B.size)
                clear hb
                refine hK.out _ _ (trivial) (fun hHeld => ?_)
                clear hK K
                (try simp only [Act.put, List.setIfInBounds_toArray, List.set_cons_zero, List.set_cons_succ])
                refine wpAnyH_take (i := 9) (oi := ?oin9_19) (v := ?vn9_19) ?hin9_19 (by kernel_rfl) (by kernel_rfl) (by kernel_rfl) ?hQn9_19 ?hyn9_19 (by assumption) ?hrn9_19
                case hin9_19 => (simp only [List.getElem?_toArray, List.getElem?_cons_succ, List.getElem?_cons_zero]; rfl)
                case hQn9_19 => exact fun _ _ _ h => h
                case hyn9_19 => (refine Or.inl ⟨by rfl, ?_⟩; intro w hSw; (try dsimp only at hSw); (go_simp <;> with_reducible rfl))
                (try simp only [Act.put, List.setIfInBounds_toArray, List.set_cons_zero, List.set_cons_succ])
                refine wpAnyH_take (i := 10) (oi := ?oin10_20) (v := ?vn10_20) ?hin10_20 (by kernel_rfl) (by kernel_rfl) (by kernel_rfl) ?hQn10_20 ?hyn10_20 (by assumption) ?hrn10_20
                case hin10_20 => (simp only [List.getElem?_toArray, List.getElem?_cons_succ, List.getElem?_cons_zero]; rfl)
                case hQn10_20 => exact fun _ _ _ h => h
                case hyn10_20 => (refine Or.inl ⟨by rfl, ?_⟩; intro w hSw; (try dsimp only at hSw); (go_simp <;> with_reducible rfl))
                (try simp only [Act.put, List.setIfInBounds_toArray, List.set_cons_zero, List.set_cons_succ])
                refine wpAnyH_done (by kernel_rfl) ?_ _
                go_wp2
                go_ret
                exact ⟨rfl, B⟩
              case hnn2_18 =>
                exact AllReadyH.nil
            case hnn8_17 =>
              exact AllReadyH.nil
        case hnn7_12 =>
          exact AllReadyH.nil

set_option maxHeartbeats 800000 in
theorem l01Number_any (n : Int) (w : World) (h0 : -9223372036854775807 ≤ n) (h1 : n ≤ 9223372036854775807) :
    Calls Tryz.prog 48 #[.int .i64 n] w fun e w' => e = .returned (.string (str (itoa n))) ∧ Below w.heap.size w w' := by
  by_cases hn : n < 0
  · obtain ⟨u, rfl⟩ : ∃ u : Nat, n = -(u : Int) := ⟨n.natAbs, by omega⟩
    have hsz : ¬ 9223372036854775807 < (⟨#[45]⟩ : ByteArray).size + (str (decDigits u)).size := by
      rw [str_size]
      have := Go.Lib.itoa_length_le (u : Int) (by omega) (by omega)
      rw [Go.Lib.itoa_nonneg] at this
      simp [ByteArray.size]; omega
    have hi : str (itoa (-(u : Int))) = (⟨#[45]⟩ : ByteArray) ++ str (decDigits u) := by
      rw [Go.Lib.itoa_neg u (by omega)]
      exact (str_app [45] (decDigits u)).symm
    rw [hi]
    clear hi
    go_enter Tryz.func48, Tryz.ntmps48
    go_wp2_with fail
    go_at_call 70
    refine (l01Dec_any u _ (by omega)).mono ?_
    rintro e w1 ⟨rfl, hb⟩
    go_wp2
    go_ret
    exact ⟨rfl, hb⟩
  · obtain ⟨u, rfl⟩ := Int.eq_ofNat_of_zero_le (show 0 ≤ n by omega)
    rw [Go.Lib.itoa_nonneg]
    go_enter Tryz.func48, Tryz.ntmps48
    go_wp2_with fail
    go_at_call 70
    refine (l01Dec_any u _ (by omega)).mono ?_
    rintro e w1 ⟨rfl, hb⟩
    go_wp2
    go_ret
    exact ⟨rfl, hb⟩

/-! ### reading -/
theorem size_data (s : ByteArray) : s.size = s.data.toList.length := by rw [Array.length_toList]; rfl
theorem byte_at (s : ByteArray) (k : Nat) (h : k < s.size) : s.data.toList[k]? = some (s[k]'h) := by
  have h2 : k < s.data.size := h
  rw [Array.getElem?_toList, Array.getElem?_eq_getElem h2]
  rfl

/-- The first k bytes are digits, their value is v. -/
def DigInv (l : Txt) (k v : Nat) : Prop := (∀ c ∈ l.take k, 48 ≤ c.toNat ∧ c.toNat ≤ 57) ∧ valF 0 (l.take k) = v
theorem DigInv.start (l : Txt) : DigInv l 0 0 := ⟨by simp, by simp [valF]⟩
theorem DigInv.step {l : Txt} {k v : Nat} {c : UInt8} (h : DigInv l k v) (hc : l[k]? = some c) (h1 : 48 ≤ c.toNat) (h2 : c.toNat ≤ 57) : DigInv l (k + 1) (10 * v + (c.toNat - 48)) := by
  have e : l.take (k + 1) = l.take k ++ [c] := take_snoc hc
  refine ⟨fun d hd => ?_, ?_⟩
  · rw [e] at hd
    rcases List.mem_append.1 hd with hd | hd
    · exact h.1 d hd
    · simp at hd; subst hd; exact ⟨h1, h2⟩
  · rw [e, valF_snoc, h.2]
theorem DigInv.bd {l : Txt} {k v : Nat} (h : DigInv l k v) (hk : k ≤ 12) : v < 10 ^ k := by
  obtain ⟨h1, rfl⟩ := h
  have : ∀ (t : Txt) (a : Nat), (∀ c ∈ t, 48 ≤ c.toNat ∧ c.toNat ≤ 57) → valF a t < (a + 1) * 10 ^ t.length := by
    intro t
    induction t with
    | nil => intro a _; simp [valF]
    | cons c t ih =>
      intro a hd
      have h1 := ih (10 * a + (c.toNat - 48)) (fun x hx => hd x (by simp [hx]))
      have h2 := hd c (by simp)
      have e : valF a (c :: t) = valF (10 * a + (c.toNat - 48)) t := rfl
      rw [e, List.length_cons, Nat.pow_succ]
      refine Nat.lt_of_lt_of_le h1 ?_
      rw [show (a + 1) * (10 ^ t.length * 10) = (10 * (a + 1)) * 10 ^ t.length by rw [Nat.mul_comm (10 ^ t.length) 10, ← Nat.mul_assoc, Nat.mul_comm (a + 1) 10]]
      exact Nat.mul_le_mul_right _ (by omega)
  have h2 : valF 0 (l.take k) < 10 ^ (l.take k).length := by simpa using this (l.take k) 0 h1
  have h3 : (l.take k).length ≤ k := by simp; omega
  exact Nat.lt_of_lt_of_le h2 (Nat.pow_le_pow_right (by omega) h3)

/-- What reading a numeral of digits gives. -/
def DecOf (s : Txt) (n : Int) (ok : Bool) : Prop := (ok = true → s = decDigits n.toNat ∧ 0 ≤ n ∧ n ≤ 999999999999) ∧ (ok = false → ∀ m : Nat, m ≤ 999999999999 → s ≠ decDigits m)
theorem dec_len12 {m : Nat} (h : m ≤ 999999999999) : 1 ≤ (decDigits m).length ∧ (decDigits m).length ≤ 12 := by
  rw [Go.Lib.decDigits_length]
  refine ⟨Go.Lib.nDigits_pos m, ?_⟩
  rcases Nat.lt_or_ge (Go.Lib.nDigits m) 13 with h1 | h1
  · omega
  · have hne : 10 ^ 12 ≤ m := by
      have key : ∀ k u : Nat, Go.Lib.nDigits u = k + 1 → 1 ≤ k → 10 ^ k ≤ u := by
        intro k
        induction k with
        | zero => omega
        | succ k ih =>
          intro u hu _
          by_cases hs : u < 10
          · rw [Go.Lib.nDigits_small hs] at hu; omega
          · rw [Go.Lib.nDigits_big hs] at hu
            rcases Nat.eq_zero_or_pos k with h0 | h0
            · subst h0; simp; omega
            · have := ih (u / 10) (by omega) h0
              rw [Nat.pow_succ]; omega
      obtain ⟨j, hj⟩ : ∃ j, Go.Lib.nDigits m = j + 1 := ⟨Go.Lib.nDigits m - 1, by omega⟩
      have := key j m hj (by omega)
      exact Nat.le_trans (Nat.pow_le_pow_right (by omega) (by omega)) this
    omega
theorem decOf_len {s : Txt} (h : s.length < 1 ∨ 12 < s.length) : DecOf s 0 false := ⟨fun h => (by cases h), fun _ m hm e => by
  have := dec_len12 hm
  rw [← e] at this; omega⟩
theorem decOf_bad {s : Txt} {k : Nat} {c : UInt8} (hc : s[k]? = some c) (h : ¬ (48 ≤ c.toNat ∧ c.toNat ≤ 57)) : DecOf s 0 false := ⟨fun h => (by cases h), fun _ m hm e => by
  rw [e] at hc
  exact h (decDigits_bytes m c (List.mem_of_getElem? hc))⟩
theorem decOf_end {s : Txt} {v : Nat} (h : DigInv s s.length v) (hl : s.length ≤ 12) : DecOf s v (decDigits v == s) := by
  have hb := h.bd hl
  have hb2 : v < 10 ^ 12 := Nat.lt_of_lt_of_le hb (Nat.pow_le_pow_right (by omega) hl)
  refine ⟨fun e => ⟨by simpa using (by simpa using e : decDigits v = s).symm, by omega, by omega⟩, fun e m hm hs => ?_⟩
  have hv : valF 0 s = v := by have := h.2; rwa [List.take_of_length_le (Nat.le_refl _)] at this
  rw [hs, val_dec] at hv
  subst hv
  rw [hs] at e
  simp at e

def ValPost (s : Txt) (w : World) (e : Ending) (w' : World) : Prop := ∃ n ok, e = .returned (.tuple #[.int .i64 n, .bool ok]) ∧ DecOf s n ok ∧ -999999999999 ≤ n ∧ n ≤ 999999999999 ∧ Below w.heap.size w w'

set_option maxHeartbeats 1600000 in
theorem l01Value_any (s : ByteArray) (w : World) (hs : s.size ≤ 1048576) :
    Calls Tryz.prog 69 #[.string s] w (ValPost s.data.toList w) := by
  have hsd := size_data s
  by_cases hl : s.size < 1 ∨ 12 < s.size
  · have hI : ((s.size : Int) < 1) ∨ (12 : Int) < (s.size : Int) := by omega
    have hd := Lib.hid (decOf_len (s := s.data.toList) (by omega))
    clear hsd
    go_enter Tryz.func69, Tryz.ntmps69
    rcases hI with hI | hI
    · go_wp2
      go_returns
      exact ⟨0, false, rfl, hd.out, by omega, by omega, Below.refl _ _⟩
    · have hI2 : ¬ ((s.size : Int) < 1) := by omega
      go_wp2
      go_returns
      exact ⟨0, false, rfl, hd.out, by omega, by omega, Below.refl _ _⟩
  · have h1 : ¬ ((s.size : Int) < 1) := by omega
    have h2 : ¬ ((12 : Int) < (s.size : Int)) := by omega
    have HL := Lib.hid (show s.data.toList.length = s.size ∧ s.size ≤ 12 by omega)
    clear hl hsd
    go_enter Tryz.func69, Tryz.ntmps69
    go_wp2
    go_loop [4, 5] (fun n i => ∃ k v : Nat, n = .int .i64 v ∧ i = .int .i64 k ∧ k ≤ s.size ∧ Hid (DigInv s.data.toList k v) ∧ v < 1000000000000) (fun _ i => s.size - (intOf i).toNat)
    case atStart => exact ⟨0, 0, rfl, rfl, by omega, Lib.hid (DigInv.start _), by omega⟩
    case round =>
      obtain ⟨k, v, rfl, rfl, hk, HD, hv⟩ := hrel
      by_cases hlt : k < s.size
      · have hc := byte_at s k hlt
        obtain ⟨c, hg⟩ : ∃ c, s[k]'hlt = c := ⟨_, rfl⟩
        rw [hg] at hc
        have hkI : (k : Int) < (s.size : Int) := by omega
        have hX := c.toNat_lt
        have HC := Lib.hid hc
        clear hc
        by_cases hx1 : c.toNat < 48
        · have hb := Lib.hid (decOf_bad HC.out (by omega))
          have hxI : (c.toNat : Int) < 48 := by omega
          clear HL HD
          go_wp2
          go_returns
          exact ⟨0, false, rfl, hb.out, by omega, by omega, Below.refl _ _⟩
        · have hxI : ¬ (c.toNat : Int) < 48 := by omega
          by_cases hx2 : 57 < c.toNat
          · have hb := Lib.hid (decOf_bad HC.out (by omega))
            have hxJ : (57 : Int) < (c.toNat : Int) := by omega
            clear HL HD
            go_wp2
            go_returns
            exact ⟨0, false, rfl, hb.out, by omega, by omega, Below.refl _ _⟩
          · have hxJ : ¬ (57 : Int) < (c.toNat : Int) := by omega
            have hst := Lib.hid (HD.out.step HC.out (by omega) (by omega))
            have hvb : 10 * v + (c.toNat - 48) < 1000000000000 := by
              have h3 := hst.out.bd (by have := HL.out; omega)
              exact Nat.lt_of_lt_of_le h3 (Nat.le_trans (Nat.pow_le_pow_right (by omega) (show k + 1 ≤ 12 by have := HL.out; omega)) (by decide))
            clear HD HC
            go_wp2
            go_round
            case rel => exact ⟨k + 1, 10 * v + (c.toNat - 48), by congr 1; omega, by go_num, by omega, hst, hvb⟩
            case measure => simp [intOf]; omega
      · obtain rfl : k = s.size := by omega
        have hst := Lib.hid (show DecOf s.data.toList v (decDigits v == s.data.toList) from decOf_end (by rw [HL.out.1]; exact HD.out) (by have := HL.out; omega))
        clear HD HL
        go_wp2_with fail
        go_at_call 70
        refine (l01Dec_any v _ (by omega)).mono ?_
        rintro e w1 ⟨rfl, hb⟩
        go_wp2
        go_returns
        refine ⟨(v : Int), (str (decDigits v)).toList == s.toList, rfl, ?_, by omega, by omega, hb⟩
        rw [toL, toL, data_str]
        exact hst.out

/-- What reading a signed numeral gives, as far as it has at most twelve digits. -/
def NumS (s : Txt) (n : Int) (ok : Bool) : Prop := NumOf (-999999999999) 999999999999 s n ok
def SgnPost (s : Txt) (w : World) (e : Ending) (w' : World) : Prop := ∃ n ok, e = .returned (.tuple #[.int .i64 n, .bool ok]) ∧ NumS s n ok ∧ -999999999999 ≤ n ∧ n ≤ 999999999999 ∧ Below w.heap.size w w'
theorem numS_pos {s : Txt} {n : Int} {ok : Bool} (h : DecOf s n ok) (hs : ∀ r, s ≠ 45 :: r) : NumS s n ok := by
  refine ⟨fun e => ?_, fun e m m0 m1 hm => ?_⟩
  · obtain ⟨h1, h2, h3⟩ := h.1 e
    obtain ⟨u, rfl⟩ := Int.eq_ofNat_of_zero_le h2
    exact ⟨by rw [Go.Lib.itoa_nonneg]; simpa using h1, by omega, h3⟩
  · by_cases hn : m < 0
    · obtain ⟨u, rfl⟩ : ∃ u : Nat, m = -(u : Int) := ⟨m.natAbs, by omega⟩
      rw [Go.Lib.itoa_neg u (by omega)] at hm
      exact hs _ hm
    · obtain ⟨u, rfl⟩ := Int.eq_ofNat_of_zero_le (show 0 ≤ m by omega)
      rw [Go.Lib.itoa_nonneg] at hm
      exact h.2 e u (by omega) hm
theorem numS_neg {r : Txt} {n : Int} {ok : Bool} (h : DecOf r n ok) : NumS (45 :: r) (-n) (ok && decide (0 < n)) := by
  refine ⟨fun e => ?_, fun e m m0 m1 hm => ?_⟩
  · simp only [Bool.and_eq_true, decide_eq_true_eq] at e
    obtain ⟨h1, h2, h3⟩ := h.1 e.1
    obtain ⟨u, rfl⟩ := Int.eq_ofNat_of_zero_le h2
    refine ⟨?_, by omega, by omega⟩
    rw [Go.Lib.itoa_neg u (by omega)]
    simpa using h1
  · by_cases hn : m < 0
    · obtain ⟨u, rfl⟩ : ∃ u : Nat, m = -(u : Int) := ⟨m.natAbs, by omega⟩
      rw [Go.Lib.itoa_neg u (by omega)] at hm
      injection hm with _ hm
      cases ok with
      | false => exact h.2 rfl u (by omega) hm
      | true =>
        obtain ⟨h1, h2, h3⟩ := h.1 rfl
        rw [hm] at h1
        have := dec_inj h1
        simp at e
        omega
    · obtain ⟨u, rfl⟩ := Int.eq_ofNat_of_zero_le (show 0 ≤ m by omega)
      rw [Go.Lib.itoa_nonneg] at hm
      have := decDigits_bytes u 45 (by rw [← hm]; simp)
      simp at this

set_option maxHeartbeats 1600000 in
theorem l01Signed_any (s : ByteArray) (w : World) (hs : s.size ≤ 1048576) :
    Calls Tryz.prog 47 #[.string s] w (SgnPost s.data.toList w) := by
  have hsd := size_data s
  by_cases h0 : s.size = 0
  · have hI : ¬ (0 : Int) < (s.size : Int) := by omega
    have he : s.data.toList = [] := List.eq_nil_of_length_eq_zero (by omega)
    clear hsd
    go_enter Tryz.func47, Tryz.ntmps47
    go_wp2_with fail
    go_at_call 69
    refine (l01Value_any s _ hs).mono ?_
    intro e w1 hd
    obtain ⟨n, ok, rfl, hd, n0, n1, hb⟩ := hd
    have hN := Lib.hid (numS_pos hd (by rw [he]; intro r e; cases e))
    clear hd he
    go_wp2
    go_returns
    exact ⟨n, ok, rfl, hN.out, n0, n1, hb⟩
  · have hI : (0 : Int) < (s.size : Int) := by omega
    have hp0 : 0 < s.size := by omega
    have hc := byte_at s 0 hp0
    obtain ⟨c, hg⟩ : ∃ c, s[0]'hp0 = c := ⟨_, rfl⟩
    rw [hg] at hc
    obtain ⟨r, hr⟩ : ∃ r, s.data.toList = c :: r := by
      cases hl : s.data.toList with
      | nil => rw [hl] at hc; simp at hc
      | cons a t => rw [hl] at hc; simp at hc; subst hc; exact ⟨t, rfl⟩
    have HR := Lib.hid hr
    clear hr
    by_cases hx : c.toNat = 45
    · have hxI : ((c.toNat : Int) == 45) = true := by simp; omega
      have hc45 : c = 45 := UInt8.toNat_inj.1 (by rw [hx]; rfl)
      have hxr : (s.extract 1 s.size).data.toList = r := by
        rw [Go.Lib.extract_data, HR.out]; simp [hsd, HR.out]
      have hxs : (s.extract 1 s.size).size ≤ 1048576 := by rw [size_data, hxr]; have := congrArg List.length HR.out; simp at this; omega
      have HX := Lib.hid hxr
      have HC := Lib.hid hc45
      clear hxr hc45 hsd
      go_enter Tryz.func47, Tryz.ntmps47
      go_wp2_with fail
      go_at_call 69
      refine (l01Value_any _ _ hxs).mono ?_
      intro e w1 hd
      obtain ⟨n, ok, rfl, hd, n0, n1, hb⟩ := hd
      rw [HX.out] at hd
      have hN := Lib.hid (show NumS s.data.toList (-n) (ok && decide (0 < n)) by rw [HR.out, HC.out]; exact numS_neg hd)
      clear hd
      cases ok with
      | false =>
        go_wp2
        go_returns
        exact ⟨-n, false, rfl, hN.out, by omega, by omega, hb⟩
      | true =>
        go_wp2
        go_returns
        exact ⟨-n, decide (0 < n), rfl, by simpa using hN.out, by omega, by omega, hb⟩
    · have hxI : ((c.toNat : Int) == 45) = false := by simp; omega
      have HN := Lib.hid (show ∀ r', s.data.toList ≠ 45 :: r' from fun r' e => by rw [HR.out] at e; injection e with e _; subst e; exact hx rfl)
      clear hsd
      go_enter Tryz.func47, Tryz.ntmps47
      go_wp2_with fail
      go_at_call 69
      refine (l01Value_any s _ hs).mono ?_
      intro e w1 hd
      obtain ⟨n, ok, rfl, hd, n0, n1, hb⟩ := hd
      have hN := Lib.hid (numS_pos hd HN.out)
      clear hd
      go_wp2
      go_returns
      exact ⟨n, ok, rfl, hN.out, n0, n1, hb⟩
end Go.Proofs.YtaimckepaldocaaGreatDoor
