/- A text that is damaged, a text and a list that are drawn, whatever the code. -/
import Derived.Test.YtaimckepaldocaaGreatDoorTextT
import Derived.Test.YtaimckepaldocaaGreatDoorDrawSnds
namespace Go.Proofs.YtaimckepaldocaaGreatDoor
open Go.RowKit
set_option maxRecDepth 100000
set_option linter.unusedVariables false
set_option linter.unusedSimpArgs false
set_option linter.unusedVariables false

theorem ext_size (t : ByteArray) (a b : Nat) : (t.extract a b).size ≤ b - a ∧ (t.extract a b).size ≤ t.size - a := by
  rw [ext_str, str_size, List.length_take, List.length_drop, size_data]
  omega
theorem app_size (a b : ByteArray) : (a ++ b).size = a.size + b.size := by
  rw [← str_data a, ← str_data b, str_app, str_size, str_size, str_size, List.length_append]

def DamPost (p : Nat) (t : ByteArray) (w : World) (e : Ending) (w' : World) : Prop := ∃ t', e = .returned (.string t') ∧ t'.size ≤ t.size + 1 ∧ SrcOk w' p ∧ w.grownBy w' (some p)

set_option maxHeartbeats 6400000 in
theorem l01Damage_any (p : Nat) (t : ByteArray) (w : World) (h : SrcOk w p) (ht : t.size ≤ 100000) :
    Calls Tryz.prog 30 #[.pointer (some ⟨p, 0, none⟩), .string t] w (DamPost p t w) := by
  have hpw := h.lt
  have HS := Lib.hid h
  have G := World.grownBy.refl w (some p)
  clear h
  go_enter Tryz.func30, Tryz.ntmps30
  go_wp2_with fail
  go_at_call 19
  refine (l01Next_any _ _ _ HS.out (by omega)).mono ?_
  rintro e w1 ⟨k, rfl, ⟨hk0, hk1, hk2⟩, hs, hg⟩
  have hk9 : k < (t.size : Int) + 1 := by
    by_cases h1 : (1 : Int) < (t.size : Int) + 1
    · exact hk1 h1
    · have := hk2 (by omega); omega
  replace G := G.trans hg
  replace HS := Lib.hid hs
  clear hk1 hk2 hs hg
  obtain ⟨K, rfl⟩ := Int.eq_ofNat_of_zero_le hk0
  have hKs : K ≤ t.size := by omega
  have hKI : (K : Int) ≤ (t.size : Int) := by omega
  clear hk9
  go_wp2_with fail
  go_at_call 19
  refine (l01Next_any _ _ _ HS.out (by omega)).mono ?_
  rintro e w2 ⟨c, rfl, -, hs, hg⟩
  replace G := G.trans hg
  replace HS := Lib.hid hs
  clear hs hg
  by_cases c0 : c = 0
  · subst c0
    go_wp2
    go_ret
    exact ⟨_, rfl, by have := ext_size t 0 K; omega, HS.out, G⟩
  have f0 : (c == 0) = false := by simpa using c0
  clear c0
  by_cases c1 : c = 1
  · subst c1
    obtain ⟨A, hA⟩ : ∃ A, t.extract 0 K = A := ⟨_, rfl⟩
    obtain ⟨Z, hZ⟩ : ∃ Z, t.extract K t.size = Z := ⟨_, rfl⟩
    have hAs : A.size ≤ K := by rw [← hA]; have := ext_size t 0 K; omega
    have hZs : Z.size ≤ t.size - K := by rw [← hZ]; exact (ext_size t K t.size).1
    go_upto_region 6 with (fail)
    replace HS := Lib.hid HS.out.drew
    replace G := grown_below G (Below.refl w.heap.size w2).drew
    have hpw2 := HS.out.lt
    refine wp_region_held_drew (S := fun w' => True) (by kernel_rfl) (trivial) (fun hHeld => ?_)
    refine wpAnyH_take (i := 0) (oi := ?oid0_1) (v := ?vd0_1) ?hid0_1 (by kernel_rfl) (by kernel_rfl) (by kernel_rfl) ?hQd0_1 ?hyd0_1 (by assumption) ?hrd0_1
    case hid0_1 => (simp only [List.getElem?_toArray, List.getElem?_cons_succ, List.getElem?_cons_zero]; rfl)
    case hQd0_1 => exact fun _ _ _ h => h
    case hyd0_1 => (refine Or.inl ⟨by rfl, ?_⟩; intro w hSw; (try dsimp only at hSw); (go_simp <;> with_reducible rfl))
    (try simp only [Act.put, List.setIfInBounds_toArray, List.set_cons_zero, List.set_cons_succ])
    refine wpAnyH_take (i := 1) (oi := ?oid1_2) (v := ?vd1_2) ?hid1_2 (by kernel_rfl) (by kernel_rfl) (by kernel_rfl) ?hQd1_2 ?hyd1_2 (by assumption) ?hrd1_2
    case hid1_2 => (simp only [List.getElem?_toArray, List.getElem?_cons_succ, List.getElem?_cons_zero]; rfl)
    case hQd1_2 => exact fun _ _ _ h => h
    case hyd1_2 => (refine Or.inl ⟨by rfl, ?_⟩; intro w hSw; (try dsimp only at hSw); (go_simp <;> with_reducible rfl))
    (try simp only [Act.put, List.setIfInBounds_toArray, List.set_cons_zero, List.set_cons_succ])
    refine wpAnyH_take (i := 2) (oi := ?oid2_3) (v := ?vd2_3) ?hid2_3 (by kernel_rfl) (by kernel_rfl) (by kernel_rfl) ?hQd2_3 ?hyd2_3 (by assumption) ?hrd2_3
    case hid2_3 => (simp only [List.getElem?_toArray, List.getElem?_cons_succ, List.getElem?_cons_zero]; rfl)
    case hQd2_3 => exact fun _ _ _ h => h
    case hyd2_3 => (refine Or.inl ⟨by rfl, ?_⟩; intro w hSw; (try dsimp only at hSw); (go_simp <;> with_reducible rfl))
    (try simp only [Act.put, List.setIfInBounds_toArray, List.set_cons_zero, List.set_cons_succ])
    refine wpAnyH_take (i := 4) (oi := ?oid4_4) (v := ?vd4_4) ?hid4_4 (by kernel_rfl) (by kernel_rfl) (by kernel_rfl) ?hQd4_4 ?hyd4_4 (by assumption) ?hrd4_4
    case hid4_4 => (simp only [List.getElem?_toArray, List.getElem?_cons_succ, List.getElem?_cons_zero]; rfl)
    case hQd4_4 => exact fun _ _ _ h => h
    case hyd4_4 => (refine Or.inl ⟨by rfl, ?_⟩; intro w hSw; (try dsimp only at hSw); (go_simp <;> with_reducible rfl))
    (try simp only [Act.put, List.setIfInBounds_toArray, List.set_cons_zero, List.set_cons_succ])
    refine wpAnyH_take (i := 9) (oi := ?oid9_5) (v := ?vd9_5) ?hid9_5 (by kernel_rfl) (by kernel_rfl) (by kernel_rfl) ?hQd9_5 ?hyd9_5 (by assumption) ?hrd9_5
    case hid9_5 => (simp only [List.getElem?_toArray, List.getElem?_cons_succ, List.getElem?_cons_zero]; rfl)
    case hQd9_5 => exact fun _ _ _ h => h
    case hyd9_5 => (refine Or.inl ⟨by rfl, ?_⟩; intro w hSw; (try dsimp only at hSw); (go_simp <;> with_reducible rfl))
    (try simp only [Act.put, List.setIfInBounds_toArray, List.set_cons_zero, List.set_cons_succ])
    refine wpAnyH_take (i := 10) (oi := ?oid10_6) (v := ?vd10_6) ?hid10_6 (by kernel_rfl) (by kernel_rfl) (by kernel_rfl) ?hQd10_6 ?hyd10_6 (by assumption) ?hrd10_6
    case hid10_6 => (simp only [List.getElem?_toArray, List.getElem?_cons_succ, List.getElem?_cons_zero]; rfl)
    case hQd10_6 => exact fun _ _ _ h => h
    case hyd10_6 => (refine Or.inl ⟨by rfl, ?_⟩; intro w hSw; (try dsimp only at hSw); (go_simp <;> with_reducible rfl))
    (try simp only [Act.put, List.setIfInBounds_toArray, List.set_cons_zero, List.set_cons_succ])
    refine wpAnyH_take (i := 11) (oi := ?oid11_7) (v := ?vd11_7) ?hid11_7 (by kernel_rfl) (by kernel_rfl) (by kernel_rfl) ?hQd11_7 ?hyd11_7 (by assumption) ?hrd11_7
    case hid11_7 => (simp only [List.getElem?_toArray, List.getElem?_cons_succ, List.getElem?_cons_zero]; rfl)
    case hQd11_7 => exact fun _ _ _ h => h
    case hyd11_7 => (refine Or.inl ⟨by rfl, ?_⟩; intro w hSw; (try dsimp only at hSw); (go_simp <;> with_reducible rfl))
    (try simp only [Act.put, List.setIfInBounds_toArray, List.set_cons_zero, List.set_cons_succ])
    refine wpAnyH_ready (rs := [3, 5]) (by kernel_rfl) (by simp) ?_
    refine AllReadyH.cons (o := ?oid3_8) ?hid3_8 ?had3_8 ?hnd3_8
    case hid3_8 => (simp only [List.getElem?_toArray, List.getElem?_cons_succ, List.getElem?_cons_zero]; rfl)
    case had3_8 =>
      intro K hK
      go_simp
      (first | refine lit_v ?_ | refine lit_vd ?_)
      intro W7 hb7 hz7 KB
      replace HS := Lib.hid (HS.out.below hb7 HS.out.lt)
      replace G := grown_below G (hb7.mono G.size)
      clear hb7
      refine hK.out _ _ (trivial) (fun hHeld => ?_)
      clear hK K
      (try simp only [Act.put, List.setIfInBounds_toArray, List.set_cons_zero, List.set_cons_succ])
      refine wpAnyH_ready (rs := [5]) (by kernel_rfl) (by simp) ?_
      refine AllReadyH.cons (o := ?oid5_9) ?hid5_9 ?had5_9 ?hnd5_9
      case hid5_9 => (simp only [List.getElem?_toArray, List.getElem?_cons_succ, List.getElem?_cons_zero]; rfl)
      case had5_9 =>
        intro K hK
        go_simp
        go_at_call 19
        refine (l01Next_any _ _ _ HS.out (by omega)).mono ?_
        rintro e w9 ⟨u, rfl, ⟨hu0, hu1, -⟩, hs, hg⟩
        have hu9 := hu1 (by omega)
        try (replace KB := KB.grown hg (fun e => by injection e with e; have : p < w2.heap.size := hpw2; have e2 : w2.drew.heap.size = w2.heap.size := rfl; omega))
        replace G := G.trans hg
        replace HS := Lib.hid hs
        obtain ⟨U, rfl⟩ := Int.eq_ofNat_of_zero_le hu0
        clear hu1 hs hg
        refine hK.out _ _ (trivial) (fun hHeld => ?_)
        clear hK K
        (try simp only [Act.put, List.setIfInBounds_toArray, List.set_cons_zero, List.set_cons_succ])
        refine wpAnyH_take (i := 6) (oi := ?oid6_10) (v := ?vd6_10) ?hid6_10 (by kernel_rfl) (by kernel_rfl) (by kernel_rfl) ?hQd6_10 ?hyd6_10 (by assumption) ?hrd6_10
        case hid6_10 => (simp only [List.getElem?_toArray, List.getElem?_cons_succ, List.getElem?_cons_zero]; rfl)
        case hQd6_10 => exact fun _ _ _ h => h
        case hyd6_10 => (refine Or.inl ⟨by rfl, ?_⟩; intro w hSw; (try dsimp only at hSw); (go_simp <;> with_reducible rfl))
        (try simp only [Act.put, List.setIfInBounds_toArray, List.set_cons_zero, List.set_cons_succ])
        refine wpAnyH_ready (rs := [7]) (by kernel_rfl) (by simp) ?_
        refine AllReadyH.cons (o := ?oid7_11) ?hid7_11 ?had7_11 ?hnd7_11
        case hid7_11 => (simp only [List.getElem?_toArray, List.getElem?_cons_succ, List.getElem?_cons_zero]; rfl)
        case had7_11 =>
          intro K hK
          obtain ⟨v, hv, hvs⟩ : ∃ v : ByteArray, (#[.string ⟨#[48]⟩, .string ⟨#[49]⟩, .string ⟨#[32]⟩, .string ⟨#[45]⟩, .string ⟨#[46]⟩, .string ⟨#[97]⟩, .string ⟨#[10]⟩, .string ⟨#[44]⟩] : Array Value)[U]? = some (.string v) ∧ v.size = 1 := by
            have : U = 0 ∨ U = 1 ∨ U = 2 ∨ U = 3 ∨ U = 4 ∨ U = 5 ∨ U = 6 ∨ U = 7 := by omega
            rcases this with rfl | rfl | rfl | rfl | rfl | rfl | rfl | rfl <;> exact ⟨_, rfl, rfl⟩
          have hcl := (KB.cell U).trans hv
          go_simp
          obtain ⟨C, hC⟩ : ∃ C, A ++ v = C := ⟨_, rfl⟩
          have hs1 : ¬ 9223372036854775807 < A.size + v.size := by omega
          have hs3 : ¬ 9223372036854775807 < A.size + 1 := by omega
          have hs4 : ¬ 9223372036854775807 < A.size + 1 + Z.size := by omega
          have hCs : C.size = A.size + 1 := by rw [← hC, app_size, hvs]
          have hs2 : ¬ 9223372036854775807 < C.size + Z.size := by omega
          clear hcl hv
          refine hK.out _ _ (trivial) (fun hHeld => ?_)
          clear hK K
          (try simp only [Act.put, List.setIfInBounds_toArray, List.set_cons_zero, List.set_cons_succ])
          refine wpAnyH_take (i := 8) (oi := ?oid8_12) (v := ?vd8_12) ?hid8_12 (by kernel_rfl) (by kernel_rfl) (by kernel_rfl) ?hQd8_12 ?hyd8_12 (by assumption) ?hrd8_12
          case hid8_12 => (simp only [List.getElem?_toArray, List.getElem?_cons_succ, List.getElem?_cons_zero]; rfl)
          case hQd8_12 => exact fun _ _ _ h => h
          case hyd8_12 => (refine Or.inl ⟨by rfl, ?_⟩; intro w hSw; (try dsimp only at hSw); (go_simp <;> with_reducible rfl))
          (try simp only [Act.put, List.setIfInBounds_toArray, List.set_cons_zero, List.set_cons_succ])
          refine wpAnyH_take (i := 12) (oi := ?oid12_13) (v := ?vd12_13) ?hid12_13 (by kernel_rfl) (by kernel_rfl) (by kernel_rfl) ?hQd12_13 ?hyd12_13 (by assumption) ?hrd12_13
          case hid12_13 => (simp only [List.getElem?_toArray, List.getElem?_cons_succ, List.getElem?_cons_zero]; rfl)
          case hQd12_13 => exact fun _ _ _ h => h
          case hyd12_13 => (refine Or.inl ⟨by rfl, ?_⟩; intro w hSw; (try dsimp only at hSw); (go_simp <;> with_reducible rfl))
          (try simp only [Act.put, List.setIfInBounds_toArray, List.set_cons_zero, List.set_cons_succ])
          refine wpAnyH_take (i := 13) (oi := ?oid13_14) (v := ?vd13_14) ?hid13_14 (by kernel_rfl) (by kernel_rfl) (by kernel_rfl) ?hQd13_14 ?hyd13_14 (by assumption) ?hrd13_14
          case hid13_14 => (simp only [List.getElem?_toArray, List.getElem?_cons_succ, List.getElem?_cons_zero]; rfl)
          case hQd13_14 => exact fun _ _ _ h => h
          case hyd13_14 => (refine Or.inl ⟨by rfl, ?_⟩; intro w hSw; (try dsimp only at hSw); (go_simp <;> with_reducible rfl))
          (try simp only [Act.put, List.setIfInBounds_toArray, List.set_cons_zero, List.set_cons_succ])
          refine wpAnyH_done (by kernel_rfl) ?_ _
          go_wp2
          go_ret
          exact ⟨_, rfl, by rw [app_size]; omega, HS.out, G⟩
        case hnd7_11 =>
          exact AllReadyH.nil
      case hnd5_9 =>
        exact AllReadyH.nil
    case hnd3_8 =>
      refine AllReadyH.cons (o := ?oid5_15) ?hid5_15 ?had5_15 ?hnd5_15
      case hid5_15 => (simp only [List.getElem?_toArray, List.getElem?_cons_succ, List.getElem?_cons_zero]; rfl)
      case had5_15 =>
        intro K hK
        go_simp
        go_at_call 19
        refine (l01Next_any _ _ _ HS.out (by omega)).mono ?_
        rintro e w9 ⟨u, rfl, ⟨hu0, hu1, -⟩, hs, hg⟩
        have hu9 := hu1 (by omega)
        try (replace KB := KB.grown hg (fun e => by injection e with e; have : p < w2.heap.size := hpw2; have e2 : w2.drew.heap.size = w2.heap.size := rfl; omega))
        replace G := G.trans hg
        replace HS := Lib.hid hs
        obtain ⟨U, rfl⟩ := Int.eq_ofNat_of_zero_le hu0
        clear hu1 hs hg
        refine hK.out _ _ (trivial) (fun hHeld => ?_)
        clear hK K
        (try simp only [Act.put, List.setIfInBounds_toArray, List.set_cons_zero, List.set_cons_succ])
        refine wpAnyH_ready (rs := [3]) (by kernel_rfl) (by simp) ?_
        refine AllReadyH.cons (o := ?oid3_16) ?hid3_16 ?had3_16 ?hnd3_16
        case hid3_16 => (simp only [List.getElem?_toArray, List.getElem?_cons_succ, List.getElem?_cons_zero]; rfl)
        case had3_16 =>
          intro K hK
          go_simp
          (first | refine lit_v ?_ | refine lit_vd ?_)
          intro W7 hb7 hz7 KB
          replace HS := Lib.hid (HS.out.below hb7 HS.out.lt)
          replace G := grown_below G (hb7.mono G.size)
          clear hb7
          refine hK.out _ _ (trivial) (fun hHeld => ?_)
          clear hK K
          (try simp only [Act.put, List.setIfInBounds_toArray, List.set_cons_zero, List.set_cons_succ])
          refine wpAnyH_take (i := 6) (oi := ?oid6_17) (v := ?vd6_17) ?hid6_17 (by kernel_rfl) (by kernel_rfl) (by kernel_rfl) ?hQd6_17 ?hyd6_17 (by assumption) ?hrd6_17
          case hid6_17 => (simp only [List.getElem?_toArray, List.getElem?_cons_succ, List.getElem?_cons_zero]; rfl)
          case hQd6_17 => exact fun _ _ _ h => h
          case hyd6_17 => (refine Or.inl ⟨by rfl, ?_⟩; intro w hSw; (try dsimp only at hSw); (go_simp <;> with_reducible rfl))
          (try simp only [Act.put, List.setIfInBounds_toArray, List.set_cons_zero, List.set_cons_succ])
          refine wpAnyH_ready (rs := [7]) (by kernel_rfl) (by simp) ?_
          refine AllReadyH.cons (o := ?oid7_18) ?hid7_18 ?had7_18 ?hnd7_18
          case hid7_18 => (simp only [List.getElem?_toArray, List.getElem?_cons_succ, List.getElem?_cons_zero]; rfl)
          case had7_18 =>
            intro K hK
            obtain ⟨v, hv, hvs⟩ : ∃ v : ByteArray, (#[.string ⟨#[48]⟩, .string ⟨#[49]⟩, .string ⟨#[32]⟩, .string ⟨#[45]⟩, .string ⟨#[46]⟩, .string ⟨#[97]⟩, .string ⟨#[10]⟩, .string ⟨#[44]⟩] : Array Value)[U]? = some (.string v) ∧ v.size = 1 := by
              have : U = 0 ∨ U = 1 ∨ U = 2 ∨ U = 3 ∨ U = 4 ∨ U = 5 ∨ U = 6 ∨ U = 7 := by omega
              rcases this with rfl | rfl | rfl | rfl | rfl | rfl | rfl | rfl <;> exact ⟨_, rfl, rfl⟩
            have hcl := (KB.cell U).trans hv
            go_simp
            obtain ⟨C, hC⟩ : ∃ C, A ++ v = C := ⟨_, rfl⟩
            have hs1 : ¬ 9223372036854775807 < A.size + v.size := by omega
            have hs3 : ¬ 9223372036854775807 < A.size + 1 := by omega
            have hs4 : ¬ 9223372036854775807 < A.size + 1 + Z.size := by omega
            have hCs : C.size = A.size + 1 := by rw [← hC, app_size, hvs]
            have hs2 : ¬ 9223372036854775807 < C.size + Z.size := by omega
            clear hcl hv
            refine hK.out _ _ (trivial) (fun hHeld => ?_)
            clear hK K
            (try simp only [Act.put, List.setIfInBounds_toArray, List.set_cons_zero, List.set_cons_succ])
            refine wpAnyH_take (i := 8) (oi := ?oid8_19) (v := ?vd8_19) ?hid8_19 (by kernel_rfl) (by kernel_rfl) (by kernel_rfl) ?hQd8_19 ?hyd8_19 (by assumption) ?hrd8_19
            case hid8_19 => (simp only [List.getElem?_toArray, List.getElem?_cons_succ, List.getElem?_cons_zero]; rfl)
            case hQd8_19 => exact fun _ _ _ h => h
            case hyd8_19 => (refine Or.inl ⟨by rfl, ?_⟩; intro w hSw; (try dsimp only at hSw); (go_simp <;> with_reducible rfl))
            (try simp only [Act.put, List.setIfInBounds_toArray, List.set_cons_zero, List.set_cons_succ])
            refine wpAnyH_take (i := 12) (oi := ?oid12_20) (v := ?vd12_20) ?hid12_20 (by kernel_rfl) (by kernel_rfl) (by kernel_rfl) ?hQd12_20 ?hyd12_20 (by assumption) ?hrd12_20
            case hid12_20 => (simp only [List.getElem?_toArray, List.getElem?_cons_succ, List.getElem?_cons_zero]; rfl)
            case hQd12_20 => exact fun _ _ _ h => h
            case hyd12_20 => (refine Or.inl ⟨by rfl, ?_⟩; intro w hSw; (try dsimp only at hSw); (go_simp <;> with_reducible rfl))
            (try simp only [Act.put, List.setIfInBounds_toArray, List.set_cons_zero, List.set_cons_succ])
            refine wpAnyH_take (i := 13) (oi := ?oid13_21) (v := ?vd13_21) ?hid13_21 (by kernel_rfl) (by kernel_rfl) (by kernel_rfl) ?hQd13_21 ?hyd13_21 (by assumption) ?hrd13_21
            case hid13_21 => (simp only [List.getElem?_toArray, List.getElem?_cons_succ, List.getElem?_cons_zero]; rfl)
            case hQd13_21 => exact fun _ _ _ h => h
            case hyd13_21 => (refine Or.inl ⟨by rfl, ?_⟩; intro w hSw; (try dsimp only at hSw); (go_simp <;> with_reducible rfl))
            (try simp only [Act.put, List.setIfInBounds_toArray, List.set_cons_zero, List.set_cons_succ])
            refine wpAnyH_done (by kernel_rfl) ?_ _
            go_wp2
            go_ret
            exact ⟨_, rfl, by rw [app_size]; omega, HS.out, G⟩
          case hnd7_18 =>
            exact AllReadyH.nil
        case hnd3_16 =>
          exact AllReadyH.nil
      case hnd5_15 =>
        exact AllReadyH.nil
  have f1 : (c == 1) = false := by simpa using c1
  clear c1
  by_cases c2 : c = 2
  · subst c2
    by_cases hk : K < t.size
    · have hkI : (K : Int) < (t.size : Int) := by omega
      have hkI2 : (K : Int) + 1 ≤ (t.size : Int) := by omega
      obtain ⟨A, hA⟩ : ∃ A, t.extract 0 K = A := ⟨_, rfl⟩
      obtain ⟨Z, hZ⟩ : ∃ Z, t.extract (K + 1) t.size = Z := ⟨_, rfl⟩
      have hAs : A.size ≤ K := by rw [← hA]; have := ext_size t 0 K; omega
      have hZs : Z.size ≤ t.size - (K + 1) := by rw [← hZ]; exact (ext_size t (K + 1) t.size).1
      have hs1 : ¬ 9223372036854775807 < A.size + Z.size := by omega
      have hkn : ((K : Int) + 1).toNat = K + 1 := by omega
      go_wp2_with fail
      go_quiet (fail)
      go_wp2
      go_ret
      exact ⟨_, rfl, by rw [app_size]; omega, HS.out.drewN _, gdn G _⟩
    · have hkI : ¬ (K : Int) < (t.size : Int) := by omega
      go_wp2
      go_ret
      exact ⟨_, rfl, by omega, HS.out, G⟩
  have f2 : (c == 2) = false := by simpa using c2
  clear c2
  go_wp2
  go_ret
  exact ⟨_, rfl, by omega, HS.out, G⟩

/-- A list of soundings and a square's size that are drawn. -/
def ThinDraw (w : World) (e : Ending) (w' : World) : Prop := ∃ (a : Option Addr) (q c : Nat) (ys : List I4) (z : Int), e = .returned (.tuple #[.slice a q c, .int .i64 z]) ∧ Row w' 4 a q (frs ys) ∧ q ≤ 201 ∧ Below w.heap.size w w'

set_option maxHeartbeats 6400000 in
theorem drawThin_any (a : Option Addr) (n c : Nat) (bs : List Nat) (w : World) (h : Code8 w a n bs) :
    Calls Tryz.prog 5 #[.slice a n c] w (ThinDraw w) := by
  go_enter Tryz.func5, Tryz.ntmps5
  go_wp2_with fail
  go_at_call 17
  refine (l01From_any _ _ _ _ _ h).mono ?_
  rintro e w1 ⟨p, rfl, hp, hs, B⟩
  have hp1 : w.heap.size ≤ p := by omega
  have hpw := hs.lt
  have HS := Lib.hid hs
  have G := World.grownBy.refl w1 (some p)
  clear hp hs
  go_wp2_with fail
  go_at_call 18
  refine (l21Draw_any _ _ HS.out).mono ?_
  intro e w2 hd
  obtain ⟨aL, qL, cL, ys, rfl, O_l, hqL, hs, hg⟩ := hd
  replace G := G.trans hg
  replace HS := Lib.hid hs
  clear hs hg
  have hpw2 : p < w2.heap.size := HS.out.lt
  go_wp2_with fail
  go_at_call 19
  refine (l01Next_any _ _ _ HS.out (by omega)).mono ?_
  rintro e w3 ⟨t, rfl, ⟨ht0, ht1, -⟩, hs, hg⟩
  replace O_l := (own_far O_l hpw hg).leave
  replace G := G.trans hg
  replace HS := Lib.hid hs
  clear ht1 hs hg
  by_cases t0 : t = 0
  · subst t0
    go_wp2_with fail
    go_at_call 20
    refine (l01Pick_any _ _ _ _ [0, 1, 10000, 10001] _ (HS.out.alloc _) (by exact Row.lit _ (ints [0, 1, 10000, 10001]) _ _ _ (by simp) (by rfl)) (by omega) (by omega) (fun b off e => by injection e with e; injection e with e _ _; have := HS.out.lt; omega)).mono ?_
    rintro e w4 ⟨u, rfl, hx, hs, hg⟩
    replace O_l := (own_far (O_l.alloc (.cells #[.int .i64 (0), .int .i64 (1), .int .i64 (10000), .int .i64 (10001)] 2)) hpw hg).leave
    replace G := (grown_alloc G (.cells #[.int .i64 (0), .int .i64 (1), .int .i64 (10000), .int .i64 (10001)] 2)).trans hg
    replace HS := Lib.hid hs
    clear hx hs hg
    go_wp2
    go_returns
    exact ⟨_, _, _, ys, _, rfl, O_l.row, by omega, below_next' B hp1 G⟩
  · have f0 : (t == 0) = false := by simpa using t0
    clear t0
    go_wp2_with fail
    go_at_call 19
    refine (l01Next_any _ _ _ HS.out (by omega)).mono ?_
    rintro e w4 ⟨u, rfl, ⟨hu0, hu1, -⟩, hs, hg⟩
    have hu9 := hu1 (by omega)
    replace O_l := (own_far O_l hpw hg).leave
    replace G := G.trans hg
    replace HS := Lib.hid hs
    clear hu1 hs hg
    go_wp2
    go_returns
    exact ⟨_, _, _, ys, _, rfl, O_l.row, by omega, below_next' B hp1 G⟩

def TextDraw (w : World) (e : Ending) (w' : World) : Prop := ∃ t : ByteArray, e = .returned (.string t) ∧ t.size ≤ 20000 ∧ Below w.heap.size w w'
theorem txtOf_len (ss : List I4) : (txtOf ss).length ≤ 17800 := by
  unfold txtOf
  split
  · rename_i h; exact sndsTxt_len h
  · simp

set_option maxHeartbeats 6400000 in
theorem drawText_any (a : Option Addr) (n c : Nat) (bs : List Nat) (w : World) (h : Code8 w a n bs) :
    Calls Tryz.prog 10 #[.slice a n c] w (TextDraw w) := by
  go_enter Tryz.func10, Tryz.ntmps10
  go_wp2_with fail
  go_at_call 17
  refine (l01From_any _ _ _ _ _ h).mono ?_
  rintro e w1 ⟨p, rfl, hp, hs, B⟩
  have hp1 : w.heap.size ≤ p := by omega
  have hpw := hs.lt
  have HS := Lib.hid hs
  have G := World.grownBy.refl w1 (some p)
  clear hp hs
  go_wp2_with fail
  go_at_call 18
  refine (l21Draw_any _ _ HS.out).mono ?_
  intro e w2 hd
  obtain ⟨aL, qL, cL, ys, rfl, O_l, hqL, hs, hg⟩ := hd
  replace G := G.trans hg
  replace HS := Lib.hid hs
  clear hs hg
  have rL := O_l.row
  clear O_l
  have htl := txtOf_len ys
  obtain ⟨T0, hT0⟩ : ∃ T0, str (txtOf ys) = T0 := ⟨_, rfl⟩
  have hTs : T0.size ≤ 17800 := by rw [← hT0, str_size]; exact htl
  go_wp2_with fail
  go_at_call 13
  refine (soundingsText_spec _ _ _ ys _ rL (by omega)).mono ?_
  rintro e w3 ⟨rfl, hb⟩
  rw [hT0]
  replace G := grown_below G (hb.mono G.size)
  replace HS := Lib.hid (HS.out.below hb HS.out.lt)
  clear hb rL hT0 htl
  go_wp2_with fail
  go_at_call 19
  refine (l01Next_any _ _ _ HS.out (by omega)).mono ?_
  rintro e w4 ⟨t, rfl, ⟨ht0, ht1, -⟩, hs, hg⟩
  replace G := G.trans hg
  replace HS := Lib.hid hs
  clear ht1 hs hg
  by_cases t0 : t = 0
  · subst t0
    go_wp2_with fail
    go_at_call 30
    refine (l01Damage_any _ T0 _ HS.out (by omega)).mono ?_
    intro e w5 hd
    obtain ⟨t', rfl, hts, hs, hg⟩ := hd
    replace G := G.trans hg
    replace HS := Lib.hid hs
    clear hs hg
    go_wp2
    go_ret
    exact ⟨t', rfl, by omega, below_next' B hp1 G⟩
  · have f0 : (t == 0) = false := by simpa using t0
    clear t0
    go_wp2
    go_ret
    exact ⟨T0, rfl, by omega, below_next' B hp1 G⟩

end Go.Proofs.YtaimckepaldocaaGreatDoor
