/- ThinSoundings as the program has it: the map. -/
import Derived.Test.YtaimckepaldocaaGreatDoorMapK
import Derived.Test.YtaimckepaldocaaGreatDoorReadT
import Derived.Deep.CutBlock
namespace Go.Proofs.YtaimckepaldocaaGreatDoor
open Go.RowKit Go.Maps
set_option maxRecDepth 100000
set_option linter.unusedVariables false
set_option linter.unusedSimpArgs false
set_option linter.unusedVariables false

theorem sq_i64 {ss : List I4} {z : Int} (hok : sndsOk ss = true) (hz : 1 ≤ z) {j : Nat} (hj : j < ss.length) : I64 (sq z (at4 ss j)).1 ∧ I64 (sq z (at4 ss j)).2 := by
  have hx : ss[j]? = some ss[j] := List.getElem?_eq_getElem hj
  have ho := sndsOk_get hok hx
  rw [at4_get hx]
  generalize ss[j] = t at *
  obtain ⟨x, y, d, e⟩ := t
  obtain ⟨h1, h2, -, -⟩ := sndOk_bd ho
  have a1 : 0 ≤ x / z := Int.ediv_nonneg h1.1 (by omega)
  have a2 : x / z ≤ x := Int.ediv_le_self _ h1.1
  have a3 : 0 ≤ y / z := Int.ediv_nonneg h2.1 (by omega)
  have a4 : y / z ≤ y := Int.ediv_le_self _ h2.1
  simp only [sq, I64]
  omega

theorem below_none {w w' : World} (hb : Below w.heap.size w w') : w.grownBy w' none := ⟨hb.os, hb.tape, hb.output, hb.size, fun k hk _ => hb.block k hk⟩
theorem set_two {KK : Act → World → Prop} {f : Act} {W wa : World} {b E : Nat} {v0 v1 u0 u1 : Value} (hK : Blk W b E #[v0, v1]) (hB : Below wa.heap.size wa W) (hb : wa.heap.size ≤ b) (h : ∀ W', Blk W' b E #[u0, u1] → Below wa.heap.size wa W' → W.heap.size ≤ W'.heap.size → KK f W') : KK f ((W.setCell ⟨b, 0, none⟩ u0).setCell ⟨b, 1, none⟩ u1) := by
  refine h _ ?_ ((hB.setCell (p := ⟨b, 0, none⟩) hb u0).setCell (p := ⟨b, 1, none⟩) hb u1) (by simp [World.setCell])
  have := (hK.set_ 0 u0).set_ 1 u1
  simpa using this

theorem sort_any (g cap lo hi : Nat) (zs : List Int) (w : World) (h : Own w lo hi 2 1 (some ⟨g, 0, none⟩) zs.length cap (ints zs)) (hb : g < w.heap.size) (hl : zs.length ≤ 1048576) :
    Calls Tryz.prog 23 #[.slice (some ⟨g, 0, none⟩) zs.length cap] w fun e w' => e = .returned (.tuple #[]) ∧ Row w' 1 (some ⟨g, 0, none⟩) zs.length (ints (zs.mergeSort fun x y => decide (x ≤ y))) ∧ w.grownBy w' (some g) := by
  have hH : Go.Sort.Holds (Value.int .i64) w g 0 zs.toArray := fun j hj => by
    have hj' : j < zs.length := by simpa using hj
    refine ⟨?_, h.frozenAt _⟩
    rw [Nat.zero_add, h.cellAt j (by omega)]
    simp [ints, hj']
  refine (slices_Sort_int g 0 cap zs w hH hb (by omega)).mono ?_
  rintro e w' ⟨rfl, n, os, rfl⟩
  have h2 := Go.Sort.holds_grow (Value.int .i64) _ os g 0 _ (by simpa [Go.Sort.putRow, Go.Sort.mapBlock, Go.Sort.ahead] using hb) (Go.Sort.holds_putRow (Value.int .i64) (Go.Sort.ahead w n) g 0 zs.toArray (zs.mergeSort fun x y => decide (x ≤ y)).toArray (Go.Sort.holds_ahead _ w n g 0 _ hH) (by simp))
  refine ⟨rfl, ⟨by simp [ints], fun _ => ⟨g, 0, rfl, fun j u hu => ?_⟩⟩, ⟨rfl, rfl, rfl, by simp [Go.Sort.putRow, Go.Sort.mapBlock, Go.Sort.ahead, Go.Sort.grow], fun k hk hne => ?_⟩⟩
  · have hj : j < (zs.mergeSort fun x y => decide (x ≤ y)).length := by
      have := (List.getElem?_eq_some_iff.1 hu).1
      simpa [ints] using this
    have h3 := (h2 j (by simpa using hj)).1
    rw [h3]
    simp only [ints, List.getElem?_map, List.getElem?_eq_getElem hj, Option.map_some, Option.some.injEq] at hu
    rw [← hu]
    simp [List.getElem?_eq_getElem hj]
  · rw [Go.Sort.heap_grow_old _ _ (by simpa [Go.Sort.putRow, Go.Sort.mapBlock, Go.Sort.ahead] using hk)]
    have : g ≠ k := fun e => hne (by rw [e])
    simp [Go.Sort.putRow, Go.Sort.mapBlock, Go.Sort.ahead, Array.getElem?_modify, this]

set_option maxHeartbeats 6400000 in
theorem thin_impl0 (a0 : Option Addr) (n c0 : Nat) (ss : List I4) (z : Int) (w : World) (h : Row w 4 a0 n (frs ss)) (hn : n ≤ 1048576) :
    Calls Tryz.prog 6 #[.slice a0 n c0, .int .i64 z] w fun e w' => ∃ a q cp, e = .returned (.tuple #[.slice a q cp, .int .i64 (thin ss z).2]) ∧ Row w' 1 a q (ints (thin ss z).1) ∧ Below w.heap.size w w' := by
  have H := Lib.hid h
  have hmm := @run_makeMap Tryz.prog
  have hfd := field_low
  clear h
  go_enter Tryz.func6, Tryz.ntmps6
  go_wp2_with fail
  go_at_call 15
  refine (areSoundings_impl _ _ _ _ _ H.out hn).mono ?_
  rintro e w1 ⟨rfl, hb⟩
  have B0 := Lib.hid hb
  have H1 := Lib.hid (H.out.below4 hb (Nat.le_refl _))
  clear hb H
  cases hok : sndsOk ss with
  | false =>
    have he := Lib.hid (show thin ss z = ([], 1) by rw [thin, hok]; rfl)
    clear hok
    go_wp2
    go_returns
    exact ⟨none, 0, 0, by rw [he.out]; rfl, by rw [he.out]; exact Row.nil_, B0.out⟩
  | true =>
    have HOK := Lib.hid hok
    have hn2 := sndsOk_len hok H1.out.len4
    go_wp2_with fail
    go_at_call 21
    refine (within_any _ _ _ _).mono ?_
    rintro e w2 ⟨rfl, rfl⟩
    cases hz : inR 1 10000 z with
    | false =>
      have he := Lib.hid (show thin ss z = ([], 2) by rw [thin, hok, hz]; rfl)
      clear hok hz
      go_wp2
      go_returns
      exact ⟨none, 0, 0, by rw [he.out]; rfl, by rw [he.out]; exact Row.nil_, B0.out⟩
    | true =>
      have he := Lib.hid (show thin ss z = (thinL ss z, 0) by rw [thin, hok, hz]; rfl)
      have hz1 : 1 ≤ z ∧ z ≤ 10000 := by simpa [inR] using hz
      have HIJ := Lib.hid (fun (j : Nat) (hj : j < ss.length) => sq_i64 hok hz1.1 hj)
      clear hok hz
      have hz0 : (z == 0) = false := by simp; omega
      have hzn : ¬ z = 0 := by omega
      have B1 := (Below.refl w1.heap.size w1).alloc (Nat.le_refl _) (.map #[] 0)
      have M0 := Lib.hid (World.ownsMap_made w1 Tryz.prog 47 (plainElem (H := Unit) Tryz.prog 2))
      go_wp2
      go_loopw [7, 8, 9, 10, 11, 26] (fun _ _ _ _ _ i wr => ∃ (k : Nat) (D : DataW Unit), i = .int .i64 k ∧ k ≤ n ∧ Hid (wr.ownsMap Tryz.prog 47 (plainElem Tryz.prog 2) w1.heap.size k D) ∧ Hid (MOk ss z k D) ∧ Below w1.heap.size w1 wr) (fun _ _ _ _ _ i _ => n - (intOf i).toNat)
      case atStart => exact ⟨0, _, rfl, by omega, M0, Lib.hid (MOk.start ss z), B1⟩
      case round =>
        clear M0 B1
        obtain ⟨i, D, rfl, hi, HM, HD, B⟩ := hrel
        have hzB := B.size
        by_cases hlt : i < n
        · have hiI : (i : Int) < (n : Int) := by omega
          obtain ⟨b, off, x, y, d, e, rfl, hg, hx⟩ := (H1.out.below4 B (Nat.le_refl _)).at4 hlt
          obtain ⟨g0, g1, g2, g3⟩ := hg
          obtain ⟨x0, y0, d0, e0⟩ := sndOk_bd (sndsOk_get HOK.out hx.out)
          have HX := Lib.hid hx.out
          have HI := Lib.hid (at4_get hx.out)
          clear hx
          have K := Lib.hid (Blk.new wr 38 #[.int .i64 x, .int .i64 y, .int .i64 d, .int .i64 e])
          have k0 := K.out.cell 0
          have k1 := K.out.cell 1
          have k2 := K.out.cell 2
          have k3 := K.out.cell 3
          obtain ⟨qx, hqx⟩ : ∃ qx, x / z = qx := ⟨_, rfl⟩
          obtain ⟨qy, hqy⟩ : ∃ qy, y / z = qy := ⟨_, rfl⟩
          have hqb : 0 ≤ qx ∧ qx ≤ 10000 ∧ 0 ≤ qy ∧ qy ≤ 10000 := by
            rw [← hqx, ← hqy]
            exact ⟨Int.ediv_nonneg (by omega) (by omega), Int.le_trans (Int.ediv_le_self _ (by omega)) (by omega), Int.ediv_nonneg (by omega) (by omega), Int.le_trans (Int.ediv_le_self _ (by omega)) (by omega)⟩
          have hw1 : IntKind.i64.wrap qx = qx := by rw [IntKind.wrap_i64]; omega
          have hw2 : IntKind.i64.wrap qy = qy := by rw [IntKind.wrap_i64]; omega
          have ht1 : x.tdiv z = qx := by rw [Int.tdiv_eq_ediv_of_nonneg (by omega)]; exact hqx
          have ht2 : y.tdiv z = qy := by rw [Int.tdiv_eq_ediv_of_nonneg (by omega)]; exact hqy
          have HSQ := Lib.hid (show sq z (at4 ss i) = (qx, qy) by rw [HI.out]; simp only [sq]; rw [hqx, hqy])
          go_wp2_with fail
          obtain ⟨wa, hwa⟩ : ∃ wa, wr.alloc (.cells #[.int .i64 x, .int .i64 y, .int .i64 d, .int .i64 e] 38) = wa := ⟨_, rfl⟩
          rw [hwa] at K k0 k1 k2 k3 ⊢
          have hza : wa.heap.size = wr.heap.size + 1 := by rw [← hwa]; simp
          have Ba := B.alloc B.size (.cells #[.int .i64 x, .int .i64 y, .int .i64 d, .int .i64 e] 38)
          rw [hwa] at Ba
          have HMa := Lib.hid (hwa ▸ HM.out.alloc (.cells #[.int .i64 x, .int .i64 y, .int .i64 d, .int .i64 e] 38))
          have B2 := Below.refl wa.heap.size wa
          obtain ⟨X8, hX8⟩ : ∃ X8, wr.heap.size = X8 := ⟨_, rfl⟩
          rw [hX8] at K k0 k1 k2 k3 hza ⊢
          have hX8a : X8 < wa.heap.size := by omega
          obtain ⟨X9, hX9⟩ : ∃ X9, wa.heap.size = X9 := ⟨_, rfl⟩
          clear hwa HM g0 g1 g2 g3 k2 k3 hza B
          replace B2 := B2.drew
          refine wp_region_held_drew (S := fun w' => w'.cell? ⟨X8, 0, none⟩ = some (.int .i64 x) ∧ w'.cell? ⟨X8, 1, none⟩ = some (.int .i64 y)) (by kernel_rfl) (⟨Below.cellSelf B2 k0, Below.cellSelf B2 k1⟩) (fun hHeld => ?_)
          refine wpAnyH_take (i := 0) (oi := ?oip0_1) (v := ?vp0_1) ?hip0_1 (by kernel_rfl) (by kernel_rfl) (by kernel_rfl) ?hQp0_1 ?hyp0_1 (by assumption) ?hrp0_1
          case hip0_1 => (simp only [List.getElem?_toArray, List.getElem?_cons_succ, List.getElem?_cons_zero]; rfl)
          case hQp0_1 => exact fun _ _ _ h => h
          case hyp0_1 => (refine Or.inl ⟨by rfl, ?_⟩; intro w hSw; (try dsimp only at hSw); (go_simp <;> with_reducible rfl))
          (try simp only [Act.put, List.setIfInBounds_toArray, List.set_cons_zero, List.set_cons_succ])
          refine wpAnyH_take (i := 1) (oi := ?oip1_2) (v := ?vp1_2) ?hip1_2 (by kernel_rfl) (by kernel_rfl) (by kernel_rfl) ?hQp1_2 ?hyp1_2 (by assumption) ?hrp1_2
          case hip1_2 => (simp only [List.getElem?_toArray, List.getElem?_cons_succ, List.getElem?_cons_zero]; rfl)
          case hQp1_2 => exact fun _ _ _ h => h
          case hyp1_2 => (refine Or.inl ⟨by rfl, ?_⟩; intro w hSw; (try dsimp only at hSw); (go_simp <;> with_reducible rfl))
          (try simp only [Act.put, List.setIfInBounds_toArray, List.set_cons_zero, List.set_cons_succ])
          refine wpAnyH_take (i := 2) (oi := ?oip2_3) (v := ?vp2_3) ?hip2_3 (by kernel_rfl) (by kernel_rfl) (by kernel_rfl) ?hQp2_3 ?hyp2_3 (by assumption) ?hrp2_3
          case hip2_3 => (simp only [List.getElem?_toArray, List.getElem?_cons_succ, List.getElem?_cons_zero]; rfl)
          case hQp2_3 => exact fun _ _ _ h => h
          case hyp2_3 => (refine Or.inl ⟨by rfl, ?_⟩; intro w hSw; (try dsimp only at hSw); (go_simp <;> with_reducible rfl))
          (try simp only [Act.put, List.setIfInBounds_toArray, List.set_cons_zero, List.set_cons_succ])
          refine wpAnyH_take (i := 3) (oi := ?oip3_4) (v := ?vp3_4) ?hip3_4 (by kernel_rfl) (by kernel_rfl) (by kernel_rfl) ?hQp3_4 ?hyp3_4 (by assumption) ?hrp3_4
          case hip3_4 => (simp only [List.getElem?_toArray, List.getElem?_cons_succ, List.getElem?_cons_zero]; rfl)
          case hQp3_4 => exact fun _ _ _ h => h
          case hyp3_4 => (refine Or.inl ⟨by rfl, ?_⟩; intro w hSw; (try dsimp only at hSw); (go_simp <;> with_reducible rfl))
          (try simp only [Act.put, List.setIfInBounds_toArray, List.set_cons_zero, List.set_cons_succ])
          refine wpAnyH_take (i := 4) (oi := ?oip4_5) (v := ?vp4_5) ?hip4_5 (by kernel_rfl) (by kernel_rfl) (by kernel_rfl) ?hQp4_5 ?hyp4_5 (by assumption) ?hrp4_5
          case hip4_5 => (simp only [List.getElem?_toArray, List.getElem?_cons_succ, List.getElem?_cons_zero]; rfl)
          case hQp4_5 => exact fun _ _ _ h => h
          case hyp4_5 => (refine Or.inl ⟨by rfl, ?_⟩; intro w hSw; (try dsimp only at hSw); (go_simp <;> with_reducible rfl))
          (try simp only [Act.put, List.setIfInBounds_toArray, List.set_cons_zero, List.set_cons_succ])
          refine wpAnyH_take (i := 5) (oi := ?oip5_6) (v := ?vp5_6) ?hip5_6 (by kernel_rfl) (by kernel_rfl) (by kernel_rfl) ?hQp5_6 ?hyp5_6 (by assumption) ?hrp5_6
          case hip5_6 => (simp only [List.getElem?_toArray, List.getElem?_cons_succ, List.getElem?_cons_zero]; rfl)
          case hQp5_6 => exact fun _ _ _ h => h
          case hyp5_6 => (refine Or.inl ⟨by rfl, ?_⟩; intro w hSw; (try dsimp only at hSw); (go_simp <;> with_reducible rfl))
          (try simp only [Act.put, List.setIfInBounds_toArray, List.set_cons_zero, List.set_cons_succ])
          refine wpAnyH_take (i := 6) (oi := ?oip6_7) (v := ?vp6_7) ?hip6_7 (by kernel_rfl) (by kernel_rfl) (by kernel_rfl) ?hQp6_7 ?hyp6_7 (by assumption) ?hrp6_7
          case hip6_7 => (simp only [List.getElem?_toArray, List.getElem?_cons_succ, List.getElem?_cons_zero]; rfl)
          case hQp6_7 => exact fun _ _ _ h => h
          case hyp6_7 => (refine Or.inl ⟨by rfl, ?_⟩; intro w hSw; (try dsimp only at hSw); (go_simp <;> with_reducible rfl))
          (try simp only [Act.put, List.setIfInBounds_toArray, List.set_cons_zero, List.set_cons_succ])
          refine wpAnyH_take (i := 7) (oi := ?oip7_8) (v := ?vp7_8) ?hip7_8 (by kernel_rfl) (by kernel_rfl) (by kernel_rfl) ?hQp7_8 ?hyp7_8 (by assumption) ?hrp7_8
          case hip7_8 => (simp only [List.getElem?_toArray, List.getElem?_cons_succ, List.getElem?_cons_zero]; rfl)
          case hQp7_8 => exact fun _ _ _ h => h
          case hyp7_8 => (refine Or.inl ⟨by rfl, ?_⟩; intro w hSw; (try dsimp only at hSw); (go_simp <;> with_reducible rfl))
          (try simp only [Act.put, List.setIfInBounds_toArray, List.set_cons_zero, List.set_cons_succ])
          refine wpAnyH_take (i := 8) (oi := ?oip8_9) (v := ?vp8_9) ?hip8_9 (by kernel_rfl) (by kernel_rfl) (by kernel_rfl) ?hQp8_9 ?hyp8_9 (by assumption) ?hrp8_9
          case hip8_9 => (simp only [List.getElem?_toArray, List.getElem?_cons_succ, List.getElem?_cons_zero]; rfl)
          case hQp8_9 => exact fun _ _ _ h => h
          case hyp8_9 => (refine Or.inl ⟨by rfl, ?_⟩; intro w hSw; (try dsimp only at hSw); (go_simp <;> with_reducible rfl))
          (try simp only [Act.put, List.setIfInBounds_toArray, List.set_cons_zero, List.set_cons_succ])
          refine wpAnyH_ready (rs := [9]) (by kernel_rfl) (by simp) ?_
          refine AllReadyH.cons (o := ?oip9_10) ?hip9_10 ?hap9_10 ?hnp9_10
          case hip9_10 => (simp only [List.getElem?_toArray, List.getElem?_cons_succ, List.getElem?_cons_zero]; rfl)
          case hap9_10 =>
            intro K hK
            go_simp
            (first | refine lit_v ?_ | refine lit_vd ?_)
            intro W7 hb7 hz7 KB
            replace KB : Blk W7 wa.heap.size 47 #[.int .i64 0, .int .i64 0] := KB
            rw [hX9] at KB
            replace B2 := B2.trans (hb7.mono B2.size)
            clear hb7
            refine hK.out _ _ (⟨Below.cellSelf B2 k0, Below.cellSelf B2 k1⟩) (fun hHeld => ?_)
            clear hK K
            (try simp only [Act.put, List.setIfInBounds_toArray, List.set_cons_zero, List.set_cons_succ])
            refine wpAnyH_ready (rs := [10]) (by kernel_rfl) (by simp) ?_
            refine AllReadyH.cons (o := ?oip10_11) ?hip10_11 ?hap10_11 ?hnp10_11
            case hip10_11 => (simp only [List.getElem?_toArray, List.getElem?_cons_succ, List.getElem?_cons_zero]; rfl)
            case hap10_11 =>
              intro K hK
              have c0 := KB.cell 0
              have c1 := KB.cell 1
              have fz0 := KB.frozen 0
              have fz1 := KB.frozen 1
              go_simp
              refine set_two KB B2 (Nat.le_of_eq hX9) ?_
              intro W9 KP B9 hz9
              clear KB B2 c0 c1 fz0 fz1
              have B2 := B9
              clear B9
              refine hK.out _ _ (⟨Below.cellSelf B2 k0, Below.cellSelf B2 k1⟩) (fun hHeld => ?_)
              clear hK K
              (try simp only [Act.put, List.setIfInBounds_toArray, List.set_cons_zero, List.set_cons_succ])
              refine wpAnyH_done (by kernel_rfl) ?_ _
              have HM9 := Lib.hid (HMa.out.kept (below_none B2) (by simp))
              have c0 := KP.cell 0
              have c1 := KP.cell 1
              have q0 := Below.cellSelf B2 k0
              have q1 := Below.cellSelf B2 k1
              have K9 := Lib.hid (K.out.belowSelf B2)
              have hkey := keyOf_pt (qx, qy) ⟨by show -9223372036854775808 ≤ qx; omega, by show qx ≤ 9223372036854775807; omega⟩ ⟨by show -9223372036854775808 ≤ qy; omega, by show qy ≤ 9223372036854775807; omega⟩
              have B5 := Ba.trans (B2.mono Ba.size)
              have HIJ2 := Lib.hid (show ∀ j, j ≤ i → I64 (sq z (at4 ss j)).1 ∧ I64 (sq z (at4 ss j)).2 from fun j hj => HIJ.out j (by rw [H1.out.len4]; omega))
              have hky : kyOf ss z i = keyL (qx, qy) := by simp only [kyOf, HSQ.out]
              have hwf : (Lit.int .i64 (i : Int)).wf = true := by
                simp only [Lit.wf, Bool.and_eq_true, decide_eq_true_eq]
                exact ⟨by show -9223372036854775808 ≤ (i : Int); omega, by show (i : Int) ≤ 9223372036854775807; omega⟩
              clear k0 k1 K HMa hw1 hw2 ht1 ht2 hqx hqy
              cases hh : Maps.has D (keyL (qx, qy)) with
              | false =>
                have HD2 := Lib.hid (hky ▸ HD.out.miss HIJ2.out (by rw [hky]; exact hh))
                go_wp2_with (at_lookup; refine wpList_lookup_own_ok_int _ rfl _ _ 45 rfl 47 2 .i64 lawPt Tryz.underlying45 Tryz.underlying2 (zeroI _) w1.heap.size i D rfl HM9.out _ _ rfl hkey ?_; intro c hat hwc)
                go_quiet (fail)
                have HM7 := Lib.hid (show (W9.drewN nq).ownsMap Tryz.prog 47 (plainElem (H := Unit) Tryz.prog 2) w1.heap.size i D from HM9.out)
                have B7 := bdnG B5 nq
                have p0 : (W9.drewN nq).cell? ⟨X9, 0, none⟩ = _ := c0
                have p1 : (W9.drewN nq).cell? ⟨X9, 1, none⟩ = _ := c1
                clear c0 c1 q0 q1
                go_wp2_with (at_mapUpdate; refine wpList_mapUpdate_own _ rfl _ _ _ 45 rfl 47 2 lawPt Tryz.underlying45 _ w1.heap.size i _ rfl HM7.out (by simp only [maxLen]; omega) _ _ _ rfl rfl hkey _ [] (plainElem_int Tryz.underlying2 hwf) ?_; intro w12 hown1 hgrow1)
                refine ⟨⟨i + 1, _, by go_num, by omega, Lib.hid hown1, HD2, B7.grown hgrow1 B7.size (fun r hr => by injection hr with hr; omega)⟩, by simp [intOf]; omega⟩
              | true =>
                go_wp2_with (at_lookup; refine wpList_lookup_own_ok_int _ rfl _ _ 45 rfl 47 2 .i64 lawPt Tryz.underlying45 Tryz.underlying2 (zeroI _) w1.heap.size i D rfl HM9.out _ _ rfl hkey ?_; intro c hat hwc)
                obtain ⟨b', rfl, hb', hs', hk'⟩ := HD.out.at HIJ2.out (by rw [hky]; exact hh) (by rw [hky]; exact hat)
                have hl4 := H1.out.len4
                obtain ⟨⟨x', y', d', e'⟩, hx'⟩ : ∃ t, ss[b']? = some t := ⟨_, List.getElem?_eq_getElem (by omega)⟩
                obtain ⟨x1, y1, d1, e1⟩ := sndOk_bd (sndsOk_get HOK.out hx')
                have HX' := Lib.hid hx'
                have HK := Lib.hid (show lowOf (at4 ss b') = d' - e' ∧ lowOf (at4 ss i) = d - e by rw [at4_get hx', HI.out]; exact ⟨rfl, rfl⟩)
                have hbI : (b' : Int) < (n : Int) := by omega
                have HB := Lib.hid (show b' < i ∧ sq z (at4 ss b') = sq z (at4 ss i) ∧ keepTo ss z b' i = true ∧ D.atKey (kyOf ss z i) (dI 0) = dI b' from ⟨hb', hs', hk', by rw [hky]; exact hat⟩)
                clear hx' hl4 hs' hk' hat hwc c0 c1 q0 q1
                have R9 := Lib.hid (H1.out.below4 B5 (Nat.le_refl _))
                have HP := Lib.hid KP
                clear KP
                replace B5 := B5.drew
                have M9 := Lib.hid (show W9.drew.ownsMap Tryz.prog 47 (plainElem (H := Unit) Tryz.prog 2) w1.heap.size i D from HM9.out)
                replace R9 := Lib.hid R9.out.drew
                replace HP := Lib.hid HP.out.drew
                replace K9 := Lib.hid K9.out.drew
                clear HM9
                go_region_held3 (fun w' => w'.cell? ⟨X8, 0, none⟩ = some (.int .i64 x) ∧ w'.cell? ⟨X8, 1, none⟩ = some (.int .i64 y) ∧ w'.cell? ⟨X8, 2, none⟩ = some (.int .i64 d) ∧ w'.cell? ⟨X8, 3, none⟩ = some (.int .i64 e) ∧ w'.cell? ⟨b, off + b' * 4, none⟩ = some (.int .i64 x') ∧ w'.cell? ⟨b, off + b' * 4 + 1, none⟩ = some (.int .i64 y') ∧ w'.cell? ⟨b, off + b' * 4 + 2, none⟩ = some (.int .i64 d') ∧ w'.cell? ⟨b, off + b' * 4 + 3, none⟩ = some (.int .i64 e')) (exact ⟨K9.out.cell 0, K9.out.cell 1, K9.out.cell 2, K9.out.cell 3, R9.out.get4_ HX'.out⟩) (first | (go_at_call 22; refine (bounds_any _ _ _ _ _ (by omega) (by omega)).mono ?_; rintro e9 w9 ⟨rfl, hb⟩; replace M9 := Lib.hid (M9.out.kept (below_none hb) (by simp)); replace B5 := B5.trans (hb.mono B5.size); replace R9 := Lib.hid (R9.out.below4 hb (Nat.le_refl _)); replace HP := Lib.hid (HP.out.belowSelf hb); replace K9 := Lib.hid (K9.out.belowSelf hb); clear hb))
                all_goals (
                  by_cases hlow : d - e < d' - e'
                  · have HD2 := Lib.hid (show MOk ss z (i + 1) (D.put (keyL (qx, qy)) (dI i)) from hky ▸ HD.out.better HIJ2.out HB.out.1 HB.out.2.1 HB.out.2.2.1 (by rw [HK.out.1, HK.out.2]; exact hlow))
                    have p0 := HP.out.cell 0
                    have p1 := HP.out.cell 1
                    go_wp2_with (at_mapUpdate; refine wpList_mapUpdate_own _ rfl _ _ _ 45 rfl 47 2 lawPt Tryz.underlying45 _ w1.heap.size i _ rfl M9.out (by simp only [maxLen]; omega) _ _ _ rfl rfl hkey _ [] (plainElem_int Tryz.underlying2 hwf) ?_; intro w12 hown1 hgrow1)
                    exact ⟨⟨i + 1, _, by go_num, by omega, Lib.hid hown1, HD2, B5.grown hgrow1 B5.size (fun r hr => by injection hr with hr; omega)⟩, by simp [intOf]; omega⟩
                  · have HD2 := Lib.hid (show MOk ss z (i + 1) D from HD.out.stay HIJ2.out HB.out.1 HB.out.2.1 HB.out.2.2.1 HB.out.2.2.2 (by rw [HK.out.1, HK.out.2]; exact hlow))
                    go_wp2
                    go_roundw
                    case rel => exact ⟨i + 1, D, by go_num, by omega, Lib.hid (M9.out.mono (by omega)), HD2, B5⟩
                    case measure => simp [intOf] <;> omega)
            case hnp10_11 =>
              exact AllReadyH.nil
          case hnp9_10 =>
            exact AllReadyH.nil
        · obtain rfl : i = n := by omega
          have hln := Lib.hid (show ss.length = i from H1.out.len4)
          have HDn := Lib.hid (show MOk ss z ss.length D from hln.out ▸ HD.out)
          have C0 := Lib.hid (Coll.start HDn.out)
          obtain ⟨r, hr⟩ : ∃ r, wr.heap.size = r := ⟨_, rfl⟩
          have hMr : w1.heap.size < wr.heap.size := HM.out.lt
          go_wp2_with (at_range; refine wpList_range_own _ rfl _ 45 rfl 47 2 lawPt Tryz.underlying45 _ w1.heap.size i D rfl HM.out ?_; intro w20 hrg0 hg0 hs0)
          go_frame
          rw [hr] at hrg0 hs0 ⊢
          have hMr2 : w1.heap.size < r := by omega
          have B20 := B.grown hg0 B.size (fun k hk => by cases hk)
          have O0 := Lib.hid (Own.nil_ w20 (r + 1) w20.heap.size 2 1)
          have HRG0 := Lib.hid hrg0
          have hz20 : r + 1 ≤ w20.heap.size := by omega
          clear hg0 hrg0 hs0 HM B hr
          go_loopw [12, 14] (fun o _ ws => ∃ (left : Lit → Bool) (cnt cp : Nat) (a : Option Addr) (vs : List Int), o = .slice a vs.length cp ∧ Hid (ws.ranges Tryz.prog 47 (plainElem (H := Unit) Tryz.prog 2) w1.heap.size r i D left cnt) ∧ Hid (Coll ss z left vs) ∧ Hid (Own ws (r + 1) ws.heap.size 2 1 a vs.length cp (ints vs)) ∧ r + 1 ≤ ws.heap.size ∧ Below w1.heap.size w1 ws) (fun _ _ ws => ws.rangeLeft w1.heap.size r)
          case atStart => exact ⟨_, _, 0, none, [], rfl, HRG0, C0, O0, hz20, B20⟩
          case round =>
            obtain ⟨left, cnt, cp, a, vs, rfl, HR, HC, HO, hzr, B⟩ := hrel
            have hlen := HC.out.len
            rw [hln.out] at hlen
            go_wp2_with (at_next; refine wpList_next_ranges _ rfl _ rfl 47 lawPt (plainElem (H := Unit) Tryz.prog 2) (fun v : Value => v) (Value.int .i64) (fun key kl _ => ⟨key, rfl⟩) (fun v y hv => by obtain ⟨c, rfl, _⟩ := plainElem_int_inv Tryz.underlying2 hv; exact ⟨c, rfl⟩) w1.heap.size r i D left cnt rfl HR.out ?_ ?_)
            · intro hc0 hl0
              have hdone := Lib.hid (HC.out.done hl0)
              have hE := Lib.hid (show (thin ss z).1 = thinL ss z by rw [he.out])
              have hE2 := Lib.hid (show (thin ss z).2 = 0 by rw [he.out])
              clear HR hl0
              rcases Nat.eq_zero_or_pos vs.length with h0 | h0
              · obtain rfl : vs = [] := List.eq_nil_of_length_eq_zero h0
                go_wp2_with fail
                go_at_call 23
                refine (slices_Sort_int_none _ _ _).mono ?_
                rintro e w30 ⟨rfl, rfl⟩
                go_wp2
                go_returns
                exact ⟨a, 0, cp, by rw [hE2.out]; rfl, by rw [hE.out, ← hdone.out, show (([] : List Int).mergeSort fun x y => decide (x ≤ y)) = [] by simp]; exact Row.nil_, B0.out.trans (B.mono B0.out.size)⟩
              · obtain ⟨g, rfl, hg0, -, hgs⟩ := HO.out.head h0
                have hOO := HO.out
                go_wp2_with fail
                go_at_call 23
                refine (sort_any g _ _ _ vs _ hOO hgs (by omega)).mono ?_
                rintro e w30 ⟨rfl, hrow, hgr⟩
                have HRW := Lib.hid hrow
                replace B := B.grown hgr B.size (fun k hk => by injection hk with hk; omega)
                clear hrow hgr hOO HO
                go_wp2
                go_returns
                exact ⟨some ⟨g, 0, none⟩, vs.length, cp, by rw [hE2.out]; rfl, by rw [hE.out, ← hdone.out]; exact HRW.out, B0.out.trans (B.mono B0.out.size)⟩
            · intro x c kl yd yp w22 cnt2 hkey hlk hv hat hrg2 hlt2 hg2 hs2 hen
              obtain ⟨c', ec, hy, hwc⟩ := plainElem_int_inv Tryz.underlying2 hv
              injection ec with _ ec
              subst ec
              obtain rfl : yd = dI c := congrArg Prod.fst hy
              obtain ⟨hC2, hc0, hc1⟩ := HC.out.step HDn.out HIJ.out hlk hat
              have HC2 := Lib.hid hC2
              have HR2 := Lib.hid hrg2
              have HO2 := Lib.hid ((HO.out.apart hg2 (fun g hg => by injection hg with hg; omega)).leave)
              have B22 := B.grown hg2 B.size (fun k hk => by injection hk with hk; omega)
              have hz22 : r + 1 ≤ w22.heap.size := by omega
              have HL0 := Lib.hid (show cnt2 < wr.rangeLeft w1.heap.size r by rw [HR.out.left_eq]; exact hlt2)
              clear hC2 hrg2 hg2 hs2 hv hy hat hkey hlk HC HO HR B
              clear hlt2
              go_wp2_with (at_builtin; refine wpList_app _ rfl (.tmp 70) (.tmp 72) _ rfl Tryz.underlying27 info_i64 rfl (by decide) rfl (HO2.out.alloc _) rfl (Row.one _ _ _) (ints_one [c]) (by decide) (by simp only [maxLen]; omega) (by omega) (by simp; omega) ?_; intro A2 c2 w9 hown9 hb9 hg9)
              have O9 := Lib.hid (show Own w9 (r + 1) w9.heap.size 2 1 A2 (vs ++ [c]).length c2 (ints (vs ++ [c])) by rw [ints_app, List.length_append]; exact hown9)
              have B9 := (B22.alloc B22.size (.cells #[.int .i64 c] 2)).trans (hb9.mono (by omega))
              have HR9 := Lib.hid ((HR2.out.alloc (.cells #[.int .i64 c] 2)).kept hg9 (fun e => by have := (HO2.out.1.lt _ e.symm).1; omega) (fun e => by have := (HO2.out.1.lt _ e.symm).1; omega))
              have hz9 := hb9.size
              refine ⟨⟨_, cnt2, c2, A2, vs ++ [c], by simp, HR9, HC2, O9, by simp at hz9; omega, B9⟩, ?_⟩
              rw [HR9.out.left_eq]
              exact HL0.out
end Go.Proofs.YtaimckepaldocaaGreatDoor
