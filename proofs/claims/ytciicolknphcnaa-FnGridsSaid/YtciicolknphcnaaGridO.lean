/- l22Own: a copy of a grid. -/
import Derived.Test.YtciicolknphcnaaGridT
import Derived.Test.YtciicolknphcnaaTwoR
namespace Go.Proofs.Ytciicolknphcnaa
open Go.RowKit
set_option maxRecDepth 100000
set_option linter.unusedVariables false
set_option linter.unusedSimpArgs false
set_option linter.unusedVariables false

theorem below_five1 {w w' : World} {b : Nat} (h : Below b w w') (u0 u1 u2 u3 u4 : Value) : Below b w (((((w'.setCell ⟨b + 1, 0, none⟩ u0).setCell ⟨b + 1, 1, none⟩ u1).setCell ⟨b + 1, 2, none⟩ u2).setCell ⟨b + 1, 3, none⟩ u3).setCell ⟨b + 1, 4, none⟩ u4) :=
  ((((h.setCell (Nat.le_succ _) _).setCell (Nat.le_succ _) _).setCell (Nat.le_succ _) _).setCell (Nat.le_succ _) _).setCell (Nat.le_succ _) _
theorem far_five {w : World} {g t b : Nat} {cs : Array Value} (h : Blk w g t cs) (hb : g ≠ b) (u0 u1 u2 u3 u4 : Value) : Blk (((((w.setCell ⟨b, 0, none⟩ u0).setCell ⟨b, 1, none⟩ u1).setCell ⟨b, 2, none⟩ u2).setCell ⟨b, 3, none⟩ u3).setCell ⟨b, 4, none⟩ u4) g t cs :=
  ((((h.far (p := ⟨b, 0, none⟩) hb _).far (p := ⟨b, 1, none⟩) hb _).far (p := ⟨b, 2, none⟩) hb _).far (p := ⟨b, 3, none⟩) hb _).far (p := ⟨b, 4, none⟩) hb _

set_option maxHeartbeats 3200000 in
theorem l22Own_any (s x y : Int) (a b : Option Addr) (n c d : Nat) (cs : List Int) (ds : List (Int × Int)) (w : World) (h : Row w 1 a n (ints cs)) (hd : Row w 2 b n (prs ds)) (hn : n ≤ 900) (h0 : 0 < n) :
    Calls Try.prog 69 #[.agg #[.int .i64 s, .int .i64 x, .int .i64 y, .slice a n c, .slice b n d]] w fun e w' => ∃ p q c' d' : Nat, e = .returned (.agg #[.int .i64 s, .int .i64 x, .int .i64 y, .slice (some ⟨p, 0, none⟩) n c', .slice (some ⟨q, 0, none⟩) n d']) ∧ Sol w' 2 1 p n c' (ints cs) ∧ Sol w' 49 2 q n d' (prs ds) ∧ p ≠ q ∧ w.heap.size ≤ p ∧ w.heap.size ≤ q ∧ Below w.heap.size w w' := by
  obtain ⟨H, hH⟩ : ∃ H, w.heap.size = H := ⟨_, rfl⟩
  obtain ⟨wa, hwa⟩ : ∃ wa, (w.alloc (.cells #[.int .i64 s, .int .i64 x, .int .i64 y, .slice a n c, .slice b n d] 27)).alloc (.cells #[.int .i64 0, .int .i64 0, .int .i64 0, .slice none 0 0, .slice none 0 0] 27) = wa := ⟨_, rfl⟩
  have K1 := Lib.hid (show Blk wa H 27 #[.int .i64 s, .int .i64 x, .int .i64 y, .slice a n c, .slice b n d] from hwa ▸ (Blk.new' w _ _ hH.symm).alloc _)
  have K2 := Lib.hid (show Blk wa (H + 1) 27 #[.int .i64 0, .int .i64 0, .int .i64 0, .slice none 0 0, .slice none 0 0] from hwa ▸ Blk.new' _ _ _ (by simp [hH]))
  have B := Lib.hid (show Below H w wa from by subst hwa; subst hH; exact ((Below.refl _ _).alloc (Nat.le_refl _) _).alloc (by simp) _)
  have hz : wa.heap.size = H + 2 := by subst hwa; simp [hH]
  have R1 := Lib.hid (show Row wa 1 a n (ints cs) from hwa ▸ (h.alloc _).alloc _)
  have R2 := Lib.hid (show Row wa 2 b n (prs ds) from hwa ▸ (hd.alloc2 _).alloc2 _)
  clear h hd
  go_enter Try.func69, Try.ntmps69
  go_wp2_with fail
  refine wp_region_held_drew (S := fun w' => w'.cell? ⟨H, 0, none⟩ = some (.int .i64 s) ∧ w'.cell? ⟨H, 1, none⟩ = some (.int .i64 x) ∧ w'.cell? ⟨H, 2, none⟩ = some (.int .i64 y) ∧ w'.cell? ⟨H, 3, none⟩ = some (.slice a n c) ∧ w'.cell? ⟨H, 4, none⟩ = some (.slice b n d)) (by kernel_rfl) (⟨K1.out.cell 0, K1.out.cell 1, K1.out.cell 2, K1.out.cell 3, K1.out.cell 4⟩) (fun hHeld => ?_)
  refine wpAnyH_take (i := 0) (oi := ?oio0_1) (v := ?vo0_1) ?hio0_1 (by kernel_rfl) (by kernel_rfl) (by kernel_rfl) ?hQo0_1 ?hyo0_1 (by assumption) ?hro0_1
  case hio0_1 => (simp only [List.getElem?_toArray, List.getElem?_cons_succ, List.getElem?_cons_zero]; rfl)
  case hQo0_1 => exact fun _ _ _ h => h
  case hyo0_1 => (refine Or.inl ⟨by rfl, ?_⟩; intro w hSw; (try dsimp only at hSw); (go_simp <;> with_reducible rfl))
  (try simp only [Act.put, List.setIfInBounds_toArray, List.set_cons_zero, List.set_cons_succ])
  refine wpAnyH_take (i := 1) (oi := ?oio1_2) (v := ?vo1_2) ?hio1_2 (by kernel_rfl) (by kernel_rfl) (by kernel_rfl) ?hQo1_2 ?hyo1_2 (by assumption) ?hro1_2
  case hio1_2 => (simp only [List.getElem?_toArray, List.getElem?_cons_succ, List.getElem?_cons_zero]; rfl)
  case hQo1_2 => exact fun _ _ _ h => h
  case hyo1_2 => (refine Or.inl ⟨by rfl, ?_⟩; intro w hSw; (try dsimp only at hSw); (go_simp <;> with_reducible rfl))
  (try simp only [Act.put, List.setIfInBounds_toArray, List.set_cons_zero, List.set_cons_succ])
  refine wpAnyH_take (i := 2) (oi := ?oio2_3) (v := ?vo2_3) ?hio2_3 (by kernel_rfl) (by kernel_rfl) (by kernel_rfl) ?hQo2_3 ?hyo2_3 (by assumption) ?hro2_3
  case hio2_3 => (simp only [List.getElem?_toArray, List.getElem?_cons_succ, List.getElem?_cons_zero]; rfl)
  case hQo2_3 => exact fun _ _ _ h => h
  case hyo2_3 => (refine Or.inl ⟨by rfl, ?_⟩; intro w hSw; (try dsimp only at hSw); (go_simp <;> with_reducible rfl))
  (try simp only [Act.put, List.setIfInBounds_toArray, List.set_cons_zero, List.set_cons_succ])
  refine wpAnyH_take (i := 3) (oi := ?oio3_4) (v := ?vo3_4) ?hio3_4 (by kernel_rfl) (by kernel_rfl) (by kernel_rfl) ?hQo3_4 ?hyo3_4 (by assumption) ?hro3_4
  case hio3_4 => (simp only [List.getElem?_toArray, List.getElem?_cons_succ, List.getElem?_cons_zero]; rfl)
  case hQo3_4 => exact fun _ _ _ h => h
  case hyo3_4 => (refine Or.inl ⟨by rfl, ?_⟩; intro w hSw; (try dsimp only at hSw); (go_simp <;> with_reducible rfl))
  (try simp only [Act.put, List.setIfInBounds_toArray, List.set_cons_zero, List.set_cons_succ])
  refine wpAnyH_take (i := 4) (oi := ?oio4_5) (v := ?vo4_5) ?hio4_5 (by kernel_rfl) (by kernel_rfl) (by kernel_rfl) ?hQo4_5 ?hyo4_5 (by assumption) ?hro4_5
  case hio4_5 => (simp only [List.getElem?_toArray, List.getElem?_cons_succ, List.getElem?_cons_zero]; rfl)
  case hQo4_5 => exact fun _ _ _ h => h
  case hyo4_5 => (refine Or.inl ⟨by rfl, ?_⟩; intro w hSw; (try dsimp only at hSw); (go_simp <;> with_reducible rfl))
  (try simp only [Act.put, List.setIfInBounds_toArray, List.set_cons_zero, List.set_cons_succ])
  refine wpAnyH_take (i := 5) (oi := ?oio5_6) (v := ?vo5_6) ?hio5_6 (by kernel_rfl) (by kernel_rfl) (by kernel_rfl) ?hQo5_6 ?hyo5_6 (by assumption) ?hro5_6
  case hio5_6 => (simp only [List.getElem?_toArray, List.getElem?_cons_succ, List.getElem?_cons_zero]; rfl)
  case hQo5_6 => exact fun _ _ _ h => h
  case hyo5_6 => (refine Or.inl ⟨by rfl, ?_⟩; intro w hSw; (try dsimp only at hSw); (go_simp <;> with_reducible rfl))
  (try simp only [Act.put, List.setIfInBounds_toArray, List.set_cons_zero, List.set_cons_succ])
  refine wpAnyH_take (i := 6) (oi := ?oio6_7) (v := ?vo6_7) ?hio6_7 (by kernel_rfl) (by kernel_rfl) (by kernel_rfl) ?hQo6_7 ?hyo6_7 (by assumption) ?hro6_7
  case hio6_7 => (simp only [List.getElem?_toArray, List.getElem?_cons_succ, List.getElem?_cons_zero]; rfl)
  case hQo6_7 => exact fun _ _ _ h => h
  case hyo6_7 => (refine Or.inl ⟨by rfl, ?_⟩; intro w hSw; (try dsimp only at hSw); (go_simp <;> with_reducible rfl))
  (try simp only [Act.put, List.setIfInBounds_toArray, List.set_cons_zero, List.set_cons_succ])
  refine wpAnyH_take (i := 7) (oi := ?oio7_8) (v := ?vo7_8) ?hio7_8 (by kernel_rfl) (by kernel_rfl) (by kernel_rfl) ?hQo7_8 ?hyo7_8 (by assumption) ?hro7_8
  case hio7_8 => (simp only [List.getElem?_toArray, List.getElem?_cons_succ, List.getElem?_cons_zero]; rfl)
  case hQo7_8 => exact fun _ _ _ h => h
  case hyo7_8 => (refine Or.inl ⟨by rfl, ?_⟩; intro w hSw; (try dsimp only at hSw); (go_simp <;> with_reducible rfl))
  (try simp only [Act.put, List.setIfInBounds_toArray, List.set_cons_zero, List.set_cons_succ])
  refine wpAnyH_take (i := 10) (oi := ?oio10_9) (v := ?vo10_9) ?hio10_9 (by kernel_rfl) (by kernel_rfl) (by kernel_rfl) ?hQo10_9 ?hyo10_9 (by assumption) ?hro10_9
  case hio10_9 => (simp only [List.getElem?_toArray, List.getElem?_cons_succ, List.getElem?_cons_zero]; rfl)
  case hQo10_9 => exact fun _ _ _ h => h
  case hyo10_9 => (refine Or.inl ⟨by rfl, ?_⟩; intro w hSw; (try dsimp only at hSw); (go_simp <;> with_reducible rfl))
  (try simp only [Act.put, List.setIfInBounds_toArray, List.set_cons_zero, List.set_cons_succ])
  refine wpAnyH_take (i := 11) (oi := ?oio11_10) (v := ?vo11_10) ?hio11_10 (by kernel_rfl) (by kernel_rfl) (by kernel_rfl) ?hQo11_10 ?hyo11_10 (by assumption) ?hro11_10
  case hio11_10 => (simp only [List.getElem?_toArray, List.getElem?_cons_succ, List.getElem?_cons_zero]; rfl)
  case hQo11_10 => exact fun _ _ _ h => h
  case hyo11_10 => (refine Or.inl ⟨by rfl, ?_⟩; intro w hSw; (try dsimp only at hSw); (go_simp <;> with_reducible rfl))
  (try simp only [Act.put, List.setIfInBounds_toArray, List.set_cons_zero, List.set_cons_succ])
  refine wpAnyH_ready (rs := [8, 9]) (by kernel_rfl) (by simp) ?_
  refine AllReadyH.cons (o := ?oio8_11) ?hio8_11 ?hao8_11 ?hno8_11
  case hio8_11 => (simp only [List.getElem?_toArray, List.getElem?_cons_succ, List.getElem?_cons_zero]; rfl)
  case hao8_11 =>
    intro K hK
    go_simp
    go_at_call 72
    refine (l01Own_any _ _ _ _ _ (by first | exact R1.out | exact R1.out.drew) (by omega)).mono ?_
    rintro e wc ⟨a', c', rfl, Oc, hb⟩
    obtain ⟨p, rfl, hp0, hp1, hp2⟩ := Oc.head h0
    replace K1 := Lib.hid (show Blk wc H 27 _ from by first | exact K1.out.belowSelf hb | exact K1.out.drew.belowSelf hb)
    replace K2 := Lib.hid (show Blk wc (H + 1) 27 _ from by first | exact K2.out.belowSelf hb | exact K2.out.drew.belowSelf hb)
    replace R2 := Lib.hid (show Row wc 2 b n _ from by first | exact R2.out.below2 hb (Nat.le_refl _) | exact R2.out.drew.below2 hb (Nat.le_refl _))
    replace B := Lib.hid (show Below H w wc from by first | exact B.out.trans (hb.mono (by have := B.out.size; omega)) | exact B.out.drew.trans (hb.mono (by have := B.out.drew.size; omega)))
    have hz0 := hb.size
    have hpH : H + 2 ≤ p := by first | omega | (simp at hp0; omega)
    have OC := Own.sol Oc
    try (have hgp : gl ≠ p := by have := OL.lt; first | omega | (simp at hp0; omega))
    try (replace OL : Sol wc 49 2 gl 0 0 (prs []) := OL.below hb (.inr (Nat.le_refl _)))
    have hcz : H + 2 ≤ wc.heap.size := by first | omega | (simp at hz0; omega)
    clear Oc hb R1 hz0 hp0 hp1 hp2
    refine hK.out _ _ (⟨K1.out.cell 0, K1.out.cell 1, K1.out.cell 2, K1.out.cell 3, K1.out.cell 4⟩) (fun hHeld => ?_)
    clear hK K
    (try simp only [Act.put, List.setIfInBounds_toArray, List.set_cons_zero, List.set_cons_succ])
    refine wpAnyH_ready (rs := [9]) (by kernel_rfl) (by simp) ?_
    refine AllReadyH.cons (o := ?oio9_12) ?hio9_12 ?hao9_12 ?hno9_12
    case hio9_12 => (simp only [List.getElem?_toArray, List.getElem?_cons_succ, List.getElem?_cons_zero]; rfl)
    case hao9_12 =>
      intro K hK
      go_simp
      first
      | (obtain ⟨gl, hgl⟩ : ∃ gl, wc.heap.size = gl := ⟨_, rfl⟩
         obtain ⟨wl, hwl⟩ : ∃ wl, wc.alloc (.cells #[] 49) = wl := ⟨_, rfl⟩
         have hglH : H + 2 ≤ gl := by omega
         have OL : Sol wl 49 2 gl 0 0 (prs []) := by
           rw [← hwl, ← hgl]
           exact Own.sol (Own.lit0 wc 49 2)
         replace K1 := Lib.hid (show Blk wl H 27 _ from by rw [← hwl]; exact K1.out.alloc _)
         replace K2 := Lib.hid (show Blk wl (H + 1) 27 _ from by rw [← hwl]; exact K2.out.alloc _)
         replace R2 := Lib.hid (show Row wl 2 b n _ from by rw [← hwl]; exact R2.out.alloc2 _)
         replace B := Lib.hid (show Below H w wl from by rw [← hwl]; exact B.out.alloc (by have := B.out.size; have := B.out.size; omega) _)
         have hgp : gl ≠ p := by have := OC.lt; omega
         replace OC : Sol wl 2 1 p n c' (ints cs) := by rw [← hwl]; exact OC.alloc _
         have hlz : H + 2 ≤ wl.heap.size := by rw [← hwl]; simp; omega
         simp only [hgl, hwl]
         clear hwl hgl)
      | (obtain ⟨gl, hgl⟩ : ∃ gl, H + 2 = gl := ⟨_, rfl⟩
         obtain ⟨wl, hwl⟩ : ∃ wl, (wa.alloc (.cells #[] 49)).drew = wl := ⟨_, rfl⟩
         have hglH : H + 2 ≤ gl := by omega
         have OL : Sol wl 49 2 gl 0 0 (prs []) := by
           rw [← hwl, ← hgl, ← hz]
           exact (Own.sol (Own.lit0 wa 49 2)).drew
         replace K1 := Lib.hid (show Blk wl H 27 _ from by rw [← hwl]; exact (K1.out.alloc _).drew)
         replace K2 := Lib.hid (show Blk wl (H + 1) 27 _ from by rw [← hwl]; exact (K2.out.alloc _).drew)
         replace R2 := Lib.hid (show Row wl 2 b n _ from by rw [← hwl]; exact (R2.out.alloc2 _).drew)
         replace B := Lib.hid (show Below H w wl from by rw [← hwl]; exact (B.out.alloc (by have := B.out.size; omega) _).drew)
         replace R1 := Lib.hid (show Row wl 1 a n _ from by rw [← hwl]; exact (R1.out.alloc _).drew)
         have hlz : H + 2 ≤ wl.heap.size := by
           rw [← hwl]
           show H + 2 ≤ (wa.alloc _).heap.size
           simp; omega
         simp only [hgl, hwl]
         clear hwl hgl)
      refine hK.out _ _ (⟨K1.out.cell 0, K1.out.cell 1, K1.out.cell 2, K1.out.cell 3, K1.out.cell 4⟩) (fun hHeld => ?_)
      clear hK K
      (try simp only [Act.put, List.setIfInBounds_toArray, List.set_cons_zero, List.set_cons_succ])
      refine wpAnyH_ready (rs := [12]) (by kernel_rfl) (by simp) ?_
      refine AllReadyH.cons (o := ?oio12_13) ?hio12_13 ?hao12_13 ?hno12_13
      case hio12_13 => (simp only [List.getElem?_toArray, List.getElem?_cons_succ, List.getElem?_cons_zero]; rfl)
      case hao12_13 =>
        intro K hK
        refine step_sol rfl (.tmp 12) (.tmp 14) _ rfl Try.underlying25 info_Interval rfl (by decide) (by rfl) OL (by rfl) R2.out (prs_one _) h0 (by simp only [maxLen]; omega) (by omega) ?_
        intro g2 c2 wd OD hg hor
        have hgp2 : g2 ≠ p := by rcases hor with h | h; omega; (have := OC.lt; omega)
        rw [Nat.zero_add] at OD
        replace OD : Sol wd 49 2 g2 n c2 (prs ds) := OD
        have hg2H : H + 2 ≤ g2 := by rcases hor with h | h; omega; (have := wc.heap.size; omega)
        replace OC := OC.apart hg (fun e => hgp e.symm)
        replace K1 := Lib.hid (K1.out.grown hg (fun e => by injection e with e; omega))
        replace K2 := Lib.hid (K2.out.grown hg (fun e => by injection e with e; omega))
        replace B := Lib.hid (B.out.grown hg (by have := B.out.size; omega) (fun g e => by injection e with e; omega))
        rw [Nat.zero_add]
        have f0 := K2.out.frozen 0
        have f1 := K2.out.frozen 1
        have f2 := K2.out.frozen 2
        have f3 := K2.out.frozen 3
        have f4 := K2.out.frozen 4
        have u0 : wd.cell? ⟨H + 1, 0, none⟩ = some (.int .i64 0) := K2.out.cell 0
        have u1 : wd.cell? ⟨H + 1, 1, none⟩ = some (.int .i64 0) := K2.out.cell 1
        have u2 : wd.cell? ⟨H + 1, 2, none⟩ = some (.int .i64 0) := K2.out.cell 2
        have u3 : wd.cell? ⟨H + 1, 3, none⟩ = some (.slice none 0 0) := K2.out.cell 3
        have u4 : wd.cell? ⟨H + 1, 4, none⟩ = some (.slice none 0 0) := K2.out.cell 4
        clear hg hor OL R2
        refine hK.out _ _ (⟨K1.out.cell 0, K1.out.cell 1, K1.out.cell 2, K1.out.cell 3, K1.out.cell 4⟩) (fun hHeld => ?_)
        clear hK K
        (try simp only [Act.put, List.setIfInBounds_toArray, List.set_cons_zero, List.set_cons_succ])
        refine wpAnyH_take (i := 13) (oi := ?oio13_14) (v := ?vo13_14) ?hio13_14 (by kernel_rfl) (by kernel_rfl) (by kernel_rfl) ?hQo13_14 ?hyo13_14 (by assumption) ?hro13_14
        case hio13_14 => (simp only [List.getElem?_toArray, List.getElem?_cons_succ, List.getElem?_cons_zero]; rfl)
        case hQo13_14 => exact fun _ _ _ h => h
        case hyo13_14 => (refine Or.inl ⟨by rfl, ?_⟩; intro w hSw; (try dsimp only at hSw); (go_simp <;> with_reducible rfl))
        (try simp only [Act.put, List.setIfInBounds_toArray, List.set_cons_zero, List.set_cons_succ])
        refine wpAnyH_ready (rs := [14]) (by kernel_rfl) (by simp) ?_
        refine AllReadyH.cons (o := ?oio14_15) ?hio14_15 ?hao14_15 ?hno14_15
        case hio14_15 => (simp only [List.getElem?_toArray, List.getElem?_cons_succ, List.getElem?_cons_zero]; rfl)
        case hao14_15 =>
          intro K hK
          go_simp
          have K6 := Lib.hid (K2.out.five (.int .i64 s) (.int .i64 x) (.int .i64 y) (.slice (some ⟨p, 0, none⟩) n c') (.slice (some ⟨g2, 0, none⟩) n c2))
          have OC6 := own_five (b := H + 1) OC (.inl (by omega)) (.int .i64 s) (.int .i64 x) (.int .i64 y) (.slice (some ⟨p, 0, none⟩) n c') (.slice (some ⟨g2, 0, none⟩) n c2)
          have OD6 := own_five (b := H + 1) OD (.inl (by omega)) (.int .i64 s) (.int .i64 x) (.int .i64 y) (.slice (some ⟨p, 0, none⟩) n c') (.slice (some ⟨g2, 0, none⟩) n c2)
          have B6 := below_five1 B.out (.int .i64 s) (.int .i64 x) (.int .i64 y) (.slice (some ⟨p, 0, none⟩) n c') (.slice (some ⟨g2, 0, none⟩) n c2)
          have K1s := Lib.hid (far_five K1.out (b := H + 1) (by omega) (.int .i64 s) (.int .i64 x) (.int .i64 y) (.slice (some ⟨p, 0, none⟩) n c') (.slice (some ⟨g2, 0, none⟩) n c2))
          obtain ⟨w6, hw6⟩ : ∃ w6, ((((wd.setCell ⟨H + 1, 0, none⟩ (.int .i64 s)).setCell ⟨H + 1, 1, none⟩ (.int .i64 x)).setCell ⟨H + 1, 2, none⟩ (.int .i64 y)).setCell ⟨H + 1, 3, none⟩ (.slice (some ⟨p, 0, none⟩) n c')).setCell ⟨H + 1, 4, none⟩ (.slice (some ⟨g2, 0, none⟩) n c2) = w6 := ⟨_, rfl⟩
          rw [hw6] at K6 OC6 OD6 B6 K1s ⊢
          clear hw6 K1 K2 OC OD B f0 f1 f2 f3 f4 u0 u1 u2 u3 u4
          refine hK.out _ _ (⟨K1s.out.cell 0, K1s.out.cell 1, K1s.out.cell 2, K1s.out.cell 3, K1s.out.cell 4⟩) (fun hHeld => ?_)
          clear hK K
          (try simp only [Act.put, List.setIfInBounds_toArray, List.set_cons_zero, List.set_cons_succ])
          refine wpAnyH_done (by kernel_rfl) ?_ _
          go_wp2
          have z0 := K6.out.cell 0; have z1 := K6.out.cell 1; have z2 := K6.out.cell 2; have z3 := K6.out.cell 3; have z4 := K6.out.cell 4
          exact bodyPost_ret (v := .agg #[.int .i64 s, .int .i64 x, .int .i64 y, .slice (some ⟨p, 0, none⟩) n c', .slice (some ⟨g2, 0, none⟩) n c2]) (by simp only [results, Try.results69, Array.size]; simp [go_sem, z0, z1, z2, z3, z4]) rfl ⟨p, g2, c', c2, rfl, OC6, OD6, fun e => hgp2 e.symm, by omega, by omega, hH ▸ B6⟩
        case hno14_15 =>
          exact AllReadyH.nil
      case hno12_13 =>
        exact AllReadyH.nil
    case hno9_12 =>
      exact AllReadyH.nil
  case hno8_11 =>
    refine AllReadyH.cons (o := ?oio9_16) ?hio9_16 ?hao9_16 ?hno9_16
    case hio9_16 => (simp only [List.getElem?_toArray, List.getElem?_cons_succ, List.getElem?_cons_zero]; rfl)
    case hao9_16 =>
      intro K hK
      go_simp
      first
      | (obtain ⟨gl, hgl⟩ : ∃ gl, wc.heap.size = gl := ⟨_, rfl⟩
         obtain ⟨wl, hwl⟩ : ∃ wl, wc.alloc (.cells #[] 49) = wl := ⟨_, rfl⟩
         have hglH : H + 2 ≤ gl := by omega
         have OL : Sol wl 49 2 gl 0 0 (prs []) := by
           rw [← hwl, ← hgl]
           exact Own.sol (Own.lit0 wc 49 2)
         replace K1 := Lib.hid (show Blk wl H 27 _ from by rw [← hwl]; exact K1.out.alloc _)
         replace K2 := Lib.hid (show Blk wl (H + 1) 27 _ from by rw [← hwl]; exact K2.out.alloc _)
         replace R2 := Lib.hid (show Row wl 2 b n _ from by rw [← hwl]; exact R2.out.alloc2 _)
         replace B := Lib.hid (show Below H w wl from by rw [← hwl]; exact B.out.alloc (by have := B.out.size; have := B.out.size; omega) _)
         have hgp : gl ≠ p := by have := OC.lt; omega
         replace OC : Sol wl 2 1 p n c' (ints cs) := by rw [← hwl]; exact OC.alloc _
         have hlz : H + 2 ≤ wl.heap.size := by rw [← hwl]; simp; omega
         simp only [hgl, hwl]
         clear hwl hgl)
      | (obtain ⟨gl, hgl⟩ : ∃ gl, H + 2 = gl := ⟨_, rfl⟩
         obtain ⟨wl, hwl⟩ : ∃ wl, (wa.alloc (.cells #[] 49)).drew = wl := ⟨_, rfl⟩
         have hglH : H + 2 ≤ gl := by omega
         have OL : Sol wl 49 2 gl 0 0 (prs []) := by
           rw [← hwl, ← hgl, ← hz]
           exact (Own.sol (Own.lit0 wa 49 2)).drew
         replace K1 := Lib.hid (show Blk wl H 27 _ from by rw [← hwl]; exact (K1.out.alloc _).drew)
         replace K2 := Lib.hid (show Blk wl (H + 1) 27 _ from by rw [← hwl]; exact (K2.out.alloc _).drew)
         replace R2 := Lib.hid (show Row wl 2 b n _ from by rw [← hwl]; exact (R2.out.alloc2 _).drew)
         replace B := Lib.hid (show Below H w wl from by rw [← hwl]; exact (B.out.alloc (by have := B.out.size; omega) _).drew)
         replace R1 := Lib.hid (show Row wl 1 a n _ from by rw [← hwl]; exact (R1.out.alloc _).drew)
         have hlz : H + 2 ≤ wl.heap.size := by
           rw [← hwl]
           show H + 2 ≤ (wa.alloc _).heap.size
           simp; omega
         simp only [hgl, hwl]
         clear hwl hgl)
      refine hK.out _ _ (⟨K1.out.cell 0, K1.out.cell 1, K1.out.cell 2, K1.out.cell 3, K1.out.cell 4⟩) (fun hHeld => ?_)
      clear hK K
      (try simp only [Act.put, List.setIfInBounds_toArray, List.set_cons_zero, List.set_cons_succ])
      refine wpAnyH_ready (rs := [8]) (by kernel_rfl) (by simp) ?_
      refine AllReadyH.cons (o := ?oio8_17) ?hio8_17 ?hao8_17 ?hno8_17
      case hio8_17 => (simp only [List.getElem?_toArray, List.getElem?_cons_succ, List.getElem?_cons_zero]; rfl)
      case hao8_17 =>
        intro K hK
        go_simp
        go_at_call 72
        refine (l01Own_any _ _ _ _ _ (by first | exact R1.out | exact R1.out.drew) (by omega)).mono ?_
        rintro e wc ⟨a', c', rfl, Oc, hb⟩
        obtain ⟨p, rfl, hp0, hp1, hp2⟩ := Oc.head h0
        replace K1 := Lib.hid (show Blk wc H 27 _ from by first | exact K1.out.belowSelf hb | exact K1.out.drew.belowSelf hb)
        replace K2 := Lib.hid (show Blk wc (H + 1) 27 _ from by first | exact K2.out.belowSelf hb | exact K2.out.drew.belowSelf hb)
        replace R2 := Lib.hid (show Row wc 2 b n _ from by first | exact R2.out.below2 hb (Nat.le_refl _) | exact R2.out.drew.below2 hb (Nat.le_refl _))
        replace B := Lib.hid (show Below H w wc from by first | exact B.out.trans (hb.mono (by have := B.out.size; omega)) | exact B.out.drew.trans (hb.mono (by have := B.out.drew.size; omega)))
        have hz0 := hb.size
        have hpH : H + 2 ≤ p := by first | omega | (simp at hp0; omega)
        have OC := Own.sol Oc
        try (have hgp : gl ≠ p := by have := OL.lt; first | omega | (simp at hp0; omega))
        try (replace OL : Sol wc 49 2 gl 0 0 (prs []) := OL.below hb (.inr (Nat.le_refl _)))
        have hcz : H + 2 ≤ wc.heap.size := by first | omega | (simp at hz0; omega)
        clear Oc hb R1 hz0 hp0 hp1 hp2
        refine hK.out _ _ (⟨K1.out.cell 0, K1.out.cell 1, K1.out.cell 2, K1.out.cell 3, K1.out.cell 4⟩) (fun hHeld => ?_)
        clear hK K
        (try simp only [Act.put, List.setIfInBounds_toArray, List.set_cons_zero, List.set_cons_succ])
        refine wpAnyH_ready (rs := [12]) (by kernel_rfl) (by simp) ?_
        refine AllReadyH.cons (o := ?oio12_18) ?hio12_18 ?hao12_18 ?hno12_18
        case hio12_18 => (simp only [List.getElem?_toArray, List.getElem?_cons_succ, List.getElem?_cons_zero]; rfl)
        case hao12_18 =>
          intro K hK
          refine step_sol rfl (.tmp 12) (.tmp 14) _ rfl Try.underlying25 info_Interval rfl (by decide) (by rfl) OL (by rfl) R2.out (prs_one _) h0 (by simp only [maxLen]; omega) (by omega) ?_
          intro g2 c2 wd OD hg hor
          have hgp2 : g2 ≠ p := by rcases hor with h | h; omega; (have := OC.lt; omega)
          rw [Nat.zero_add] at OD
          replace OD : Sol wd 49 2 g2 n c2 (prs ds) := OD
          have hg2H : H + 2 ≤ g2 := by rcases hor with h | h; omega; (have := wc.heap.size; omega)
          replace OC := OC.apart hg (fun e => hgp e.symm)
          replace K1 := Lib.hid (K1.out.grown hg (fun e => by injection e with e; omega))
          replace K2 := Lib.hid (K2.out.grown hg (fun e => by injection e with e; omega))
          replace B := Lib.hid (B.out.grown hg (by have := B.out.size; omega) (fun g e => by injection e with e; omega))
          rw [Nat.zero_add]
          have f0 := K2.out.frozen 0
          have f1 := K2.out.frozen 1
          have f2 := K2.out.frozen 2
          have f3 := K2.out.frozen 3
          have f4 := K2.out.frozen 4
          have u0 : wd.cell? ⟨H + 1, 0, none⟩ = some (.int .i64 0) := K2.out.cell 0
          have u1 : wd.cell? ⟨H + 1, 1, none⟩ = some (.int .i64 0) := K2.out.cell 1
          have u2 : wd.cell? ⟨H + 1, 2, none⟩ = some (.int .i64 0) := K2.out.cell 2
          have u3 : wd.cell? ⟨H + 1, 3, none⟩ = some (.slice none 0 0) := K2.out.cell 3
          have u4 : wd.cell? ⟨H + 1, 4, none⟩ = some (.slice none 0 0) := K2.out.cell 4
          clear hg hor OL R2
          refine hK.out _ _ (⟨K1.out.cell 0, K1.out.cell 1, K1.out.cell 2, K1.out.cell 3, K1.out.cell 4⟩) (fun hHeld => ?_)
          clear hK K
          (try simp only [Act.put, List.setIfInBounds_toArray, List.set_cons_zero, List.set_cons_succ])
          refine wpAnyH_take (i := 13) (oi := ?oio13_19) (v := ?vo13_19) ?hio13_19 (by kernel_rfl) (by kernel_rfl) (by kernel_rfl) ?hQo13_19 ?hyo13_19 (by assumption) ?hro13_19
          case hio13_19 => (simp only [List.getElem?_toArray, List.getElem?_cons_succ, List.getElem?_cons_zero]; rfl)
          case hQo13_19 => exact fun _ _ _ h => h
          case hyo13_19 => (refine Or.inl ⟨by rfl, ?_⟩; intro w hSw; (try dsimp only at hSw); (go_simp <;> with_reducible rfl))
          (try simp only [Act.put, List.setIfInBounds_toArray, List.set_cons_zero, List.set_cons_succ])
          refine wpAnyH_ready (rs := [14]) (by kernel_rfl) (by simp) ?_
          refine AllReadyH.cons (o := ?oio14_20) ?hio14_20 ?hao14_20 ?hno14_20
          case hio14_20 => (simp only [List.getElem?_toArray, List.getElem?_cons_succ, List.getElem?_cons_zero]; rfl)
          case hao14_20 =>
            intro K hK
            go_simp
            have K6 := Lib.hid (K2.out.five (.int .i64 s) (.int .i64 x) (.int .i64 y) (.slice (some ⟨p, 0, none⟩) n c') (.slice (some ⟨g2, 0, none⟩) n c2))
            have OC6 := own_five (b := H + 1) OC (.inl (by omega)) (.int .i64 s) (.int .i64 x) (.int .i64 y) (.slice (some ⟨p, 0, none⟩) n c') (.slice (some ⟨g2, 0, none⟩) n c2)
            have OD6 := own_five (b := H + 1) OD (.inl (by omega)) (.int .i64 s) (.int .i64 x) (.int .i64 y) (.slice (some ⟨p, 0, none⟩) n c') (.slice (some ⟨g2, 0, none⟩) n c2)
            have B6 := below_five1 B.out (.int .i64 s) (.int .i64 x) (.int .i64 y) (.slice (some ⟨p, 0, none⟩) n c') (.slice (some ⟨g2, 0, none⟩) n c2)
            have K1s := Lib.hid (far_five K1.out (b := H + 1) (by omega) (.int .i64 s) (.int .i64 x) (.int .i64 y) (.slice (some ⟨p, 0, none⟩) n c') (.slice (some ⟨g2, 0, none⟩) n c2))
            obtain ⟨w6, hw6⟩ : ∃ w6, ((((wd.setCell ⟨H + 1, 0, none⟩ (.int .i64 s)).setCell ⟨H + 1, 1, none⟩ (.int .i64 x)).setCell ⟨H + 1, 2, none⟩ (.int .i64 y)).setCell ⟨H + 1, 3, none⟩ (.slice (some ⟨p, 0, none⟩) n c')).setCell ⟨H + 1, 4, none⟩ (.slice (some ⟨g2, 0, none⟩) n c2) = w6 := ⟨_, rfl⟩
            rw [hw6] at K6 OC6 OD6 B6 K1s ⊢
            clear hw6 K1 K2 OC OD B f0 f1 f2 f3 f4 u0 u1 u2 u3 u4
            refine hK.out _ _ (⟨K1s.out.cell 0, K1s.out.cell 1, K1s.out.cell 2, K1s.out.cell 3, K1s.out.cell 4⟩) (fun hHeld => ?_)
            clear hK K
            (try simp only [Act.put, List.setIfInBounds_toArray, List.set_cons_zero, List.set_cons_succ])
            refine wpAnyH_done (by kernel_rfl) ?_ _
            go_wp2
            have z0 := K6.out.cell 0; have z1 := K6.out.cell 1; have z2 := K6.out.cell 2; have z3 := K6.out.cell 3; have z4 := K6.out.cell 4
            exact bodyPost_ret (v := .agg #[.int .i64 s, .int .i64 x, .int .i64 y, .slice (some ⟨p, 0, none⟩) n c', .slice (some ⟨g2, 0, none⟩) n c2]) (by simp only [results, Try.results69, Array.size]; simp [go_sem, z0, z1, z2, z3, z4]) rfl ⟨p, g2, c', c2, rfl, OC6, OD6, fun e => hgp2 e.symm, by omega, by omega, hH ▸ B6⟩
          case hno14_20 =>
            exact AllReadyH.nil
        case hno12_18 =>
          exact AllReadyH.nil
      case hno8_17 =>
        exact AllReadyH.nil
    case hno9_16 =>
      exact AllReadyH.nil
end Go.Proofs.Ytciicolknphcnaa
