/- What is read from bits that are long enough, by the program: the walk. -/
import Derived.Test.YtmljcbfpennjkaaReadB
namespace Go.Proofs.Ytmljcbfpennjkaa
open Go.RowKit Go.Shelf
set_option maxRecDepth 100000
set_option linter.unusedVariables false
set_option linter.unusedSimpArgs false

attribute [local go_sem] Oper.semAt_some

theorem o1cap {w : World} {lo hi E s n c : Nat} {a : Option Addr} {vs : List Value} (h : Own w lo hi E s a n c vs) : n ≤ c ∧ c ≤ maxLen := by
  rcases h.1.2 with ⟨hv, h0⟩ | ⟨g, cap, cur, hv, _, _, hnc, hcm, _⟩
  · injection hv with _ h1 h2; simp only [maxLen]; omega
  · injection hv with _ h1 h2; subst h2; omega

theorem below_then {B : Nat} {A X C : World} (h : Below B A X) (k : Below X.heap.size X C) (hB : B ≤ X.heap.size) : Below B A C := h.trans (k.mono hB)

/-- What a call that reads a frame hands out. -/
def ReadPost (w : World) (xs : List Int) (e : Ending) (w' : World) : Prop := ∃ (k m : Int) (a : Option Addr) (n c : Nat) (ys : List Int),
  e = .returned (.tuple #[.agg #[.int .i64 k, .int .i64 m, .slice a n c], .bool (readL xs).isSome]) ∧ Own w' w.heap.size w'.heap.size 2 1 a n c (ints ys) ∧ Below w.heap.size w w' ∧ Hid (∀ f, readL xs = some f → f = (k, m, ys)) ∧ n ≤ 200

/-- The three stores into the result's cell, and the turn of the block for deferred calls. -/
theorem read_fin {w W3 : World} {D : Nat} {cs : Array Value} (hK : W3.heap[D]? = some (.deferred (some []))) (hR : Blk W3 w.heap.size 28 cs) (h3 : cs.size = 3) (hB : Below w.heap.size w W3) (hD : w.heap.size < D)
    {k m : Int} {a : Option Addr} {n c : Nat} {ys : List Int} (hO : Own W3 (w.heap.size + 1) W3.heap.size 2 1 a n c (ints ys)) {W4 : World} (e4 : ((W3.setCell ⟨w.heap.size, 0, none⟩ (.int .i64 k)).setCell ⟨w.heap.size, 1, none⟩ (.int .i64 m)).setCell ⟨w.heap.size, 2, none⟩ (.slice a n c) = W4) :
    W4.heap[D]? = some (.deferred (some [])) ∧ (W4.putObj D (.deferred none)).cell? ⟨w.heap.size, 0, none⟩ = some (.int .i64 k) ∧ (W4.putObj D (.deferred none)).cell? ⟨w.heap.size, 1, none⟩ = some (.int .i64 m) ∧ (W4.putObj D (.deferred none)).cell? ⟨w.heap.size, 2, none⟩ = some (.slice a n c) ∧
      Own (W4.putObj D (.deferred none)) w.heap.size (W4.putObj D (.deferred none)).heap.size 2 1 a n c (ints ys) ∧ Below w.heap.size w (W4.putObj D (.deferred none)) := by
  have hk4 : W4.heap[D]? = some (.deferred (some [])) := by
    rw [← e4, Below.heap_setCell _ _ _ _ (by simp; omega), Below.heap_setCell _ _ _ _ (by simp; omega), Below.heap_setCell _ _ _ _ (by simp; omega)]
    exact hK
  have hblk : Blk W4 w.heap.size 28 (((cs.setIfInBounds 0 (.int .i64 k)).setIfInBounds 1 (.int .i64 m)).setIfInBounds 2 (.slice a n c)) := by
    rw [← e4]; exact ((hR.set_ 0 _).set_ 1 _).set_ 2 _
  have hb4 : Below w.heap.size w W4 := by
    rw [← e4]; exact ((hB.setCell (p := ⟨w.heap.size, 0, none⟩) (Nat.le_refl _) _).setCell (p := ⟨w.heap.size, 1, none⟩) (Nat.le_refl _) _).setCell (p := ⟨w.heap.size, 2, none⟩) (Nat.le_refl _) _
  have ho4 : Own W4 (w.heap.size + 1) W4.heap.size 2 1 a n c (ints ys) := by
    rw [← e4]
    exact (((hO.setFar (p := ⟨w.heap.size, 0, none⟩) (.inl (by simp)) _).setFar (p := ⟨w.heap.size, 1, none⟩) (.inl (by simp)) _).setFar (p := ⟨w.heap.size, 2, none⟩) (.inl (by simp)) _).leave
  have hg := grownBy_putObj' W4 D (.deferred none)
  have hb5 : Blk (W4.putObj D (.deferred none)) w.heap.size 28 _ := hblk.grown hg (by simp; omega)
  have hne : ∀ g, (Value.slice a n c).ownBlock = some g → g ≠ D := by
    intro g hg' e
    subst e
    rcases ho4.1.2 with ⟨hv, _⟩ | ⟨g2, cap, cur, hv, _, hg2, _⟩
    · rw [hv] at hg'; simp [Value.ownBlock] at hg'
    · rw [hv] at hg'; simp [Value.ownBlock] at hg'
      subst hg'
      rw [hg2] at hk4; cases hk4
  have ho5 : Own (W4.putObj D (.deferred none)) (w.heap.size + 1) W4.heap.size 2 1 a n c (ints ys) := by
    refine ⟨ho4.1.kept hg ?_, ho4.2⟩
    rcases h : (Value.slice a n c).ownBlock with _ | g
    · exact .inl rfl
    · exact .inr (by intro e; injection e with e; exact hne g h e)
  have c0 := hb5.cell 0
  have c1 := hb5.cell 1
  have c2 := hb5.cell 2
  have hs : cs.size = 3 := h3
  refine ⟨hk4, ?_, ?_, ?_, ho5.leave.mono (by omega) (Nat.le_refl _), ?_⟩
  · rw [c0]; simp [hs]
  · rw [c1]; simp [hs]
  · rw [c2]; simp [hs]
  · exact hb4.grown hg hb4.size (fun r e => by injection e with e; omega)

set_option maxHeartbeats 6400000 in
theorem read_long (b off n c : Nat) (xs inner bs : List Int) (w : World) (h : Row w 1 (some ⟨b, off, none⟩) n (ints xs)) (hn : n ≤ 1200) (h16 : 16 ≤ n) (hnc : n ≤ c) (hc : c ≤ maxLen) (hb : listOk 1200 0 1 xs = true)
    (hin : unstL 0 (midL xs) = some inner) (hbs : innerL inner = some bs) :
    Calls Try.prog 49 #[.slice (some ⟨b, off, none⟩) n c] w (ReadPost w xs) := by
  have hl := h.len
  have HR := Lib.hid (readL_at (by omega) hin hbs)
  have HSM := Lib.hid (unstL_small 0 _ _ (small_listOk (mid_ok hb)) hin)
  have hok : unstOk (midL xs) = true := by simp [unstOk, hin]
  have HL := Lib.hid (innerL_some rfl hbs)
  have B0 := (Below.refl w.heap.size w).alloc (Nat.le_refl _) (.cells #[.int .i64 0, .int .i64 0, .slice none 0 0] 28)
  have K0 := Lib.hid (Blk.new w 28 #[.int .i64 0, .int .i64 0, .slice none 0 0])
  have HX := Lib.hid (h.below B0 (Nat.le_refl _))
  have hm0 : Row (w.alloc (.cells #[.int .i64 0, .int .i64 0, .slice none 0 0] 28)) 1 (some ⟨b, off + 8, none⟩) (n - 16) (ints (midL xs)) := by
    have t := HX.out.piece (c := c) (i := 8) (m := n - 16) (by omega)
    rw [midL, hl]
    exact t
  have HM := Lib.hid hm0
  have HU := Lib.hid hin
  have HMK := Lib.hid (mid_ok hb)
  have HB0 := Lib.hid B0
  simp only [maxLen] at hc
  have g1 : (n : Int) - 8 ≤ (c : Int) := by omega
  have g2 : ((n : Int) - 8).toNat = n - 8 := by omega
  have g3 : (8 : Int) ≤ (n : Int) - 8 := by omega
  have g4 : ¬ c = 8 := by omega
  have g5 : ¬ (n : Int) < 16 := by omega
  have g6 : (0 : Int) ≤ (n : Int) - 8 := by omega
  have g7 : n - 8 - 8 = n - 16 := by omega
  clear hm0 hin hb B0 hbs hl h
  refine (callsIn_wide (n := 5)).1 ?_
  refine callsIn_of_wp_marks Try.func49 rfl trivial ?_ rfl
  simp only [Try.ntmps49, List.size_toArray, List.length_cons, List.length_nil, Nat.reduceAdd, Nat.reduceSub, Array.replicate_succ, Array.replicate_zero, List.push_toArray, List.append_toArray, List.nil_append, List.cons_append]
  refine wpIn_wide.2 ?_
  go_wp2_with fail
  go_at_call 80
  refine (unstuff_any _ _ _ _ _ HM.out (by omega) HMK.out).mono ?_
  rintro e w1 ⟨a1, m, c1, ys, rfl, O1, hys, b1⟩
  rw [hok]
  obtain rfl := hys.out _ HU.out
  obtain ⟨hm8, hm32, hbs⟩ := HL.out
  have hml := O1.row.len
  rw [hml] at hm8 hm32 hbs
  have hm12 : m ≤ 1200 := by have := unstL_len _ _ _ HU.out; have := listOk_le HMK.out rfl; omega
  obtain ⟨g, rfl, hg1, hg2, hg3⟩ := O1.head (by omega)
  obtain ⟨hc1, hc2⟩ := o1cap O1
  obtain ⟨q, hq⟩ : ∃ q, m / 8 = q := ⟨_, rfl⟩
  rw [hq] at hm8 hbs
  have hr1 : Int.tmod (m : Int) 8 = 0 := by
    rw [Int.tmod_eq_emod_of_nonneg (by omega)]; omega
  have hr2 : ¬ (m : Int) < 32 := by omega
  have HM8 := Lib.hid hm8
  have HBS := Lib.hid hbs
  have HML := Lib.hid hml
  have HQ4 : 4 ≤ q := by omega
  have HQ5 : q ≤ 150 := by omega
  have B1 := HB0.out.trans (b1.mono HB0.out.size)
  have K1 := Lib.hid (K0.out.belowSelf b1)
  have X1 := Lib.hid (HX.out.below b1 (Nat.le_refl _))
  have R1 := Lib.hid O1.row
  clear hm8 hbs hml hq b1 O1 hys K0 HX HM HB0 HL
  go_wp2_with fail
  go_at_call 81
  refine (chunk_any _ _ _ _).mono ?_
  rintro e wc ⟨rfl, rfl⟩
  obtain ⟨i0, hi0, hz0, hz1, hz2⟩ := info_parts info_i64
  obtain ⟨wL, hwL⟩ : ∃ wL, ((w1.alloc (.cells #[.slice none 0 0] 22)).alloc (.cells #[.slice (some ⟨g, 0, none⟩) m c1] 22)).alloc (.cells #[.int .i64 8] 3) = wL := ⟨_, rfl⟩
  have HsL := Lib.hid (show wL.heap.size = w1.heap.size + 1 + 1 + 1 by rw [← hwL]; simp)
  have bO : Boxed wL w1.heap.size 22 (.slice none 0 0) := by rw [← hwL]; exact ((Boxed.new w1 _ _).alloc _).alloc _
  have bS : Boxed wL (w1.heap.size + 1) 22 (.slice (some ⟨g, 0, none⟩) m c1) := by
    rw [← hwL]
    have := (Boxed.new (w1.alloc (.cells #[.slice none 0 0] 22)) 22 (.slice (some ⟨g, 0, none⟩) m c1)).alloc (.cells #[.int .i64 8] 3)
    rwa [World.size_alloc] at this
  have bN : Boxed wL (w1.heap.size + 1 + 1) 3 (.int .i64 8) := by
    rw [← hwL]
    have := Boxed.new ((w1.alloc (.cells #[.slice none 0 0] 22)).alloc (.cells #[.slice (some ⟨g, 0, none⟩) m c1] 22)) 3 (.int .i64 8)
    rwa [World.size_alloc, World.size_alloc] at this
  have bL : Below w1.heap.size w1 wL := by
    rw [← hwL]
    exact (((Below.refl _ _).alloc (Nat.le_refl _) _).alloc (by simp) _).alloc (by simp; omega) _
  go_wp2_with fail
  clear hwL
  refine (wpIn_wide (n := 5)).1 ?_
  refine wpIn_rangeFunc_ownG rfl (by omega) (gf := 87) (lb := #[.pointer (some ⟨w1.heap.size + 1, 0, none⟩), .pointer (some ⟨w1.heap.size + 1 + 1, 0, none⟩)]) rfl trivial (enters_of Try.func87 (by kernel_rfl) rfl)
    (chunk_stops Fence.wide _ trivial rfl (by omega) (w1.heap.size + 1) (w1.heap.size + 1 + 1) g m c1 q HM8.out hc1 hc2 wL (by have := HsL.out; omega) (by have := HsL.out; omega) bS.cell bN.cell)
    KpB.trans (KpB.put (by have := HsL.out; omega) (by have := HsL.out; omega)) (Below.refl _ _) (fun _ => rfl)
    (fun pre W => (∃ v, Boxed W w1.heap.size 22 v ∧ W.ownsRow w1.heap.size 2 1 v pre.length (ints (bytesOf ys pre)) ∧ True) ∧ (Boxed W (w1.heap.size + 1) 22 (.slice (some ⟨g, 0, none⟩) m c1) ∧ Boxed W (w1.heap.size + 1 + 1) 3 (.int .i64 8)) ∧ Below w1.heap.size w1 W)
    (fun _ _ _ => False)
    (OwnFrom.and (_root_.Go.Own.from (holdsRow_own w1.heap.size w1.heap.size 22 2 1 (fun pre : List (Fin q) => pre.length) (fun pre : List (Fin q) => ints (bytesOf ys pre)) (fun _ _ => True)) _)
      (OwnFrom.and (OwnFrom.and (_root_.Go.Own.from (boxed_own _ _ (fun _ => _)) _) (_root_.Go.Own.from (boxed_own _ _ (fun _ => _)) _)) (ownFrom_below (Nat.le_refl _) (by have := HsL.out; omega))))
    (fun _ _ _ _ _ hs _ _ => hs)
    ⟨⟨_, bO, by simpa [bytesOf, ints] using World.ownsRow_nil _ _ _ _, trivial⟩, ⟨bS, bN⟩, bL⟩
    ?a1 ?assign ?body ?done ?stop
  case assign =>
    intro l x W K hK
    gi_wp2
    exact hK
  case body =>
    rintro l pre x W ⟨⟨v, hv, hrow, -⟩, ⟨hvs, hvn⟩, hB⟩ hlt
    have hmx : Try.prog.follows .mixedOrders = true := by kernel_rfl
    have hBz := hB.size
    have hpl : pre.length < 150 := by omega
    have hc0 := hv.cell
    have hvl := hv.lt
    have hx8 := x.2
    have RX := Lib.hid ((show Row W 1 (some ⟨g, 0, none⟩) m (ints ys) from R1.out.below hB (Nat.le_refl _)).piece (c := c1) (i := x.1 * 8) (m := 8) (by have := HM8.out; omega))
    rw [Nat.zero_add] at RX
    have HSx := Lib.hid (show Small01 (pieceL ys x.1) from fun y hy => HSM.out y (List.mem_of_mem_drop (List.mem_of_mem_take hy)))
    gi_wp2
    refine wpIn_region_any hmx ?_
    change wpAnyIn _ _ _ _ _ _ _ _ _ (World.drew _)
    refine wpAnyIn_ready (rs := [0, 1]) (by kernel_rfl) (by simp) ?_
    refine AllReadyIn.cons rfl (fun K hK => ?_) ?_
    · go_simp
      refine hK _ _ ?_
      clear hK K
      refine wpAnyIn_ready (rs := [1]) (by kernel_rfl) (by simp) ?_
      refine AllReadyIn.cons rfl (fun K hK => ?_) ?_
      · go_simp
        refine hK _ _ ?_
        clear hK K
        refine wpAnyIn_ready (rs := [2]) (by kernel_rfl) (by simp) ?_
        refine AllReadyIn.cons rfl (fun K hK => ?_) ?_
        · (go_simp; (try refine ⟨trivial, ?_⟩); gi_at_call 82; refine (CallsIn.inRound l (callsIn_wide.2 (numberOf_any _ _ _ (pieceL ys x.1) W.drew (show Row W.drew 1 _ 8 (ints (pieceL ys x.1)) from RX.out) (by omega) HSx.out))).mono ?_; rintro e w' ⟨rfl, rfl⟩; dsimp only)
          refine hK _ _ ?_
          clear hK K
          refine wpAnyIn_ready (rs := [3]) (by kernel_rfl) (by simp) ?_
          refine AllReadyIn.cons rfl (fun K hK => ?_) ?_
          · go_simp
            refine hK _ _ ?_
            clear hK K
            refine wpAnyIn_ready (rs := [4]) (by kernel_rfl) (by simp) ?_
            refine AllReadyIn.cons rfl (fun K hK => ?_) ?_
            · (refine stepIn_own _ (by rfl) (.tmp 39) (.tmp 42) 22 (by rfl) w1.heap.size 2 i0 (.int .i64 0) 1 8 Try.underlying22 hi0 hz0 hz1 hz2 rfl (by decide) v pre.length (ints (bytesOf ys pre)) (by rfl) (hrow.drew.alloc _) ⟨W.heap.size, 0, none⟩ 1 1 (ints [numL (pieceL ys x.1)]) (by rfl) (by rfl) (cell_one_new _ _ _) (ints_one _) (by simp only [maxLen]; omega) (by omega) (by simp; omega) ?_; intro v' w2 hown' hgrow _; obtain ⟨g', cap', rfl⟩ := ownsRow_succ hown'; obtain ⟨hv1, hv2, hr2, hk2, hb2⟩ := Boxed.appended (show Boxed W.drew w1.heap.size 22 v from hv) (by decide) (show World.ownsRow W.drew _ _ _ _ _ _ from hrow) (by simpa using hBz) (Nat.le_refl _) hown' hgrow; have hc2 := hv1.cell; have hf2 := hv1.frozen; have hs2 := ((Boxed.alloc (show Boxed W.drew (w1.heap.size + 1) 22 (.slice (some ⟨g, 0, none⟩) m c1) from hvs) _).kept hgrow (Boxed.not_row (show Boxed W.drew (w1.heap.size + 1) 22 (.slice (some ⟨g, 0, none⟩) m c1) from hvs) (by decide) (show World.ownsRow W.drew _ _ _ _ _ _ from hrow))).other (B' := w1.heap.size) (by omega) (.slice (some ⟨g', 0, none⟩) (pre.length + 1) cap'); have hn2 := ((Boxed.alloc (show Boxed W.drew (w1.heap.size + 1 + 1) 3 (.int .i64 8) from hvn) _).kept hgrow (Boxed.not_row (show Boxed W.drew (w1.heap.size + 1 + 1) 3 (.int .i64 8) from hvn) (by decide) (show World.ownsRow W.drew _ _ _ _ _ _ from hrow))).other (B' := w1.heap.size) (by omega) (.slice (some ⟨g', 0, none⟩) (pre.length + 1) cap'))
              refine hK _ _ ?_
              clear hK K
              refine wpAnyIn_ready (rs := [5]) (by kernel_rfl) (by simp) ?_
              refine AllReadyIn.cons rfl (fun K hK => ?_) ?_
              · go_simp
                refine hK _ _ ?_
                clear hK K
                refine wpAnyIn_done (by kernel_rfl) ?_ _
                gi_wp2
                exact ⟨((KeepsOthers.drew W).trans hk2).from _, ⟨(show _ = _ from hs2).trans (show _ = _ from hvs).symm, (show _ = _ from hn2).trans (show _ = _ from hvn).symm⟩, ⟨_, hv2, by rw [bytesOf_snoc, ints_app]; simpa using hr2, trivial⟩, ⟨hs2, hn2⟩, hB.drew.trans hb2⟩
              exact AllReadyIn.nil
            exact AllReadyIn.nil
          exact AllReadyIn.nil
        exact AllReadyIn.nil
      exact AllReadyIn.nil
    refine AllReadyIn.cons rfl (fun K hK => ?_) ?_
    · go_simp
      refine hK _ _ ?_
      clear hK K
      refine wpAnyIn_ready (rs := [0, 2]) (by kernel_rfl) (by simp) ?_
      refine AllReadyIn.cons rfl (fun K hK => ?_) ?_
      · go_simp
        refine hK _ _ ?_
        clear hK K
        refine wpAnyIn_ready (rs := [2]) (by kernel_rfl) (by simp) ?_
        refine AllReadyIn.cons rfl (fun K hK => ?_) ?_
        · (go_simp; (try refine ⟨trivial, ?_⟩); gi_at_call 82; refine (CallsIn.inRound l (callsIn_wide.2 (numberOf_any _ _ _ (pieceL ys x.1) W.drew (show Row W.drew 1 _ 8 (ints (pieceL ys x.1)) from RX.out) (by omega) HSx.out))).mono ?_; rintro e w' ⟨rfl, rfl⟩; dsimp only)
          refine hK _ _ ?_
          clear hK K
          refine wpAnyIn_ready (rs := [3]) (by kernel_rfl) (by simp) ?_
          refine AllReadyIn.cons rfl (fun K hK => ?_) ?_
          · go_simp
            refine hK _ _ ?_
            clear hK K
            refine wpAnyIn_ready (rs := [4]) (by kernel_rfl) (by simp) ?_
            refine AllReadyIn.cons rfl (fun K hK => ?_) ?_
            · (refine stepIn_own _ (by rfl) (.tmp 39) (.tmp 42) 22 (by rfl) w1.heap.size 2 i0 (.int .i64 0) 1 8 Try.underlying22 hi0 hz0 hz1 hz2 rfl (by decide) v pre.length (ints (bytesOf ys pre)) (by rfl) (hrow.drew.alloc _) ⟨W.heap.size, 0, none⟩ 1 1 (ints [numL (pieceL ys x.1)]) (by rfl) (by rfl) (cell_one_new _ _ _) (ints_one _) (by simp only [maxLen]; omega) (by omega) (by simp; omega) ?_; intro v' w2 hown' hgrow _; obtain ⟨g', cap', rfl⟩ := ownsRow_succ hown'; obtain ⟨hv1, hv2, hr2, hk2, hb2⟩ := Boxed.appended (show Boxed W.drew w1.heap.size 22 v from hv) (by decide) (show World.ownsRow W.drew _ _ _ _ _ _ from hrow) (by simpa using hBz) (Nat.le_refl _) hown' hgrow; have hc2 := hv1.cell; have hf2 := hv1.frozen; have hs2 := ((Boxed.alloc (show Boxed W.drew (w1.heap.size + 1) 22 (.slice (some ⟨g, 0, none⟩) m c1) from hvs) _).kept hgrow (Boxed.not_row (show Boxed W.drew (w1.heap.size + 1) 22 (.slice (some ⟨g, 0, none⟩) m c1) from hvs) (by decide) (show World.ownsRow W.drew _ _ _ _ _ _ from hrow))).other (B' := w1.heap.size) (by omega) (.slice (some ⟨g', 0, none⟩) (pre.length + 1) cap'); have hn2 := ((Boxed.alloc (show Boxed W.drew (w1.heap.size + 1 + 1) 3 (.int .i64 8) from hvn) _).kept hgrow (Boxed.not_row (show Boxed W.drew (w1.heap.size + 1 + 1) 3 (.int .i64 8) from hvn) (by decide) (show World.ownsRow W.drew _ _ _ _ _ _ from hrow))).other (B' := w1.heap.size) (by omega) (.slice (some ⟨g', 0, none⟩) (pre.length + 1) cap'))
              refine hK _ _ ?_
              clear hK K
              refine wpAnyIn_ready (rs := [5]) (by kernel_rfl) (by simp) ?_
              refine AllReadyIn.cons rfl (fun K hK => ?_) ?_
              · go_simp
                refine hK _ _ ?_
                clear hK K
                refine wpAnyIn_done (by kernel_rfl) ?_ _
                gi_wp2
                exact ⟨((KeepsOthers.drew W).trans hk2).from _, ⟨(show _ = _ from hs2).trans (show _ = _ from hvs).symm, (show _ = _ from hn2).trans (show _ = _ from hvn).symm⟩, ⟨_, hv2, by rw [bytesOf_snoc, ints_app]; simpa using hr2, trivial⟩, ⟨hs2, hn2⟩, hB.drew.trans hb2⟩
              exact AllReadyIn.nil
            exact AllReadyIn.nil
          exact AllReadyIn.nil
        exact AllReadyIn.nil
      refine AllReadyIn.cons rfl (fun K hK => ?_) ?_
      · (go_simp; (try refine ⟨trivial, ?_⟩); gi_at_call 82; refine (CallsIn.inRound l (callsIn_wide.2 (numberOf_any _ _ _ (pieceL ys x.1) W.drew (show Row W.drew 1 _ 8 (ints (pieceL ys x.1)) from RX.out) (by omega) HSx.out))).mono ?_; rintro e w' ⟨rfl, rfl⟩; dsimp only)
        refine hK _ _ ?_
        clear hK K
        refine wpAnyIn_ready (rs := [0, 3]) (by kernel_rfl) (by simp) ?_
        refine AllReadyIn.cons rfl (fun K hK => ?_) ?_
        · go_simp
          refine hK _ _ ?_
          clear hK K
          refine wpAnyIn_ready (rs := [3]) (by kernel_rfl) (by simp) ?_
          refine AllReadyIn.cons rfl (fun K hK => ?_) ?_
          · go_simp
            refine hK _ _ ?_
            clear hK K
            refine wpAnyIn_ready (rs := [4]) (by kernel_rfl) (by simp) ?_
            refine AllReadyIn.cons rfl (fun K hK => ?_) ?_
            · (refine stepIn_own _ (by rfl) (.tmp 39) (.tmp 42) 22 (by rfl) w1.heap.size 2 i0 (.int .i64 0) 1 8 Try.underlying22 hi0 hz0 hz1 hz2 rfl (by decide) v pre.length (ints (bytesOf ys pre)) (by rfl) (hrow.drew.alloc _) ⟨W.heap.size, 0, none⟩ 1 1 (ints [numL (pieceL ys x.1)]) (by rfl) (by rfl) (cell_one_new _ _ _) (ints_one _) (by simp only [maxLen]; omega) (by omega) (by simp; omega) ?_; intro v' w2 hown' hgrow _; obtain ⟨g', cap', rfl⟩ := ownsRow_succ hown'; obtain ⟨hv1, hv2, hr2, hk2, hb2⟩ := Boxed.appended (show Boxed W.drew w1.heap.size 22 v from hv) (by decide) (show World.ownsRow W.drew _ _ _ _ _ _ from hrow) (by simpa using hBz) (Nat.le_refl _) hown' hgrow; have hc2 := hv1.cell; have hf2 := hv1.frozen; have hs2 := ((Boxed.alloc (show Boxed W.drew (w1.heap.size + 1) 22 (.slice (some ⟨g, 0, none⟩) m c1) from hvs) _).kept hgrow (Boxed.not_row (show Boxed W.drew (w1.heap.size + 1) 22 (.slice (some ⟨g, 0, none⟩) m c1) from hvs) (by decide) (show World.ownsRow W.drew _ _ _ _ _ _ from hrow))).other (B' := w1.heap.size) (by omega) (.slice (some ⟨g', 0, none⟩) (pre.length + 1) cap'); have hn2 := ((Boxed.alloc (show Boxed W.drew (w1.heap.size + 1 + 1) 3 (.int .i64 8) from hvn) _).kept hgrow (Boxed.not_row (show Boxed W.drew (w1.heap.size + 1 + 1) 3 (.int .i64 8) from hvn) (by decide) (show World.ownsRow W.drew _ _ _ _ _ _ from hrow))).other (B' := w1.heap.size) (by omega) (.slice (some ⟨g', 0, none⟩) (pre.length + 1) cap'))
              refine hK _ _ ?_
              clear hK K
              refine wpAnyIn_ready (rs := [5]) (by kernel_rfl) (by simp) ?_
              refine AllReadyIn.cons rfl (fun K hK => ?_) ?_
              · go_simp
                refine hK _ _ ?_
                clear hK K
                refine wpAnyIn_done (by kernel_rfl) ?_ _
                gi_wp2
                exact ⟨((KeepsOthers.drew W).trans hk2).from _, ⟨(show _ = _ from hs2).trans (show _ = _ from hvs).symm, (show _ = _ from hn2).trans (show _ = _ from hvn).symm⟩, ⟨_, hv2, by rw [bytesOf_snoc, ints_app]; simpa using hr2, trivial⟩, ⟨hs2, hn2⟩, hB.drew.trans hb2⟩
              exact AllReadyIn.nil
            exact AllReadyIn.nil
          exact AllReadyIn.nil
        refine AllReadyIn.cons rfl (fun K hK => ?_) ?_
        · go_simp
          refine hK _ _ ?_
          clear hK K
          refine wpAnyIn_ready (rs := [0]) (by kernel_rfl) (by simp) ?_
          refine AllReadyIn.cons rfl (fun K hK => ?_) ?_
          · go_simp
            refine hK _ _ ?_
            clear hK K
            refine wpAnyIn_ready (rs := [4]) (by kernel_rfl) (by simp) ?_
            refine AllReadyIn.cons rfl (fun K hK => ?_) ?_
            · (refine stepIn_own _ (by rfl) (.tmp 39) (.tmp 42) 22 (by rfl) w1.heap.size 2 i0 (.int .i64 0) 1 8 Try.underlying22 hi0 hz0 hz1 hz2 rfl (by decide) v pre.length (ints (bytesOf ys pre)) (by rfl) (hrow.drew.alloc _) ⟨W.heap.size, 0, none⟩ 1 1 (ints [numL (pieceL ys x.1)]) (by rfl) (by rfl) (cell_one_new _ _ _) (ints_one _) (by simp only [maxLen]; omega) (by omega) (by simp; omega) ?_; intro v' w2 hown' hgrow _; obtain ⟨g', cap', rfl⟩ := ownsRow_succ hown'; obtain ⟨hv1, hv2, hr2, hk2, hb2⟩ := Boxed.appended (show Boxed W.drew w1.heap.size 22 v from hv) (by decide) (show World.ownsRow W.drew _ _ _ _ _ _ from hrow) (by simpa using hBz) (Nat.le_refl _) hown' hgrow; have hc2 := hv1.cell; have hf2 := hv1.frozen; have hs2 := ((Boxed.alloc (show Boxed W.drew (w1.heap.size + 1) 22 (.slice (some ⟨g, 0, none⟩) m c1) from hvs) _).kept hgrow (Boxed.not_row (show Boxed W.drew (w1.heap.size + 1) 22 (.slice (some ⟨g, 0, none⟩) m c1) from hvs) (by decide) (show World.ownsRow W.drew _ _ _ _ _ _ from hrow))).other (B' := w1.heap.size) (by omega) (.slice (some ⟨g', 0, none⟩) (pre.length + 1) cap'); have hn2 := ((Boxed.alloc (show Boxed W.drew (w1.heap.size + 1 + 1) 3 (.int .i64 8) from hvn) _).kept hgrow (Boxed.not_row (show Boxed W.drew (w1.heap.size + 1 + 1) 3 (.int .i64 8) from hvn) (by decide) (show World.ownsRow W.drew _ _ _ _ _ _ from hrow))).other (B' := w1.heap.size) (by omega) (.slice (some ⟨g', 0, none⟩) (pre.length + 1) cap'))
              refine hK _ _ ?_
              clear hK K
              refine wpAnyIn_ready (rs := [5]) (by kernel_rfl) (by simp) ?_
              refine AllReadyIn.cons rfl (fun K hK => ?_) ?_
              · go_simp
                refine hK _ _ ?_
                clear hK K
                refine wpAnyIn_done (by kernel_rfl) ?_ _
                gi_wp2
                exact ⟨((KeepsOthers.drew W).trans hk2).from _, ⟨(show _ = _ from hs2).trans (show _ = _ from hvs).symm, (show _ = _ from hn2).trans (show _ = _ from hvn).symm⟩, ⟨_, hv2, by rw [bytesOf_snoc, ints_app]; simpa using hr2, trivial⟩, ⟨hs2, hn2⟩, hB.drew.trans hb2⟩
              exact AllReadyIn.nil
            exact AllReadyIn.nil
          exact AllReadyIn.nil
        exact AllReadyIn.nil
      exact AllReadyIn.nil
    exact AllReadyIn.nil
  case done =>
    rintro D pres W hD rfl ⟨⟨v, hv, hrow, -⟩, -, hB⟩ hK
    rw [bytesOf_all, ← HBS.out, List.length_finRange] at hrow
    have hwD : w.heap.size < D := by have := HsL.out; have := B1.size; omega
    have hbl : bs.length = q := by rw [HBS.out, unbits_length]
    obtain ⟨gb, cb, rfl⟩ : ∃ gb cb, v = .slice (some ⟨gb, 0, none⟩) q cb := by
      rcases hrow.2 with ⟨_, h0⟩ | ⟨gb, cb, _, h0, _⟩
      · omega
      · exact ⟨gb, cb, h0⟩
    have OB : Own W w1.heap.size W.heap.size 2 1 (some ⟨gb, 0, none⟩) q cb (ints bs) := ⟨hrow, fun g hg => (hrow.lt g hg).2⟩
    obtain ⟨hcb1, hcb2⟩ := o1cap OB
    simp only [maxLen] at hcb2
    have hgb : gb < W.heap.size := (OB.lt gb rfl).2.2
    have hvl := hv.lt
    have hvc := hv.cell
    obtain ⟨x0, hx0⟩ : ∃ x, bs[0]? = some x := ⟨_, List.getElem?_eq_getElem (by omega)⟩
    obtain ⟨x1, hx1⟩ : ∃ x, bs[1]? = some x := ⟨_, List.getElem?_eq_getElem (by omega)⟩
    have e0 := OB.row.get_ hx0
    have e1 := OB.row.get_ hx1
    rw [Nat.zero_add] at e0 e1
    have HPT := Lib.hid (show partL bs = (x0, x1, (bs.drop 2).take (q - 4)) by rw [partL, hx0, hx1, hbl]; rfl)
    have RP0 := (OB.row.piece (c := cb) (i := 2) (m := q - 4) (by omega))
    rw [Nat.zero_add] at RP0
    have HRP := Lib.hid (fun (W' : World) (h : Below W.heap.size W W') => RP0.below h (Nat.le_refl _))
    have HBD := Lib.hid (fun (k : Nat) (x : Int) (hk : bs[k]? = some x) => unbits_bd HSM.out q x (by rw [← HBS.out]; exact List.mem_of_getElem? hk))
    have hpl : ((bs.drop 2).take (q - 4)).length = q - 4 := by rw [List.length_take, List.length_drop]; omega
    generalize (bs.drop 2).take (q - 4) = pl at *
    have HPL := Lib.hid hpl
    have HKP := Lib.hid (show ∀ W', Below W.heap.size W W' → W'.cell? ⟨w1.heap.size, 0, none⟩ = some (.slice (some ⟨gb, 0, none⟩) q cb) ∧ W'.cell? ⟨gb, 0, none⟩ = some (.int .i64 x0) ∧ W'.cell? ⟨gb, 1, none⟩ = some (.int .i64 x1) from fun W' h => ⟨(h.cell (p := ⟨w1.heap.size, 0, none⟩) hvl).trans hvc, (h.cell (p := ⟨gb, 0, none⟩) hgb).trans e0, (h.cell (p := ⟨gb, 1, none⟩) hgb).trans e1⟩)
    have g1 : (q : Int) - 2 ≤ (cb : Int) := by omega
    have g2 : ((q : Int) - 2).toNat = q - 2 := by omega
    have g3 : (2 : Int) ≤ (q : Int) - 2 := by omega
    have g4 : ¬ cb = 2 := by omega
    have g6 : (0 : Int) ≤ (q : Int) - 2 := by omega
    have g7 : q - 2 - 2 = q - 4 := by omega
    have g8 : (0 : Int) < (q : Int) := by omega
    have g8n : 0 < q := by omega
    have gw : IntKind.i64.wrap ((q : Int) - 2) = (q : Int) - 2 := by rw [IntKind.wrap_i64]; omega
    have g9 : (1 : Int) < (q : Int) := by omega
    have HKD := Lib.hid hK
    have hwW := Lib.hid (show w.heap.size + 1 ≤ W.heap.size by have := (Array.getElem?_eq_some_iff.1 hK).1; omega)
    have HKB := Lib.hid (show Below w.heap.size w W from B1.trans (hB.mono B1.size))
    have HX1 := Lib.hid (X1.out.below hB (Nat.le_refl _))
    have HK1 := Lib.hid (K1.out.below hB K1.out.lt)
    clear hrow OB hx0 hx1 RP0 hbl hpl hK hB hv R1 bO bS bN bL HsL HM8 HSM
    go_wp2_with fail
    go_region_held3 (fun w' => w'.cell? ⟨w1.heap.size, 0, none⟩ = some (.slice (some ⟨gb, 0, none⟩) q cb) ∧ w'.cell? ⟨gb, 0, none⟩ = some (.int .i64 x0) ∧ w'.cell? ⟨gb, 1, none⟩ = some (.int .i64 x1)) (first | exact ⟨hvc, e0, e1⟩ | exact HKP.out _ BC | exact HKP.out _ (BC.alloc BCs _) | exact HKP.out _ (by go_grown) | go_keep) (first | (go_at_call 83; refine (clone_any _ _ _ pl _ (HRP.out _ (by go_grown)) (by omega)).mono ?_; rintro e wC ⟨aC, cC, rfl, OC, bC⟩; have BC := below_then (show Below W.heap.size W _ by go_grown) bC (by simp); have BCs := BC.size; (first | (have KB : Blk wC W.heap.size 28 #[.int .i64 0, .int .i64 0, .slice none 0 0] := Blk.belowSelf (by exact Blk.new' _ _ _ (by simp)) bC; have u0 : wC.cell? ⟨W.heap.size, 0, none⟩ = some (.int .i64 0) := KB.cell 0; have u1 : wC.cell? ⟨W.heap.size, 1, none⟩ = some (.int .i64 0) := KB.cell 1; have u2 : wC.cell? ⟨W.heap.size, 2, none⟩ = some (.slice none 0 0) := KB.cell 2; have f0 := KB.frozen 0; have f1 := KB.frozen 1; have f2 := KB.frozen 2) | skip)))
    all_goals
      clear hvc e0 e1 g1 g2 g3 g4 g6 g7 g8 g8n g9 gw
      first
        | (have KF1 : Blk (((wC.setCell ⟨W.heap.size, 0, none⟩ (.int .i64 x0)).setCell ⟨W.heap.size, 1, none⟩ (.int .i64 x1)).setCell ⟨W.heap.size, 2, none⟩ (.slice aC (q - 4) cC)) W.heap.size 28 #[.int .i64 x0, .int .i64 x1, .slice aC (q - 4) cC] := ((KB.set_ 0 (.int .i64 x0)).set_ 1 (.int .i64 x1)).set_ 2 (.slice aC (q - 4) cC)
           have BF1 : Below W.heap.size W (((wC.setCell ⟨W.heap.size, 0, none⟩ (.int .i64 x0)).setCell ⟨W.heap.size, 1, none⟩ (.int .i64 x1)).setCell ⟨W.heap.size, 2, none⟩ (.slice aC (q - 4) cC)) := ((BC.setCell (p := ⟨W.heap.size, 0, none⟩) (Nat.le_refl _) _).setCell (p := ⟨W.heap.size, 1, none⟩) (Nat.le_refl _) _).setCell (p := ⟨W.heap.size, 2, none⟩) (Nat.le_refl _) _
           have OF1 : Own (((wC.setCell ⟨W.heap.size, 0, none⟩ (.int .i64 x0)).setCell ⟨W.heap.size, 1, none⟩ (.int .i64 x1)).setCell ⟨W.heap.size, 2, none⟩ (.slice aC (q - 4) cC)) W.heap.size (((wC.setCell ⟨W.heap.size, 0, none⟩ (.int .i64 x0)).setCell ⟨W.heap.size, 1, none⟩ (.int .i64 x1)).setCell ⟨W.heap.size, 2, none⟩ (.slice aC (q - 4) cC)).heap.size 2 1 aC (q - 4) cC (ints pl) := (((OC.setFar (p := ⟨W.heap.size, 0, none⟩) (.inl (by simp)) _).setFar (p := ⟨W.heap.size, 1, none⟩) (.inl (by simp)) _).setFar (p := ⟨W.heap.size, 2, none⟩) (.inl (by simp)) _).leave.mono (by simp) (Nat.le_refl _)
           obtain ⟨W2, hW2⟩ : ∃ W2, ((wC.setCell ⟨W.heap.size, 0, none⟩ (.int .i64 x0)).setCell ⟨W.heap.size, 1, none⟩ (.int .i64 x1)).setCell ⟨W.heap.size, 2, none⟩ (.slice aC (q - 4) cC) = W2 := ⟨_, rfl⟩
           obtain ⟨fB, hfB⟩ : ∃ fB, W.heap.size = fB := ⟨_, rfl⟩
           have hfB1 : W.heap.size ≤ fB := by omega
           rw [hW2] at KF1 BF1 OF1
           rw [hfB] at KF1
           rw [hW2, hfB]
           clear hW2 hfB KB u0 u1 u2 f0 f1 f2 OC bC BC)
        | (have KF1 := Blk.new wC 28 #[.int .i64 x0, .int .i64 x1, .slice aC (q - 4) cC]
           have BF1 : Below W.heap.size W (wC.alloc (.cells #[.int .i64 x0, .int .i64 x1, .slice aC (q - 4) cC] 28)) := BC.alloc BCs _
           have OF1 : Own (wC.alloc (.cells #[.int .i64 x0, .int .i64 x1, .slice aC (q - 4) cC] 28)) W.heap.size (wC.alloc (.cells #[.int .i64 x0, .int .i64 x1, .slice aC (q - 4) cC] 28)).heap.size 2 1 aC (q - 4) cC (ints pl) := (OC.alloc _).leave.mono (by simp) (Nat.le_refl _)
           obtain ⟨W2, hW2⟩ : ∃ W2, wC.alloc (.cells #[.int .i64 x0, .int .i64 x1, .slice aC (q - 4) cC] 28) = W2 := ⟨_, rfl⟩
           obtain ⟨fB, hfB⟩ : ∃ fB, wC.heap.size = fB := ⟨_, rfl⟩
           have hfB1 : W.heap.size ≤ fB := by omega
           rw [hW2] at KF1 BF1 OF1
           rw [hfB] at KF1
           rw [hW2, hfB]
           clear hW2 hfB OC bC BC)
      clear BCs
      have HDL := Lib.hid (show D < W.heap.size from (Array.getElem?_eq_some_iff.1 HKD.out).1)
      have KF := Lib.hid KF1
      have OF := Lib.hid OF1
      have BF := Lib.hid BF1
      have rF := OF.out.row
      have kl := KF.out.lt
      have k0 : W2.cell? ⟨fB, 0, none⟩ = some (.int .i64 x0) := KF.out.cell 0
      have k1 : W2.cell? ⟨fB, 1, none⟩ = some (.int .i64 x1) := KF.out.cell 1
      have k2 : W2.cell? ⟨fB, 2, none⟩ = some (.slice aC (q - 4) cC) := KF.out.cell 2
      clear KF1 OF1 BF1
      go_wp2_with fail
      go_at_call 34
      refine (isFrame_impl _ _ _ _ _ _ _ rF (by omega)).mono ?_
      rintro e W3 ⟨rfl, b3⟩
      replace KF := Lib.hid (KF.out.belowSelf b3)
      replace OF := Lib.hid (OF.out.below b3 (.inr (Nat.le_refl _))).leave
      replace BF := Lib.hid (BF.out.trans (b3.mono BF.out.size))
      clear b3 rF kl k0 k1 k2
      cases hfk : frameOk x0 x1 pl
      · have HRD := Lib.hid (show readL xs = none by rw [HR.out, if_neg (by rw [HPT.out]; simp [okL, hfk])])
        have HKd := Lib.hid ((BF.out.block D HDL.out).trans HKD.out)
        have HZ := Lib.hid (HK1.out.below BF.out HK1.out.lt)
        have HBW := Lib.hid (HKB.out.trans (BF.out.mono HKB.out.size))
        have HF := Lib.hid (fun W4 e4 => read_fin (k := 0) (m := 0) (a := none) (n := 0) (c := 0) (ys := []) HKd.out HZ.out rfl HBW.out hwD (Own.nil_ _ _ _ _ _) (W4 := W4) e4)
        have q0 : W3.cell? ⟨w.heap.size, 0, none⟩ = some (.int .i64 0) := HZ.out.cell 0
        have q1 : W3.cell? ⟨w.heap.size, 1, none⟩ = some (.int .i64 0) := HZ.out.cell 1
        have q2 : W3.cell? ⟨w.heap.size, 2, none⟩ = some (.slice none 0 0) := HZ.out.cell 2
        have f0 := HZ.out.frozen 0
        have f1 := HZ.out.frozen 1
        have f2 := HZ.out.frozen 2
        have hzl := HZ.out.lt
        go_wp2
        obtain ⟨hk4, z0, z1, z2, ho, hb⟩ := HF.out _ rfl
        refine ⟨by simp, .inl ⟨_, _, rfl, run_takeDeferred hk4, ?_⟩⟩
        refine ⟨.tuple #[.agg #[.int .i64 (0), .int .i64 (0), .slice none 0 0], .bool false], by simp only [results, Try.results49, Array.size]; simp [go_sem, z0, z1, z2], 0, 0, none, 0, 0, [], ?_, ho, hb, ?_, by omega⟩
        · rw [HRD.out]; rfl
        · intro f hf; rw [HRD.out] at hf; cases hf
      · have HFK := Lib.hid hfk
        have rF := OF.out.row
        have kl := KF.out.lt
        have k0 : W3.cell? ⟨fB, 0, none⟩ = some (.int .i64 x0) := KF.out.cell 0
        have k1 : W3.cell? ⟨fB, 1, none⟩ = some (.int .i64 x1) := KF.out.cell 1
        have k2 : W3.cell? ⟨fB, 2, none⟩ = some (.slice aC (q - 4) cC) := KF.out.cell 2
        go_wp2_with fail
        go_at_call 45
        refine (frame_impl _ _ _ _ _ _ _ rF hfk).mono ?_
        rintro e W5 ⟨a8, n8, c8, rfl, O8, b5⟩
        replace KF := Lib.hid (KF.out.belowSelf b5)
        replace OF := Lib.hid (OF.out.below b5 (.inr (Nat.le_refl _))).leave
        replace BF := Lib.hid (BF.out.trans (b5.mono BF.out.size))
        have hn8 : n8 ≤ 1048576 := by have := O8.row.len; have := frameL_le (k := x0) (m := x1) (frameOk_len HFK.out); omega
        have r8 := O8.row
        have rX := HX1.out.below BF.out (Nat.le_refl _)
        clear b5 rF kl k0 k1 k2 O8
        go_wp2_with fail
        go_at_call 84
        refine (equal_any _ _ _ _ _ _ _ _ _ r8 rX hn8).mono ?_
        rintro e W6 ⟨rfl, b6⟩
        replace KF := Lib.hid (KF.out.belowSelf b6)
        replace OF := Lib.hid (OF.out.below b6 (.inr (Nat.le_refl _))).leave
        replace BF := Lib.hid (BF.out.trans (b6.mono BF.out.size))
        clear b6 r8 rX hfk
        have HKd := Lib.hid ((BF.out.block D HDL.out).trans HKD.out)
        have HZ := Lib.hid (HK1.out.below BF.out HK1.out.lt)
        have HBW := Lib.hid (HKB.out.trans (BF.out.mono HKB.out.size))
        cases heq : decide (frameL x0 x1 pl = xs)
        · have HRD := Lib.hid (show readL xs = none by rw [HR.out, if_neg (by rw [HPT.out]; simp only [okL, heq]; simp)])
          have HF := Lib.hid (fun W4 e4 => read_fin (k := 0) (m := 0) (a := none) (n := 0) (c := 0) (ys := []) HKd.out HZ.out rfl HBW.out hwD (Own.nil_ _ _ _ _ _) (W4 := W4) e4)
          have q0 : W6.cell? ⟨w.heap.size, 0, none⟩ = some (.int .i64 0) := HZ.out.cell 0
          have q1 : W6.cell? ⟨w.heap.size, 1, none⟩ = some (.int .i64 0) := HZ.out.cell 1
          have q2 : W6.cell? ⟨w.heap.size, 2, none⟩ = some (.slice none 0 0) := HZ.out.cell 2
          have f0 := HZ.out.frozen 0
          have f1 := HZ.out.frozen 1
          have f2 := HZ.out.frozen 2
          have hzl := HZ.out.lt
          go_wp2
          obtain ⟨hk4, z0, z1, z2, ho, hb⟩ := HF.out _ rfl
          refine ⟨by simp, .inl ⟨_, _, rfl, run_takeDeferred hk4, ?_⟩⟩
          refine ⟨.tuple #[.agg #[.int .i64 (0), .int .i64 (0), .slice none 0 0], .bool false], by simp only [results, Try.results49, Array.size]; simp [go_sem, z0, z1, z2], 0, 0, none, 0, 0, [], ?_, ho, hb, ?_, by omega⟩
          · rw [HRD.out]; rfl
          · intro f hf; rw [HRD.out] at hf; cases hf
        · have HRD := Lib.hid (show readL xs = some (x0, x1, pl) by rw [HR.out, if_pos (by rw [HPT.out]; simp only [okL, heq, HFK.out]; rfl), HPT.out])
          have kl := KF.out.lt
          have k0 : W6.cell? ⟨fB, 0, none⟩ = some (.int .i64 x0) := KF.out.cell 0
          have k1 : W6.cell? ⟨fB, 1, none⟩ = some (.int .i64 x1) := KF.out.cell 1
          have k2 : W6.cell? ⟨fB, 2, none⟩ = some (.slice aC (q - 4) cC) := KF.out.cell 2
          have HF := Lib.hid (fun W4 e4 => read_fin (k := x0) (m := x1) (a := aC) (n := (q - 4)) (c := cC) (ys := pl) HKd.out HZ.out rfl HBW.out hwD (OF.out.mono (by have := B1.size; have := hwW.out; omega) (Nat.le_refl _)) (W4 := W4) e4)
          have q0 : W6.cell? ⟨w.heap.size, 0, none⟩ = some (.int .i64 0) := HZ.out.cell 0
          have q1 : W6.cell? ⟨w.heap.size, 1, none⟩ = some (.int .i64 0) := HZ.out.cell 1
          have q2 : W6.cell? ⟨w.heap.size, 2, none⟩ = some (.slice none 0 0) := HZ.out.cell 2
          have f0 := HZ.out.frozen 0
          have f1 := HZ.out.frozen 1
          have f2 := HZ.out.frozen 2
          have hzl := HZ.out.lt
          go_wp2
          obtain ⟨hk4, z0, z1, z2, ho, hb⟩ := HF.out _ rfl
          refine ⟨by simp, .inl ⟨_, _, rfl, run_takeDeferred hk4, ?_⟩⟩
          refine ⟨.tuple #[.agg #[.int .i64 (x0), .int .i64 (x1), .slice aC (q - 4) cC], .bool true], by simp only [results, Try.results49, Array.size]; simp [go_sem, z0, z1, z2], x0, x1, aC, (q - 4), cC, pl, ?_, ho, hb, ?_, by omega⟩
          · rw [HRD.out]; rfl
          · intro f hf; rw [HRD.out] at hf; injection hf with hf; exact hf.symm
  case stop =>
    rintro D c pre W _ _ h _
    exact h.elim
end Go.Proofs.Ytmljcbfpennjkaa
