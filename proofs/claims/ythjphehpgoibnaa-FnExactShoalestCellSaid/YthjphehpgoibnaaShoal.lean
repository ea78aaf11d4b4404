/- The shoalest cell, by both programs. -/
import Derived.Test.YthjphehpgoibnaaCell
namespace Go.Proofs.Ythjphehpgoibnaa
open Go.RowKit
set_option maxRecDepth 100000
set_option linter.unusedVariables false

/-- The best so far: its index and its lower bound. -/
def shoal : Nat → Option (Nat × Int) → List Int → List (Int × Int) → Option (Nat × Int)
  | k, best, c :: t, d :: u => shoal (k + 1) (if c = 0 then best else match best with | none => some (k, d.1) | some (j, l) => if d.1 < l then some (k, d.1) else some (j, l)) t u
  | _, best, _, _ => best
def shoalestCell (s x y : Int) (cs : List Int) (ds : List (Int × Int)) : Int × Int :=
  if !(gridOk s x y cs ds) then (0, 1) else match shoal 0 none cs ds with | none => (0, 4) | some (k, _) => (k, 0)
theorem shoalestCell_no {s x y : Int} {cs : List Int} {ds : List (Int × Int)} (h : gridOk s x y cs ds = false) : shoalestCell s x y cs ds = (0, 1) := by simp [shoalestCell, h]
theorem shoalestCell_none {s x y : Int} {cs : List Int} {ds : List (Int × Int)} (h : gridOk s x y cs ds = true) (h2 : shoal 0 none cs ds = none) : shoalestCell s x y cs ds = (0, 4) := by simp [shoalestCell, h, h2]
theorem shoalestCell_yes {s x y : Int} {cs : List Int} {ds : List (Int × Int)} {k : Nat} {l : Int} (h : gridOk s x y cs ds = true) (h2 : shoal 0 none cs ds = some (k, l)) : shoalestCell s x y cs ds = ((k : Int), 0) := by simp [shoalestCell, h, h2]

/-- 'b' is what both programs hold: -1, or the best index. -/
def ShInv (cs : List Int) (ds : List (Int × Int)) (k : Nat) (b : Int) : Prop :=
  (b = -1 ∧ shoal k none (cs.drop k) (ds.drop k) = shoal 0 none cs ds) ∨
  ∃ (j : Nat) (lo hi : Int), b = j ∧ j < k ∧ ds[j]? = some (lo, hi) ∧ shoal k (some (j, lo)) (cs.drop k) (ds.drop k) = shoal 0 none cs ds
theorem ShInv.start (cs : List Int) (ds : List (Int × Int)) : ShInv cs ds 0 (-1) := .inl ⟨rfl, rfl⟩
theorem ShInv.skip {cs : List Int} {ds : List (Int × Int)} {k : Nat} {b : Int} {d : Int × Int} (h : ShInv cs ds k b) (hc : cs[k]? = some 0) (hd : ds[k]? = some d) : ShInv cs ds (k + 1) b := by
  rcases h with ⟨h1, h2⟩ | ⟨j, lo, hi, h1, h2, h3, h4⟩
  · refine .inl ⟨h1, ?_⟩
    rw [← h2, drop_at hc, drop_at hd, shoal, if_pos rfl]
  · refine .inr ⟨j, lo, hi, h1, by omega, h3, ?_⟩
    rw [← h4, drop_at hc, drop_at hd, shoal, if_pos rfl]
theorem ShInv.first {cs : List Int} {ds : List (Int × Int)} {k : Nat} {c lo hi : Int} (h : ShInv cs ds k (-1)) (hc : cs[k]? = some c) (hd : ds[k]? = some (lo, hi)) (h0 : c ≠ 0) : ShInv cs ds (k + 1) k := by
  rcases h with ⟨h1, h2⟩ | ⟨j, lo', hi', h1, h2, h3, h4⟩
  · refine .inr ⟨k, lo, hi, rfl, by omega, hd, ?_⟩
    rw [← h2, drop_at hc, drop_at hd, shoal, if_neg h0]
  · omega
theorem ShInv.less {cs : List Int} {ds : List (Int × Int)} {k j : Nat} {c lo hi l u : Int} (h : ShInv cs ds k j) (hc : cs[k]? = some c) (hd : ds[k]? = some (lo, hi)) (hj : ds[j]? = some (l, u)) (h0 : c ≠ 0) (hl : lo < l) : ShInv cs ds (k + 1) k := by
  rcases h with ⟨h1, h2⟩ | ⟨j', lo', hi', h1, h2, h3, h4⟩
  · omega
  · obtain rfl : j = j' := by omega
    rw [hj] at h3
    injection h3 with h3
    injection h3 with h3 _
    subst h3
    refine .inr ⟨k, lo, hi, rfl, by omega, hd, ?_⟩
    rw [← h4, drop_at hc, drop_at hd, shoal, if_neg h0]
    simp only [hl, if_true]
theorem ShInv.more {cs : List Int} {ds : List (Int × Int)} {k j : Nat} {c lo hi l u : Int} (h : ShInv cs ds k j) (hc : cs[k]? = some c) (hd : ds[k]? = some (lo, hi)) (hj : ds[j]? = some (l, u)) (h0 : c ≠ 0) (hl : ¬ lo < l) : ShInv cs ds (k + 1) j := by
  rcases h with ⟨h1, h2⟩ | ⟨j', lo', hi', h1, h2, h3, h4⟩
  · omega
  · obtain rfl : j = j' := by omega
    rw [hj] at h3
    injection h3 with h3
    injection h3 with h3 _
    subst h3
    refine .inr ⟨j, l, u, rfl, by omega, hj, ?_⟩
    rw [← h4, drop_at hc, drop_at hd, shoal, if_neg h0]
    simp only [hl, if_false]
theorem ShInv.split {cs : List Int} {ds : List (Int × Int)} {k : Nat} {b : Int} (h : ShInv cs ds k b) : b = -1 ∨ ∃ j : Nat, b = j ∧ j < k := by
  rcases h with ⟨h1, _⟩ | ⟨j, _, _, h1, h2, _⟩
  · exact .inl h1
  · exact .inr ⟨j, h1, h2⟩
theorem ShInv.done_none {cs : List Int} {ds : List (Int × Int)} {k n : Nat} (h : ShInv cs ds k (-1)) (hl : cs.length = n) (hk : ¬ k < n) : shoal 0 none cs ds = none := by
  rcases h with ⟨_, h2⟩ | ⟨j, _, _, h1, _⟩
  · rw [← h2, List.drop_of_length_le (by omega)]; simp [shoal]
  · omega
theorem ShInv.done_some {cs : List Int} {ds : List (Int × Int)} {k n j : Nat} (h : ShInv cs ds k j) (hl : cs.length = n) (hk : ¬ k < n) : ∃ l, shoal 0 none cs ds = some (j, l) := by
  rcases h with ⟨h1, _⟩ | ⟨j', lo, _, h1, _, _, h4⟩
  · omega
  · obtain rfl : j = j' := by omega
    refine ⟨lo, ?_⟩
    rw [← h4, List.drop_of_length_le (by omega)]; simp [shoal]

set_option maxHeartbeats 3200000 in
theorem shoalestCell_spec (s x y : Int) (a b : Option Addr) (n c m d : Nat) (xs : List Int) (ds : List (Int × Int)) (w : World) (h : Row w 1 a n (ints xs)) (hd : Row w 2 b m (prs ds)) (hn : n ≤ 1048576) (hm : m ≤ 1048576) :
    Calls Try.prog 15 #[.agg #[.int .i64 s, .int .i64 x, .int .i64 y, .slice a n c, .slice b m d]] w fun e w' => e = .returned (.tuple #[.int .i64 (shoalestCell s x y xs ds).1, .int .i64 (shoalestCell s x y xs ds).2]) ∧ Below w.heap.size w w' := by
  have h1 := h.alloc (.cells #[.int .i64 s, .int .i64 x, .int .i64 y, .slice a n c, .slice b m d] 30)
  have d1 := hd.alloc2 (.cells #[.int .i64 s, .int .i64 x, .int .i64 y, .slice a n c, .slice b m d] 30)
  have B : Below w.heap.size w (w.alloc (.cells #[.int .i64 s, .int .i64 x, .int .i64 y, .slice a n c, .slice b m d] 30)) := (Below.refl _ _).alloc (Nat.le_refl _) _
  have K := Lib.hid (Blk.new w 30 #[.int .i64 s, .int .i64 x, .int .i64 y, .slice a n c, .slice b m d])
  cases hg : gridOk s x y xs ds
  · rw [shoalestCell_no hg]
    go_enter Try.func15, Try.ntmps15
    go_wp2_with (go_at_call 11; refine (isDepthGrid_spec _ _ _ _ _ _ _ _ _ _ _ _ h1 d1 hn hm).mono ?_; rintro e w' ⟨rfl, hb⟩)
    go_ret2
    exact ⟨rfl, B.trans (hb.mono B.size)⟩
  obtain ⟨-, -, hml, -⟩ := gridOk_shape hg
  obtain rfl : m = n := by have := h.len; have := hd.len2; omega
  have hxl := h.len
  generalize hres : shoalestCell s x y xs ds = res
  replace hres := Lib.hid hres
  go_enter Try.func15, Try.ntmps15
  go_wp2_with fail
  go_at_call 11
  refine (isDepthGrid_spec _ _ _ _ _ _ _ _ _ _ _ _ h1 d1 hn hm).mono ?_
  rintro e w2 ⟨rfl, hb⟩
  have B2 := B.trans (hb.mono B.size)
  have K2 := Lib.hid (K.out.belowSelf hb)
  clear hb h1 d1 B K
  rw [hg]
  replace hg := Lib.hid hg
  go_wp2
  go_loopw [4, 5] (fun p i wr => ∃ (k : Nat) (bst : Int), k ≤ m ∧ i = .int .i64 k ∧ p = .int .i64 bst ∧ -1 ≤ bst ∧ bst ≤ m ∧ Hid (ShInv xs ds k bst) ∧ Below w.heap.size w wr ∧ Blk wr w.heap.size 30 #[.int .i64 s, .int .i64 x, .int .i64 y, .slice a m c, .slice b m d]) (fun _ i _ => m - (intOf i).toNat)
  case atStart => exact ⟨0, -1, Nat.zero_le _, rfl, rfl, by omega, by omega, ShInv.start _ _, B2, K2.out⟩
  case round =>
    obtain ⟨k, bst, hk, rfl, rfl, hb0, hb1, hinv, hbel, hblk⟩ := hrel
    have j3 : wr.cell? ⟨w.heap.size, 3, none⟩ = some (.slice a m c) := hblk.cell 3
    have j4 : wr.cell? ⟨w.heap.size, 4, none⟩ = some (.slice b m d) := hblk.cell 4
    have hsz := hblk.lt
    by_cases hlt : k < m
    · obtain ⟨b1, off1, cc, rfl, hc, hx⟩ := (h.below hbel (Nat.le_refl _)).at_ hlt
      have hdr := hd.below2 hbel (Nat.le_refl _)
      obtain ⟨b2, off2, lo, hi, rfl, hc0, hc1, hy⟩ := hdr.at2 hlt
      have hi' : (k : Int) < (m : Int) := by omega
      by_cases t0 : cc = 0
      · subst t0
        have hst := Lib.hid (hinv.out.skip hx.out hy.out)
        clear hinv
        go_wp2_with fail
        go_quiet (fail)
        go_wp2
        go_roundw
        case rel => exact ⟨k + 1, bst, by omega, by go_num, rfl, by omega, by omega, hst.out, bdn hbel _, hblk.drewN _⟩
        case measure => simp [intOf]; omega
      have t01 : (cc == 0) = false := by simpa using t0
      have t02 : (cc != 0) = true := by simpa using t0
      rcases hinv.out.split with rfl | ⟨j, rfl, hjk⟩
      · have hst := Lib.hid (hinv.out.first hx.out hy.out t0)
        clear hinv
        go_wp2_with fail
        go_quiet (fail)
        go_wp2
        go_roundw
        case rel => exact ⟨k + 1, k, by omega, by go_num, rfl, by omega, by omega, hst.out, bdn hbel _, hblk.drewN _⟩
        case measure => simp [intOf]; omega
      · obtain ⟨b3, off3, l, u, e3, hd0, hd1, hz⟩ := hdr.at2 (show j < m by omega)
        injection e3 with e3
        injection e3 with e3 e4 _
        subst e3; subst e4
        have hjm : (j : Int) < (m : Int) := by omega
        have hj0 : ¬ (j : Int) < 0 := by omega
        by_cases t1 : lo < l
        · have hst := Lib.hid (hinv.out.less hx.out hy.out hz.out t0 t1)
          clear hinv
          go_wp2_with fail
          go_quiet (fail)
          go_wp2
          go_roundw
          case rel => exact ⟨k + 1, k, by omega, by go_num, rfl, by omega, by omega, hst.out, bdn hbel _, hblk.drewN _⟩
          case measure => simp [intOf]; omega
        · have hst := Lib.hid (hinv.out.more hx.out hy.out hz.out t0 t1)
          clear hinv
          go_wp2_with fail
          go_quiet (fail)
          go_wp2
          go_roundw
          case rel => exact ⟨k + 1, j, by omega, by go_num, rfl, by omega, by omega, hst.out, bdn hbel _, hblk.drewN _⟩
          case measure => simp [intOf]; omega
    · rcases hinv.out.split with rfl | ⟨j, rfl, hjk⟩
      · have hr := shoalestCell_none hg.out (hinv.out.done_none hxl hlt)
        replace hr := Lib.hid (hres.out.symm.trans hr)
        go_wp2
        go_ret2
        exact ⟨by rw [hr.out]; rfl, hbel⟩
      · obtain ⟨l, hl⟩ := hinv.out.done_some hxl hlt
        have hr := shoalestCell_yes hg.out hl
        replace hr := Lib.hid (hres.out.symm.trans hr)
        have hj0 : ¬ (j : Int) < 0 := by omega
        go_wp2
        go_ret2
        exact ⟨by rw [hr.out]; rfl, hbel⟩

set_option maxHeartbeats 3200000 in
theorem shoalestCell_impl (s x y : Int) (a b : Option Addr) (n c m d : Nat) (xs : List Int) (ds : List (Int × Int)) (w : World) (h : Row w 1 a n (ints xs)) (hd : Row w 2 b m (prs ds)) (hn : n ≤ 1048576) (hm : m ≤ 1048576) :
    Calls Try.prog 16 #[.agg #[.int .i64 s, .int .i64 x, .int .i64 y, .slice a n c, .slice b m d]] w fun e w' => e = .returned (.tuple #[.int .i64 (shoalestCell s x y xs ds).1, .int .i64 (shoalestCell s x y xs ds).2]) ∧ Below w.heap.size w w' := by
  have h1 := h.alloc (.cells #[.int .i64 s, .int .i64 x, .int .i64 y, .slice a n c, .slice b m d] 30)
  have d1 := hd.alloc2 (.cells #[.int .i64 s, .int .i64 x, .int .i64 y, .slice a n c, .slice b m d] 30)
  have B : Below w.heap.size w (w.alloc (.cells #[.int .i64 s, .int .i64 x, .int .i64 y, .slice a n c, .slice b m d] 30)) := (Below.refl _ _).alloc (Nat.le_refl _) _
  have K := Lib.hid (Blk.new w 30 #[.int .i64 s, .int .i64 x, .int .i64 y, .slice a n c, .slice b m d])
  cases hg : gridOk s x y xs ds
  · rw [shoalestCell_no hg]
    go_enter Try.func16, Try.ntmps16
    go_wp2_with (go_at_call 13; refine (isDepthGrid_impl _ _ _ _ _ _ _ _ _ _ _ _ h1 d1 hn hm).mono ?_; rintro e w' ⟨rfl, hb⟩)
    go_ret2
    exact ⟨rfl, B.trans (hb.mono B.size)⟩
  obtain ⟨-, -, hml, -⟩ := gridOk_shape hg
  obtain rfl : m = n := by have := h.len; have := hd.len2; omega
  have hxl := h.len
  generalize hres : shoalestCell s x y xs ds = res
  replace hres := Lib.hid hres
  go_enter Try.func16, Try.ntmps16
  go_wp2_with fail
  go_at_call 13
  refine (isDepthGrid_impl _ _ _ _ _ _ _ _ _ _ _ _ h1 d1 hn hm).mono ?_
  rintro e w2 ⟨rfl, hb⟩
  have B2 := B.trans (hb.mono B.size)
  have K2 := Lib.hid (K.out.belowSelf hb)
  clear hb h1 d1 B K
  rw [hg]
  replace hg := Lib.hid hg
  have k3 : w2.cell? ⟨w.heap.size, 3, none⟩ = some (.slice a m c) := K2.out.cell 3
  have k4 : w2.cell? ⟨w.heap.size, 4, none⟩ = some (.slice b m d) := K2.out.cell 4
  go_wp2
  clear k3 k4
  go_loopw [4, 13] (fun p i wr => ∃ (k : Nat) (bst : Int), k ≤ m ∧ i = .int .i64 k ∧ p = .int .i64 bst ∧ -1 ≤ bst ∧ bst ≤ m ∧ Hid (ShInv xs ds k bst) ∧ Below w.heap.size w wr ∧ Blk wr w.heap.size 30 #[.int .i64 s, .int .i64 x, .int .i64 y, .slice a m c, .slice b m d]) (fun _ i _ => m - (intOf i).toNat)
  case atStart => exact ⟨0, -1, Nat.zero_le _, rfl, rfl, by omega, by omega, ShInv.start _ _, B2, K2.out⟩
  case round =>
    obtain ⟨k, bst, hk, rfl, rfl, hb0, hb1, hinv, hbel, hblk⟩ := hrel
    have j3 : wr.cell? ⟨w.heap.size, 3, none⟩ = some (.slice a m c) := hblk.cell 3
    have j4 : wr.cell? ⟨w.heap.size, 4, none⟩ = some (.slice b m d) := hblk.cell 4
    have hsz := hblk.lt
    by_cases hlt : k < m
    · obtain ⟨b1, off1, cc, rfl, hc, hx⟩ := (h.below hbel (Nat.le_refl _)).at_ hlt
      have hdr := hd.below2 hbel (Nat.le_refl _)
      obtain ⟨b2, off2, lo, hi, rfl, hc0, hc1, hy⟩ := hdr.at2 hlt
      have hi' : (k : Int) < (m : Int) := by omega
      by_cases t0 : cc = 0
      · subst t0
        have hst := Lib.hid (hinv.out.skip hx.out hy.out)
        clear hinv
        go_wp2_with fail
        obtain ⟨wa, hwa⟩ : ∃ wa, wr.alloc (.cells #[.int .i64 lo, .int .i64 hi] 39) = wa := ⟨_, rfl⟩
        rw [hwa]
        have hbela : Below w.heap.size w wa := hwa ▸ hbel.alloc hbel.size _
        have hblka : Blk wa w.heap.size 30 _ := hwa ▸ hblk.alloc _
        have n0 : wa.cell? ⟨wr.heap.size, 0, none⟩ = some (.int .i64 lo) := hwa ▸ (Blk.new wr 39 #[.int .i64 lo, .int .i64 hi]).cell 0
        have n3 : wa.cell? ⟨w.heap.size, 3, none⟩ = some (.slice _ m c) := hblka.cell 3
        have n4 : wa.cell? ⟨w.heap.size, 4, none⟩ = some (.slice _ m d) := hblka.cell 4
        have nc := (h.below hbela (Nat.le_refl _)).get_ hx.out
        clear hwa j3 j4 hc hc0 hc1
        go_quiet (fail)
        go_wp2
        go_roundw
        case rel => exact ⟨k + 1, bst, by omega, by go_num, rfl, by omega, by omega, hst.out, bdn hbela _, hblka.drewN _⟩
        case measure => simp [intOf]; omega
      have t01 : (cc == 0) = false := by simpa using t0
      have t02 : (cc != 0) = true := by simpa using t0
      rcases hinv.out.split with rfl | ⟨j, rfl, hjk⟩
      · have hst := Lib.hid (hinv.out.first hx.out hy.out t0)
        clear hinv
        go_wp2_with fail
        obtain ⟨wa, hwa⟩ : ∃ wa, wr.alloc (.cells #[.int .i64 lo, .int .i64 hi] 39) = wa := ⟨_, rfl⟩
        rw [hwa]
        have hbela : Below w.heap.size w wa := hwa ▸ hbel.alloc hbel.size _
        have hblka : Blk wa w.heap.size 30 _ := hwa ▸ hblk.alloc _
        have n0 : wa.cell? ⟨wr.heap.size, 0, none⟩ = some (.int .i64 lo) := hwa ▸ (Blk.new wr 39 #[.int .i64 lo, .int .i64 hi]).cell 0
        have n3 : wa.cell? ⟨w.heap.size, 3, none⟩ = some (.slice _ m c) := hblka.cell 3
        have n4 : wa.cell? ⟨w.heap.size, 4, none⟩ = some (.slice _ m d) := hblka.cell 4
        have nc := (h.below hbela (Nat.le_refl _)).get_ hx.out
        clear hwa j3 j4 hc hc0 hc1
        go_quiet (fail)
        go_wp2
        go_roundw
        case rel => exact ⟨k + 1, k, by omega, by go_num, rfl, by omega, by omega, hst.out, bdn hbela _, hblka.drewN _⟩
        case measure => simp [intOf]; omega
      · obtain ⟨b3, off3, l, u, e3, hd0, hd1, hz⟩ := hdr.at2 (show j < m by omega)
        injection e3 with e3
        injection e3 with e3 e4 _
        subst e3; subst e4
        have hjm : (j : Int) < (m : Int) := by omega
        have hj0 : ¬ (j : Int) < 0 := by omega
        by_cases t1 : lo < l
        · have hst := Lib.hid (hinv.out.less hx.out hy.out hz.out t0 t1)
          clear hinv
          go_wp2_with fail
          obtain ⟨wa, hwa⟩ : ∃ wa, wr.alloc (.cells #[.int .i64 lo, .int .i64 hi] 39) = wa := ⟨_, rfl⟩
          rw [hwa]
          have hbela : Below w.heap.size w wa := hwa ▸ hbel.alloc hbel.size _
          have hblka : Blk wa w.heap.size 30 _ := hwa ▸ hblk.alloc _
          have n0 : wa.cell? ⟨wr.heap.size, 0, none⟩ = some (.int .i64 lo) := hwa ▸ (Blk.new wr 39 #[.int .i64 lo, .int .i64 hi]).cell 0
          have n3 : wa.cell? ⟨w.heap.size, 3, none⟩ = some (.slice _ m c) := hblka.cell 3
          have n4 : wa.cell? ⟨w.heap.size, 4, none⟩ = some (.slice _ m d) := hblka.cell 4
          have nc := (h.below hbela (Nat.le_refl _)).get_ hx.out
          obtain ⟨nl, -⟩ := (hd.below2 hbela (Nat.le_refl _)).get2_ hz.out
          clear hwa j3 j4 hc hc0 hc1 hd0 hd1
          go_quiet (fail)
          go_wp2
          go_roundw
          case rel => exact ⟨k + 1, k, by omega, by go_num, rfl, by omega, by omega, hst.out, bdn hbela _, hblka.drewN _⟩
          case measure => simp [intOf]; omega
        · have hst := Lib.hid (hinv.out.more hx.out hy.out hz.out t0 t1)
          clear hinv
          go_wp2_with fail
          obtain ⟨wa, hwa⟩ : ∃ wa, wr.alloc (.cells #[.int .i64 lo, .int .i64 hi] 39) = wa := ⟨_, rfl⟩
          rw [hwa]
          have hbela : Below w.heap.size w wa := hwa ▸ hbel.alloc hbel.size _
          have hblka : Blk wa w.heap.size 30 _ := hwa ▸ hblk.alloc _
          have n0 : wa.cell? ⟨wr.heap.size, 0, none⟩ = some (.int .i64 lo) := hwa ▸ (Blk.new wr 39 #[.int .i64 lo, .int .i64 hi]).cell 0
          have n3 : wa.cell? ⟨w.heap.size, 3, none⟩ = some (.slice _ m c) := hblka.cell 3
          have n4 : wa.cell? ⟨w.heap.size, 4, none⟩ = some (.slice _ m d) := hblka.cell 4
          have nc := (h.below hbela (Nat.le_refl _)).get_ hx.out
          obtain ⟨nl, -⟩ := (hd.below2 hbela (Nat.le_refl _)).get2_ hz.out
          clear hwa j3 j4 hc hc0 hc1 hd0 hd1
          go_quiet (fail)
          go_wp2
          go_roundw
          case rel => exact ⟨k + 1, j, by omega, by go_num, rfl, by omega, by omega, hst.out, bdn hbela _, hblka.drewN _⟩
          case measure => simp [intOf]; omega
    · rcases hinv.out.split with rfl | ⟨j, rfl, hjk⟩
      · have hr := shoalestCell_none hg.out (hinv.out.done_none hxl hlt)
        replace hr := Lib.hid (hres.out.symm.trans hr)
        go_wp2
        go_ret2
        exact ⟨by rw [hr.out]; rfl, hbel⟩
      · obtain ⟨l, hl⟩ := hinv.out.done_some hxl hlt
        have hr := shoalestCell_yes hg.out hl
        replace hr := Lib.hid (hres.out.symm.trans hr)
        have hj0 : ¬ (j : Int) < 0 := by omega
        go_wp2
        go_ret2
        exact ⟨by rw [hr.out]; rfl, hbel⟩
end Go.Proofs.Ythjphehpgoibnaa
