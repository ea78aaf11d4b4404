/- The cells that are empty or too shoal, by both programs. -/
import Derived.Test.YthjphehpgoibnaaCell
namespace Go.Proofs.Ythjphehpgoibnaa
open Go.RowKit
set_option maxRecDepth 100000
set_option linter.unusedVariables false

def danger (t : Int) : Nat → List Int → List (Int × Int) → List Int
  | k, c :: cs, d :: ds => if c = 0 ∨ d.1 < t then (k : Int) :: danger t (k + 1) cs ds else danger t (k + 1) cs ds
  | _, _, _ => []
theorem danger_len (t : Int) : ∀ (k : Nat) (cs : List Int) (ds : List (Int × Int)), (danger t k cs ds).length ≤ cs.length
  | _, [], _ => by simp [danger]
  | _, _ :: _, [] => by simp [danger]
  | k, c :: cs, d :: ds => by
    have := danger_len t (k + 1) cs ds
    rw [danger]
    split <;> simp <;> omega
def dangerCells (s x y : Int) (cs : List Int) (ds : List (Int × Int)) (t : Int) : List Int × Int :=
  if !(gridOk s x y cs ds) then ([], 1) else if !(inR 0 1000000 t) then ([], 2) else (danger t 0 cs ds, 0)
theorem dangerCells_no {s x y : Int} {cs : List Int} {ds : List (Int × Int)} {t : Int} (h : gridOk s x y cs ds = false) : dangerCells s x y cs ds t = ([], 1) := by simp [dangerCells, h]
theorem dangerCells_out {s x y : Int} {cs : List Int} {ds : List (Int × Int)} {t : Int} (h : gridOk s x y cs ds = true) (h2 : inR 0 1000000 t = false) : dangerCells s x y cs ds t = ([], 2) := by simp [dangerCells, h, h2]
theorem dangerCells_yes {s x y : Int} {cs : List Int} {ds : List (Int × Int)} {t : Int} (h : gridOk s x y cs ds = true) (h2 : inR 0 1000000 t = true) : dangerCells s x y cs ds t = (danger t 0 cs ds, 0) := by simp [dangerCells, h, h2]
theorem dangerCells_len (s x y : Int) (cs : List Int) (ds : List (Int × Int)) (t : Int) : (dangerCells s x y cs ds t).1.length ≤ 900 := by
  cases h : gridOk s x y cs ds
  · simp [dangerCells_no h]
  cases h2 : inR 0 1000000 t
  · simp [dangerCells_out h h2]
  rw [dangerCells_yes h h2]
  obtain ⟨g1, g2, -, -⟩ := gridOk_shape h
  obtain ⟨-, g3, g4⟩ := shapeOk_true g1
  have := danger_len t 0 cs ds
  have hp1 : x * y ≤ 30 * 30 := Int.mul_le_mul (by omega) (by omega) (by omega) (by omega)
  simp only
  omega

def DgInv (t : Int) (cs : List Int) (ds : List (Int × Int)) (k : Nat) (acc : List Int) : Prop := acc ++ danger t k (cs.drop k) (ds.drop k) = danger t 0 cs ds ∧ acc.length ≤ k
theorem DgInv.start (t : Int) (cs : List Int) (ds : List (Int × Int)) : DgInv t cs ds 0 [] := ⟨rfl, by simp⟩
theorem DgInv.hit {t : Int} {cs : List Int} {ds : List (Int × Int)} {k : Nat} {acc : List Int} {c : Int} {d : Int × Int} (h : DgInv t cs ds k acc) (hc : cs[k]? = some c) (hd : ds[k]? = some d) (ht : c = 0 ∨ d.1 < t) : DgInv t cs ds (k + 1) (acc ++ [(k : Int)]) := by
  refine ⟨?_, by have := h.2; simp; omega⟩
  rw [← h.1, drop_at hc, drop_at hd, danger, if_pos ht, List.append_assoc]; rfl
theorem DgInv.miss {t : Int} {cs : List Int} {ds : List (Int × Int)} {k : Nat} {acc : List Int} {c : Int} {d : Int × Int} (h : DgInv t cs ds k acc) (hc : cs[k]? = some c) (hd : ds[k]? = some d) (ht : ¬ (c = 0 ∨ d.1 < t)) : DgInv t cs ds (k + 1) acc := by
  refine ⟨?_, by have := h.2; omega⟩
  rw [← h.1, drop_at hc, drop_at hd, danger, if_neg ht]
theorem DgInv.done {t : Int} {cs : List Int} {ds : List (Int × Int)} {k n : Nat} {acc : List Int} (h : DgInv t cs ds k acc) (hl : cs.length = n) (hk : ¬ k < n) : danger t 0 cs ds = acc := by
  rw [← h.1, List.drop_of_length_le (by omega)]; simp [danger]


set_option maxHeartbeats 3200000 in
theorem dangerCells_spec (s x y : Int) (a b : Option Addr) (n c m d : Nat) (xs : List Int) (ds : List (Int × Int)) (t : Int) (w : World) (h : Row w 1 a n (ints xs)) (hd : Row w 2 b m (prs ds)) (hn : n ≤ 1048576) (hm : m ≤ 1048576) :
    Calls Try.prog 22 #[.agg #[.int .i64 s, .int .i64 x, .int .i64 y, .slice a n c, .slice b m d], .int .i64 t] w fun e w' => ∃ a' n' c', e = .returned (.tuple #[.slice a' n' c', .int .i64 (dangerCells s x y xs ds t).2]) ∧ Own w' w.heap.size w'.heap.size 2 1 a' n' c' (ints (dangerCells s x y xs ds t).1) ∧ Below w.heap.size w w' := by
  have h1 := h.alloc (.cells #[.int .i64 s, .int .i64 x, .int .i64 y, .slice a n c, .slice b m d] 30)
  have d1 := hd.alloc2 (.cells #[.int .i64 s, .int .i64 x, .int .i64 y, .slice a n c, .slice b m d] 30)
  have B : Below w.heap.size w (w.alloc (.cells #[.int .i64 s, .int .i64 x, .int .i64 y, .slice a n c, .slice b m d] 30)) := (Below.refl _ _).alloc (Nat.le_refl _) _
  have K := Lib.hid (Blk.new w 30 #[.int .i64 s, .int .i64 x, .int .i64 y, .slice a n c, .slice b m d])
  cases hg : gridOk s x y xs ds
  · rw [dangerCells_no hg]
    go_enter Try.func22, Try.ntmps22
    go_wp2_with (go_at_call 11; refine (isDepthGrid_spec _ _ _ _ _ _ _ _ _ _ _ _ h1 d1 hn hm).mono ?_; rintro e w' ⟨rfl, hb⟩)
    go_ret2
    exact ⟨_, _, _, rfl, Own.nil_ _ _ _ _ _, B.trans (hb.mono B.size)⟩
  cases ht : inR 0 1000000 t
  · rw [dangerCells_out hg ht]
    go_enter Try.func22, Try.ntmps22
    go_wp2_with (first | (go_at_call 11; refine (isDepthGrid_spec _ _ _ _ _ _ _ _ _ _ _ _ h1 d1 hn hm).mono ?_; rintro e w' ⟨rfl, hb⟩) | (go_at_call 45; refine (l01In_any _ _ _ _).mono ?_; rintro e w' ⟨rfl, rfl⟩))
    go_ret2
    exact ⟨_, _, _, rfl, Own.nil_ _ _ _ _ _, B.trans (hb.mono B.size)⟩
  obtain ⟨-, -, hml, -⟩ := gridOk_shape hg
  obtain rfl : m = n := by have := h.len; have := hd.len2; omega
  have hxl := h.len
  rw [dangerCells_yes hg ht]
  go_enter Try.func22, Try.ntmps22
  go_wp2_with fail
  go_at_call 11
  refine (isDepthGrid_spec _ _ _ _ _ _ _ _ _ _ _ _ h1 d1 hn hm).mono ?_
  rintro e w2 ⟨rfl, hb⟩
  have B2 := B.trans (hb.mono B.size)
  have K2 := Lib.hid (K.out.belowSelf hb)
  clear hb h1 d1 B K
  rw [hg]
  replace hg := Lib.hid hg
  have k3 : w2.cell? ⟨w.heap.size, 3, none⟩ = some (.slice a m c) := K2.out.cell 3
  have k4 : w2.cell? ⟨w.heap.size, 4, none⟩ = some (.slice b m d) := K2.out.cell 4
  have hlt2 := K2.out.lt
  go_wp2_with (go_at_call 45; refine (l01In_any _ _ _ _).mono ?_; rintro e w' ⟨rfl, rfl⟩)
  clear k3 k4
  go_loopw [6, 7] (fun l i wr => ∃ (k : Nat) (a' : Option Addr) (q cp : Nat) (acc : List Int), k ≤ m ∧ i = .int .i64 k ∧ l = .slice a' q cp ∧ Own wr (w.heap.size + 1) wr.heap.size 2 1 a' q cp (ints acc) ∧ Hid (DgInv t xs ds k acc) ∧ Below w.heap.size w wr ∧ Blk wr w.heap.size 30 #[.int .i64 s, .int .i64 x, .int .i64 y, .slice a m c, .slice b m d]) (fun _ i _ => m - (intOf i).toNat)
  case atStart => exact ⟨0, _, 0, 0, [], Nat.zero_le _, rfl, rfl, (Own.lit0 _ _ _).mono hlt2 (by simp), DgInv.start _ _ _, B2.alloc B2.size _, K2.out.alloc _⟩
  case round =>
    obtain ⟨k, a', q, cp, acc, hk, rfl, rfl, hown, hinv, hbel, hblk⟩ := hrel
    have j3 : wr.cell? ⟨w.heap.size, 3, none⟩ = some (.slice a m c) := hblk.cell 3
    have j4 : wr.cell? ⟨w.heap.size, 4, none⟩ = some (.slice b m d) := hblk.cell 4
    have hsz := hblk.lt
    have hq : q ≤ k := by have := hown.row.len; have := hinv.out.2; omega
    by_cases hlt : k < m
    · obtain ⟨b1, off1, cc, rfl, hc, hx⟩ := (h.below hbel (Nat.le_refl _)).at_ hlt
      obtain ⟨b2, off2, lo, hi, rfl, hc0, hc1, hy⟩ := (hd.below2 hbel (Nat.le_refl _)).at2 hlt
      by_cases t0 : cc = 0
      · subst t0
        have hst := Lib.hid (hinv.out.hit hx.out hy.out (.inl rfl))
        clear hinv
        go_wp2_with (at_builtin; refine wpList_app _ rfl (.tmp 38) (.tmp 40) _ rfl Try.underlying22 info_i64 rfl (by decide) rfl (hown.alloc _) rfl (Row.one _ _ _) (ints_one [(k : Int)]) (by decide) (by simp only [maxLen]; omega) (by omega) (by simp; omega) ?_; intro A2 c2 w3 hown2 hb2 _)
        go_roundw
        case rel => exact ⟨k + 1, _, _, _, acc ++ [(k : Int)], by omega, by go_num, rfl, by rw [ints_app]; exact hown2, hst.out, (hbel.alloc hbel.size _).trans (hb2.mono (by omega)), (hblk.alloc _).below hb2 (by omega)⟩
        case measure => simp [intOf]; omega
      have t01 : (cc == 0) = false := by simpa using t0
      by_cases t1 : lo < t
      · have hst := Lib.hid (hinv.out.hit hx.out hy.out (.inr t1))
        clear hinv
        go_wp2_with (at_builtin; refine wpList_app _ rfl (.tmp 38) (.tmp 40) _ rfl Try.underlying22 info_i64 rfl (by decide) rfl (hown.alloc _) rfl (Row.one _ _ _) (ints_one [(k : Int)]) (by decide) (by simp only [maxLen]; omega) (by omega) (by simp; omega) ?_; intro A2 c2 w3 hown2 hb2 _)
        go_roundw
        case rel => exact ⟨k + 1, _, _, _, acc ++ [(k : Int)], by omega, by go_num, rfl, by rw [ints_app]; exact hown2, hst.out, (hbel.alloc hbel.size _).trans (hb2.mono (by omega)), (hblk.alloc _).below hb2 (by omega)⟩
        case measure => simp [intOf]; omega
      · have hst := Lib.hid (hinv.out.miss hx.out hy.out (by simp only [t0, false_or]; exact t1))
        clear hinv
        go_wp2
        go_roundw
        case rel => exact ⟨k + 1, _, _, _, acc, by omega, by go_num, rfl, hown, hst.out, hbel, hblk⟩
        case measure => simp [intOf]; omega
    · go_wp2
      go_ret2
      refine ⟨_, _, _, rfl, ?_, hbel⟩
      rw [hinv.out.done hxl hlt]
      exact hown.mono (by omega) (Nat.le_refl _)

set_option maxHeartbeats 3200000 in
theorem dangerCells_impl (s x y : Int) (a b : Option Addr) (n c m d : Nat) (xs : List Int) (ds : List (Int × Int)) (t : Int) (w : World) (h : Row w 1 a n (ints xs)) (hd : Row w 2 b m (prs ds)) (hn : n ≤ 1048576) (hm : m ≤ 1048576) :
    Calls Try.prog 23 #[.agg #[.int .i64 s, .int .i64 x, .int .i64 y, .slice a n c, .slice b m d], .int .i64 t] w fun e w' => ∃ a' n' c', e = .returned (.tuple #[.slice a' n' c', .int .i64 (dangerCells s x y xs ds t).2]) ∧ Own w' w.heap.size w'.heap.size 2 1 a' n' c' (ints (dangerCells s x y xs ds t).1) ∧ Below w.heap.size w w' := by
  have h1 := h.alloc (.cells #[.int .i64 s, .int .i64 x, .int .i64 y, .slice a n c, .slice b m d] 30)
  have d1 := hd.alloc2 (.cells #[.int .i64 s, .int .i64 x, .int .i64 y, .slice a n c, .slice b m d] 30)
  have B : Below w.heap.size w (w.alloc (.cells #[.int .i64 s, .int .i64 x, .int .i64 y, .slice a n c, .slice b m d] 30)) := (Below.refl _ _).alloc (Nat.le_refl _) _
  have K := Lib.hid (Blk.new w 30 #[.int .i64 s, .int .i64 x, .int .i64 y, .slice a n c, .slice b m d])
  cases hg : gridOk s x y xs ds
  · rw [dangerCells_no hg]
    go_enter Try.func23, Try.ntmps23
    go_wp2_with (go_at_call 13; refine (isDepthGrid_impl _ _ _ _ _ _ _ _ _ _ _ _ h1 d1 hn hm).mono ?_; rintro e w' ⟨rfl, hb⟩)
    go_ret2
    exact ⟨_, _, _, rfl, Own.nil_ _ _ _ _ _, B.trans (hb.mono B.size)⟩
  cases ht : inR 0 1000000 t
  · rw [dangerCells_out hg ht]
    go_enter Try.func23, Try.ntmps23
    go_wp2_with (first | (go_at_call 13; refine (isDepthGrid_impl _ _ _ _ _ _ _ _ _ _ _ _ h1 d1 hn hm).mono ?_; rintro e w' ⟨rfl, hb⟩) | (go_at_call 51; refine (within_any _ _ _ _).mono ?_; rintro e w' ⟨rfl, rfl⟩))
    go_ret2
    exact ⟨_, _, _, rfl, Own.nil_ _ _ _ _ _, B.trans (hb.mono B.size)⟩
  obtain ⟨-, -, hml, -⟩ := gridOk_shape hg
  obtain rfl : m = n := by have := h.len; have := hd.len2; omega
  have hxl := h.len
  rw [dangerCells_yes hg ht]
  go_enter Try.func23, Try.ntmps23
  go_wp2_with fail
  go_at_call 13
  refine (isDepthGrid_impl _ _ _ _ _ _ _ _ _ _ _ _ h1 d1 hn hm).mono ?_
  rintro e w2 ⟨rfl, hb⟩
  have B2 := B.trans (hb.mono B.size)
  have K2 := Lib.hid (K.out.belowSelf hb)
  clear hb h1 d1 B K
  rw [hg]
  replace hg := Lib.hid hg
  have k3 : w2.cell? ⟨w.heap.size, 3, none⟩ = some (.slice a m c) := K2.out.cell 3
  have k4 : w2.cell? ⟨w.heap.size, 4, none⟩ = some (.slice b m d) := K2.out.cell 4
  have hlt2 := K2.out.lt
  go_wp2_with (go_at_call 51; refine (within_any _ _ _ _).mono ?_; rintro e w' ⟨rfl, rfl⟩)
  clear k3 k4
  go_loopw [6, 20] (fun l i wr => ∃ (k : Nat) (a' : Option Addr) (q cp : Nat) (acc : List Int), k ≤ m ∧ i = .int .i64 k ∧ l = .slice a' q cp ∧ Own wr (w.heap.size + 1) wr.heap.size 2 1 a' q cp (ints acc) ∧ Hid (DgInv t xs ds k acc) ∧ Below w.heap.size w wr ∧ Blk wr w.heap.size 30 #[.int .i64 s, .int .i64 x, .int .i64 y, .slice a m c, .slice b m d]) (fun _ i _ => m - (intOf i).toNat)
  case atStart => exact ⟨0, _, 0, 0, [], Nat.zero_le _, rfl, rfl, Own.nil_ _ _ _ _ _, DgInv.start _ _ _, B2, K2.out⟩
  case round =>
    obtain ⟨k, a', q, cp, acc, hk, rfl, rfl, hown, hinv, hbel, hblk⟩ := hrel
    have j3 : wr.cell? ⟨w.heap.size, 3, none⟩ = some (.slice a m c) := hblk.cell 3
    have j4 : wr.cell? ⟨w.heap.size, 4, none⟩ = some (.slice b m d) := hblk.cell 4
    have hsz := hblk.lt
    have hq : q ≤ k := by have := hown.row.len; have := hinv.out.2; omega
    by_cases hlt : k < m
    · obtain ⟨b1, off1, cc, rfl, hc, hx⟩ := (h.below hbel (Nat.le_refl _)).at_ hlt
      obtain ⟨b2, off2, lo, hi, rfl, hc0, hc1, hy⟩ := (hd.below2 hbel (Nat.le_refl _)).at2 hlt
      by_cases t0 : cc = 0
      · subst t0
        have hst := Lib.hid (hinv.out.hit hx.out hy.out (.inl rfl))
        clear hinv
        go_wp2_with (at_builtin; refine wpList_app _ rfl (.tmp 37) (.tmp 39) _ rfl Try.underlying22 info_i64 rfl (by decide) rfl (hown.alloc _) rfl (Row.one _ _ _) (ints_one [(k : Int)]) (by decide) (by simp only [maxLen]; omega) (by omega) (by simp; omega) ?_; intro A2 c2 w3 hown2 hb2 _)
        go_roundw
        case rel => exact ⟨k + 1, _, _, _, acc ++ [(k : Int)], by omega, by go_num, rfl, by rw [ints_app]; exact hown2, hst.out, (hbel.alloc hbel.size _).trans (hb2.mono (by omega)), (hblk.alloc _).below hb2 (by omega)⟩
        case measure => simp [intOf]; omega
      have t01 : (cc == 0) = false := by simpa using t0
      by_cases t1 : lo < t
      · have hst := Lib.hid (hinv.out.hit hx.out hy.out (.inr t1))
        clear hinv
        go_wp2_with (at_builtin; refine wpList_app _ rfl (.tmp 37) (.tmp 39) _ rfl Try.underlying22 info_i64 rfl (by decide) rfl (hown.alloc _) rfl (Row.one _ _ _) (ints_one [(k : Int)]) (by decide) (by simp only [maxLen]; omega) (by omega) (by simp; omega) ?_; intro A2 c2 w3 hown2 hb2 _)
        go_roundw
        case rel => exact ⟨k + 1, _, _, _, acc ++ [(k : Int)], by omega, by go_num, rfl, by rw [ints_app]; exact hown2, hst.out, (hbel.alloc hbel.size _).trans (hb2.mono (by omega)), (hblk.alloc _).below hb2 (by omega)⟩
        case measure => simp [intOf]; omega
      · have hst := Lib.hid (hinv.out.miss hx.out hy.out (by simp only [t0, false_or]; exact t1))
        clear hinv
        go_wp2
        go_roundw
        case rel => exact ⟨k + 1, _, _, _, acc, by omega, by go_num, rfl, hown, hst.out, hbel, hblk⟩
        case measure => simp [intOf]; omega
    · go_wp2
      go_ret2
      refine ⟨_, _, _, rfl, ?_, hbel⟩
      rw [hinv.out.done hxl hlt]
      exact hown.mono (by omega) (Nat.le_refl _)
end Go.Proofs.Ythjphehpgoibnaa
