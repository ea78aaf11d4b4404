/- Depth grids by value: the statements' helpers. -/
import Derived.Test.YtciicolknphcnaaInterval
import Derived.Test.YtciicolknphcnaaLib
import Derived.Deep.RegionHeld3
namespace Go.Proofs.Ytciicolknphcnaa
open Go.RowKit
set_option maxRecDepth 100000
set_option linter.unusedVariables false

/-- What is left behind both slices, or -1. -/
def szOf2 (l : Int) (n m : Nat) : Int := if l - n - m < 0 then -1 else l - n - m

theorem eqDepthGrid_any (s x y s' x' y' : Int) (a b a2 b2 : Option Addr) (n c m d n2 c2 m2 d2 : Nat) (xs xs2 : List Int) (ds ds2 : List (Int × Int)) (w : World) (h : Row w 1 a n (ints xs)) (hd : Row w 2 b m (prs ds)) (h2 : Row w 1 a2 n2 (ints xs2)) (hd2 : Row w 2 b2 m2 (prs ds2)) (hn : n ≤ 1048576) (hm : m ≤ 1048576) (e1 : s = s') (e2 : x = x') (e3 : y = y') (e4 : xs = xs2) (e5 : ds = ds2) :
    Calls Try.prog 9 #[.agg #[.int .i64 s, .int .i64 x, .int .i64 y, .slice a n c, .slice b m d], .agg #[.int .i64 s', .int .i64 x', .int .i64 y', .slice a2 n2 c2, .slice b2 m2 d2]] w fun e w' => e = .returned (.bool true) ∧ Below w.heap.size w w' := by
  subst e1 e2 e3 e4 e5
  have q1 := (h.alloc (.cells #[.int .i64 s, .int .i64 x, .int .i64 y, .slice a n c, .slice b m d] 27)).alloc (.cells #[.int .i64 s, .int .i64 x, .int .i64 y, .slice a2 n2 c2, .slice b2 m2 d2] 27)
  have q2 := (h2.alloc (.cells #[.int .i64 s, .int .i64 x, .int .i64 y, .slice a n c, .slice b m d] 27)).alloc (.cells #[.int .i64 s, .int .i64 x, .int .i64 y, .slice a2 n2 c2, .slice b2 m2 d2] 27)
  have q3 := (hd.alloc2 (.cells #[.int .i64 s, .int .i64 x, .int .i64 y, .slice a n c, .slice b m d] 27)).alloc2 (.cells #[.int .i64 s, .int .i64 x, .int .i64 y, .slice a2 n2 c2, .slice b2 m2 d2] 27)
  have q4 := (hd2.alloc2 (.cells #[.int .i64 s, .int .i64 x, .int .i64 y, .slice a n c, .slice b m d] 27)).alloc2 (.cells #[.int .i64 s, .int .i64 x, .int .i64 y, .slice a2 n2 c2, .slice b2 m2 d2] 27)
  have K1 := (Blk.new w 27 #[.int .i64 s, .int .i64 x, .int .i64 y, .slice a n c, .slice b m d]).alloc (.cells #[.int .i64 s, .int .i64 x, .int .i64 y, .slice a2 n2 c2, .slice b2 m2 d2] 27)
  have K2 := Blk.new' (w.alloc (.cells #[.int .i64 s, .int .i64 x, .int .i64 y, .slice a n c, .slice b m d] 27)) 27 #[.int .i64 s, .int .i64 x, .int .i64 y, .slice a2 n2 c2, .slice b2 m2 d2] (g := w.heap.size + 1) (by simp)
  have B : Below w.heap.size w ((w.alloc (.cells #[.int .i64 s, .int .i64 x, .int .i64 y, .slice a n c, .slice b m d] 27)).alloc (.cells #[.int .i64 s, .int .i64 x, .int .i64 y, .slice a2 n2 c2, .slice b2 m2 d2] 27)) := by go_grown
  have H1 := Lib.hid q1; have H2 := Lib.hid q2; have H3 := Lib.hid q3; have H4 := Lib.hid q4; have HK1 := Lib.hid K1; have HK2 := Lib.hid K2; have HB := Lib.hid B
  clear q1 q2 q3 q4 K1 K2 B h h2 hd hd2
  go_enter Try.func9, Try.ntmps9
  go_wp2_with fail
  go_at_call 37
  refine (eqInt64S_any _ _ _ _ _ _ _ _ _ H1.out H2.out hn).mono ?_
  rintro e w3 ⟨rfl, hb⟩
  rw [show decide (xs = xs) = true by simp]
  have D1 := Lib.hid (H3.out.below2 hb (Nat.le_refl _))
  have D2 := Lib.hid (H4.out.below2 hb (Nat.le_refl _))
  have c1 : w3.cell? ⟨w.heap.size, 4, none⟩ = some (.slice b m d) := (HK1.out.belowSelf hb).cell 4
  have c2 : w3.cell? ⟨w.heap.size + 1, 4, none⟩ = some (.slice b2 m2 d2) := (HK2.out.belowSelf hb).cell 4
  replace HB := Lib.hid (HB.out.trans (hb.mono HB.out.size))
  clear hb H1 H2 H3 H4 HK1 HK2
  go_wp2_with fail
  go_at_call 38
  refine (eqIntervalS_any _ _ _ _ _ _ _ _ _ D1.out D2.out hm).mono ?_
  rintro e w4 ⟨rfl, hb⟩
  rw [show decide (ds = ds) = true by simp]
  replace HB := Lib.hid (HB.out.trans (hb.mono HB.out.size))
  clear hb
  go_wp2
  go_ret
  exact ⟨rfl, HB.out⟩

def ivOk (d : Int × Int) : Bool := inR (-1000000000000) 1000000000000 d.1 && inR (-1000000000000) 1000000000000 d.2 && decide (d.1 ≤ d.2)
theorem ivOk_true {l h : Int} (e : ivOk (l, h) = true) : (-1000000000000 ≤ l ∧ l ≤ 1000000000000) ∧ (-1000000000000 ≤ h ∧ h ≤ 1000000000000) ∧ l ≤ h := by
  simp only [ivOk, inR, Bool.and_eq_true, decide_eq_true_eq] at e
  omega

theorem isValue_any (x : Int) (w : World) : Calls Try.prog 66 #[.int .i64 x] w fun e w' => e = .returned (.bool (inR (-1000000000000) 1000000000000 x)) ∧ w = w' := by
  go_enter Try.func66, Try.ntmps66
  go_wp2_with (go_at_call 54; refine (within_any _ _ _ _).mono ?_; rintro e w' ⟨rfl, rfl⟩)
  go_ret
  exact ⟨rfl, rfl⟩

theorem l01Is_any (x : Int) (w : World) : Calls Try.prog 67 #[.int .i64 x] w fun e w' => e = .returned (.bool (inR (-1000000000000) 1000000000000 x)) ∧ w = w' := by
  go_enter Try.func67, Try.ntmps67
  go_wp2_with (go_at_call 50; refine (l01In_any _ _ _ _).mono ?_; rintro e w' ⟨rfl, rfl⟩)
  go_ret
  exact ⟨rfl, rfl⟩

theorem isInterval_any (l h : Int) (w : World) : Calls Try.prog 55 #[.agg #[.int .i64 l, .int .i64 h]] w fun e w' => e = .returned (.bool (ivOk (l, h))) ∧ Below w.heap.size w w' := by
  go_enter Try.func55, Try.ntmps55
  go_wp2_with (go_at_call 66; refine (isValue_any _ _).mono ?_; rintro e w' ⟨rfl, rfl⟩)
  all_goals (go_ret; exact ⟨by simp [ivOk, *], by go_grown⟩)

theorem isIntervalS_any (l h : Int) (w : World) : Calls Try.prog 56 #[.agg #[.int .i64 l, .int .i64 h]] w fun e w' => e = .returned (.bool (ivOk (l, h))) ∧ Below w.heap.size w w' := by
  go_enter Try.func56, Try.ntmps56
  go_wp2_with (go_at_call 67; refine (l01Is_any _ _).mono ?_; rintro e w' ⟨rfl, rfl⟩)
  all_goals (go_ret; exact ⟨by simp [ivOk, *], by go_grown⟩)

def shapeOk (s x y : Int) : Bool := inR 1 10000 s && inR 1 30 x && inR 1 30 y
theorem shapeOk_true {s x y : Int} (h : shapeOk s x y = true) : (1 ≤ s ∧ s ≤ 10000) ∧ (1 ≤ x ∧ x ≤ 30) ∧ (1 ≤ y ∧ y ≤ 30) := by
  simp only [shapeOk, inR, Bool.and_eq_true, decide_eq_true_eq] at h
  omega
theorem isGridShape_any (s x y : Int) (w : World) : Calls Try.prog 33 #[.int .i64 s, .int .i64 x, .int .i64 y] w fun e w' => e = .returned (.bool (shapeOk s x y)) ∧ w = w' := by
  go_enter Try.func33, Try.ntmps33
  go_wp2_with (go_at_call 54; refine (within_any _ _ _ _).mono ?_; rintro e w' ⟨rfl, rfl⟩)
  all_goals (go_ret; exact ⟨by simp [shapeOk, *], rfl⟩)

theorem l22Size_any (s x y : Int) (w : World) : Calls Try.prog 26 #[.int .i64 s, .int .i64 x, .int .i64 y] w fun e w' => e = .returned (.bool (shapeOk s x y)) ∧ w = w' := by
  go_enter Try.func26, Try.ntmps26
  go_wp2_with (go_at_call 50; refine (l01In_any _ _ _ _).mono ?_; rintro e w' ⟨rfl, rfl⟩)
  all_goals (go_ret; exact ⟨by simp [shapeOk, *], rfl⟩)

def cellOk (c : Int) (d : Int × Int) : Bool := inR (-1) 1000000000000 c && ivOk d && !(c == 0 && !(decide (d = (0, 0))))
def cellsOk : List Int → List (Int × Int) → Bool
  | c :: t, d :: u => cellOk c d && cellsOk t u
  | _, _ => true
def gridOk (s x y : Int) (cs : List Int) (ds : List (Int × Int)) : Bool := shapeOk s x y && decide ((cs.length : Int) = x * y) && decide (ds.length = cs.length) && cellsOk cs ds

def CInv (cs : List Int) (ds : List (Int × Int)) (k : Nat) : Prop := cellsOk (cs.drop k) (ds.drop k) = cellsOk cs ds
theorem CInv.start (cs : List Int) (ds : List (Int × Int)) : CInv cs ds 0 := rfl
theorem CInv.step {cs : List Int} {ds : List (Int × Int)} {k : Nat} {c : Int} {d : Int × Int} (h : CInv cs ds k) (hc : cs[k]? = some c) (hd : ds[k]? = some d) (ho : cellOk c d = true) : CInv cs ds (k + 1) := by
  unfold CInv at h ⊢
  rw [← h, drop_at hc, drop_at hd, cellsOk, ho]; rfl
theorem CInv.no {cs : List Int} {ds : List (Int × Int)} {k : Nat} {c : Int} {d : Int × Int} (h : CInv cs ds k) (hc : cs[k]? = some c) (hd : ds[k]? = some d) (ho : cellOk c d = false) : cellsOk cs ds = false := by
  unfold CInv at h
  rw [← h, drop_at hc, drop_at hd, cellsOk, ho]; rfl
theorem CInv.done {cs : List Int} {ds : List (Int × Int)} {k n : Nat} (h : CInv cs ds k) (hl : cs.length = n) (hk : ¬ k < n) : cellsOk cs ds = true := by
  unfold CInv at h
  rw [← h, List.drop_of_length_le (by omega)]
  simp [cellsOk]

set_option maxHeartbeats 1600000 in
theorem isDepthGrid_spec (s x y : Int) (a b : Option Addr) (n c m d : Nat) (xs : List Int) (ds : List (Int × Int)) (w : World) (h : Row w 1 a n (ints xs)) (hd : Row w 2 b m (prs ds)) (hn : n ≤ 1048576) (hm : m ≤ 1048576) :
    Calls Try.prog 21 #[.agg #[.int .i64 s, .int .i64 x, .int .i64 y, .slice a n c, .slice b m d]] w fun e w' => e = .returned (.bool (gridOk s x y xs ds)) ∧ Below w.heap.size w w' := by
  have hxl := h.len
  have hdl := hd.len2
  cases h1 : shapeOk s x y
  · rw [show gridOk s x y xs ds = false by simp [gridOk, h1]]
    go_enter Try.func21, Try.ntmps21
    go_wp2_with (go_at_call 26; refine (l22Size_any _ _ _ _).mono ?_; rintro e w' ⟨rfl, rfl⟩)
    go_ret
    exact ⟨rfl, by go_grown⟩
  obtain ⟨g1, g2, g3⟩ := shapeOk_true h1
  have hp0 : 0 ≤ x * y := Int.mul_nonneg (by omega) (by omega)
  have hp1 : x * y ≤ 30 * 30 := Int.mul_le_mul (by omega) (by omega) (by omega) (by omega)
  by_cases h2 : (n : Int) = x * y
  rotate_left
  · have e1 : ((n : Int) != x * y) = true := by simpa using h2
    have e2 : ((n : Int) == x * y) = false := by simpa using h2
    rw [show gridOk s x y xs ds = false by simp [gridOk, h1, hxl, h2]]
    go_enter Try.func21, Try.ntmps21
    go_wp2_with (go_at_call 26; refine (l22Size_any _ _ _ _).mono ?_; rintro e w' ⟨rfl, rfl⟩)
    go_ret
    exact ⟨rfl, by go_grown⟩
  have e1 : ((n : Int) != x * y) = false := by simpa using h2
  have e2 : ((n : Int) == x * y) = true := by simpa using h2
  by_cases h3 : m = n
  rotate_left
  · have e3 : ((m : Int) != (n : Int)) = true := by simp; omega
    have e4 : ((m : Int) == (n : Int)) = false := by simp; omega
    rw [show gridOk s x y xs ds = false by simp [gridOk, h1, hxl, hdl, h3]]
    go_enter Try.func21, Try.ntmps21
    go_wp2_with (go_at_call 26; refine (l22Size_any _ _ _ _).mono ?_; rintro e w' ⟨rfl, rfl⟩)
    go_ret
    exact ⟨rfl, by go_grown⟩
  subst h3
  rw [show gridOk s x y xs ds = cellsOk xs ds by simp [gridOk, h1, hxl, hdl, h2]]
  clear h2
  have K := Blk.new w 27 #[.int .i64 s, .int .i64 x, .int .i64 y, .slice a m c, .slice b m d]
  have HK := Lib.hid K; clear K
  go_enter Try.func21, Try.ntmps21
  go_wp2_with (go_at_call 26; refine (l22Size_any _ _ _ _).mono ?_; rintro e w' ⟨rfl, rfl⟩)
  go_loopw [3] (fun i wr => ∃ k : Nat, k ≤ m ∧ i = .int .i64 k ∧ Hid (CInv xs ds k) ∧ Below w.heap.size w wr ∧ Blk wr w.heap.size 27 #[.int .i64 s, .int .i64 x, .int .i64 y, .slice a m c, .slice b m d]) (fun i _ => m - (intOf i).toNat)
  case atStart => exact ⟨0, Nat.zero_le _, rfl, CInv.start _ _, by go_grown, HK.out⟩
  case round =>
    obtain ⟨k, hk, rfl, hinv, hbel, hblk⟩ := hrel
    have j3 : wr.cell? ⟨w.heap.size, 3, none⟩ = some (.slice a m c) := hblk.cell 3
    have j4 : wr.cell? ⟨w.heap.size, 4, none⟩ = some (.slice b m d) := hblk.cell 4
    have hsz := hblk.lt
    by_cases hlt : k < m
    · obtain ⟨b1, off1, cc, rfl, hc, hx⟩ := (h.below hbel (Nat.le_refl _)).at_ hlt
      obtain ⟨b2, off2, lo, hi, rfl, hc0, hc1, hy⟩ := (hd.below2 hbel (Nat.le_refl _)).at2 hlt
      cases t1 : inR (-1) 1000000000000 cc
      · have hno := hinv.out.no hx.out hy.out (by simp [cellOk, t1])
        replace hno := Lib.hid hno
        go_wp2_with (go_at_call 50; refine (l01In_any _ _ _ _).mono ?_; rintro e w' ⟨rfl, rfl⟩)
        go_ret
        exact ⟨by rw [hno.out]; rfl, hbel⟩
      cases t2 : ivOk (lo, hi)
      · have hno := hinv.out.no hx.out hy.out (by simp [cellOk, t2])
        replace hno := Lib.hid hno
        go_wp2_with (first | (go_at_call 50; refine (l01In_any _ _ _ _).mono ?_; rintro e w' ⟨rfl, rfl⟩) | (go_at_call 56; refine (isIntervalS_any _ _ _).mono ?_; rintro e w' ⟨rfl, hb⟩))
        go_ret
        exact ⟨by rw [hno.out]; rfl, hbel.trans (hb.mono hbel.size)⟩
      go_wp2_with (first | (go_at_call 50; refine (l01In_any _ _ _ _).mono ?_; rintro e w' ⟨rfl, rfl⟩) | fail)
      go_at_call 56
      refine (isIntervalS_any _ _ _).mono ?_
      rintro e w2 ⟨rfl, hb⟩
      have hbel2 := hbel.trans (hb.mono hbel.size)
      have hblk2 := hblk.belowSelf hb
      have i3 : w2.cell? ⟨w.heap.size, 3, none⟩ = some (.slice _ m c) := hblk2.cell 3
      have i4 : w2.cell? ⟨w.heap.size, 4, none⟩ = some (.slice _ m d) := hblk2.cell 4
      have ic := (h.below hbel2 (Nat.le_refl _)).get_ hx.out
      obtain ⟨id0, id1⟩ := (hd.below2 hbel2 (Nat.le_refl _)).get2_ hy.out
      clear hb j3 j4 hc hc0 hc1
      by_cases t3 : cc = 0
      · subst t3
        by_cases t4 : lo = 0 ∧ hi = 0
        · obtain ⟨rfl, rfl⟩ := t4
          have hst := hinv.out.step hx.out hy.out (by simp [cellOk, t1, t2])
          replace hst := Lib.hid hst
          go_wp2
          go_roundw
          case rel => exact ⟨k + 1, by omega, by go_num, hst.out, hbel2, hblk2⟩
          case measure => simp [intOf]; omega
        · have hno := hinv.out.no hx.out hy.out (by simp only [cellOk, t1, t2]; simpa using t4)
          replace hno := Lib.hid hno
          by_cases t5 : lo = 0
          · have t6 : (hi == 0) = false := by simp; omega
            subst t5
            go_wp2
            go_ret
            exact ⟨by rw [hno.out]; rfl, hbel2⟩
          · have t6 : (lo == 0) = false := by simpa using t5
            go_wp2
            go_ret
            exact ⟨by rw [hno.out]; rfl, hbel2⟩
      · have t32 : (cc == 0) = false := by simpa using t3
        have hst := hinv.out.step hx.out hy.out (by simp [cellOk, t1, t2, t3])
        replace hst := Lib.hid hst
        go_wp2
        go_roundw
        case rel => exact ⟨k + 1, by omega, by go_num, hst.out, hbel2, hblk2⟩
        case measure => simp [intOf]; omega
    · go_wp2
      go_ret
      exact ⟨by rw [hinv.out.done hxl hlt]; rfl, hbel⟩
set_option maxHeartbeats 1600000 in
theorem isDepthGrid_impl (s x y : Int) (a b : Option Addr) (n c m d : Nat) (xs : List Int) (ds : List (Int × Int)) (w : World) (h : Row w 1 a n (ints xs)) (hd : Row w 2 b m (prs ds)) (hn : n ≤ 1048576) (hm : m ≤ 1048576) :
    Calls Try.prog 20 #[.agg #[.int .i64 s, .int .i64 x, .int .i64 y, .slice a n c, .slice b m d]] w fun e w' => e = .returned (.bool (gridOk s x y xs ds)) ∧ Below w.heap.size w w' := by
  have hxl := h.len
  have hdl := hd.len2
  cases h1 : shapeOk s x y
  · rw [show gridOk s x y xs ds = false by simp [gridOk, h1]]
    go_enter Try.func20, Try.ntmps20
    go_wp2_with fail
    go_quiet ((first | (go_at_call 33; first | exact quiet_eq (isGridShape_any _ _ _ _) | exact quiet_eq' (isGridShape_any _ _ _ _)) | (go_at_call 53; first | exact quiet_eq (length_any _ _ _ _ (by omega)) | exact quiet_eq' (length_any _ _ _ _ (by omega)))))
    go_wp2
    go_ret
    exact ⟨rfl, bdn (by go_grown) _⟩
  obtain ⟨g1, g2, g3⟩ := shapeOk_true h1
  have hp0 : 0 ≤ x * y := Int.mul_nonneg (by omega) (by omega)
  have hp1 : x * y ≤ 30 * 30 := Int.mul_le_mul (by omega) (by omega) (by omega) (by omega)
  by_cases h2 : (n : Int) = x * y
  rotate_left
  · have e1 : ((n : Int) != x * y) = true := by simpa using h2
    have e2 : ((n : Int) == x * y) = false := by simpa using h2
    rw [show gridOk s x y xs ds = false by simp [gridOk, h1, hxl, h2]]
    go_enter Try.func20, Try.ntmps20
    go_wp2_with fail
    go_quiet ((first | (go_at_call 33; first | exact quiet_eq (isGridShape_any _ _ _ _) | exact quiet_eq' (isGridShape_any _ _ _ _)) | (go_at_call 53; first | exact quiet_eq (length_any _ _ _ _ (by omega)) | exact quiet_eq' (length_any _ _ _ _ (by omega)))))
    go_wp2
    go_ret
    exact ⟨rfl, bdn (by go_grown) _⟩
  have e1 : ((n : Int) != x * y) = false := by simpa using h2
  have e2 : ((n : Int) == x * y) = true := by simpa using h2
  by_cases h3 : m = n
  rotate_left
  · have e3 : ((m : Int) != (n : Int)) = true := by simp; omega
    have e4 : ((m : Int) == (n : Int)) = false := by simp; omega
    rw [show gridOk s x y xs ds = false by simp [gridOk, h1, hxl, hdl, h3]]
    go_enter Try.func20, Try.ntmps20
    go_wp2_with fail
    go_quiet ((first | (go_at_call 33; first | exact quiet_eq (isGridShape_any _ _ _ _) | exact quiet_eq' (isGridShape_any _ _ _ _)) | (go_at_call 53; first | exact quiet_eq (length_any _ _ _ _ (by omega)) | exact quiet_eq' (length_any _ _ _ _ (by omega)))))
    go_wp2
    go_ret
    exact ⟨rfl, bdn (by go_grown) _⟩
  subst h3
  rw [show gridOk s x y xs ds = cellsOk xs ds by simp [gridOk, h1, hxl, hdl, h2]]
  clear h2
  have K := Blk.new w 27 #[.int .i64 s, .int .i64 x, .int .i64 y, .slice a m c, .slice b m d]
  have HK := Lib.hid K; clear K
  go_enter Try.func20, Try.ntmps20
  go_wp2_with fail
  go_quiet ((first | (go_at_call 33; first | exact quiet_eq (isGridShape_any _ _ _ _) | exact quiet_eq' (isGridShape_any _ _ _ _)) | (go_at_call 53; first | exact quiet_eq (length_any _ _ _ _ (by omega)) | exact quiet_eq' (length_any _ _ _ _ (by omega)))))
  go_wp2
  clear e1 e2 h1
  go_loopw [36] (fun i wr => ∃ k : Nat, k ≤ m ∧ i = .int .i64 k ∧ Hid (CInv xs ds k) ∧ Below w.heap.size w wr ∧ Blk wr w.heap.size 27 #[.int .i64 s, .int .i64 x, .int .i64 y, .slice a m c, .slice b m d]) (fun i _ => m - (intOf i).toNat)
  case atStart => exact ⟨0, Nat.zero_le _, rfl, CInv.start _ _, bdn (by go_grown) _, HK.out.drewN _⟩
  case round =>
    obtain ⟨k, hk, rfl, hinv, hbel, hblk⟩ := hrel
    have j3 : wr.cell? ⟨w.heap.size, 3, none⟩ = some (.slice a m c) := hblk.cell 3
    have j4 : wr.cell? ⟨w.heap.size, 4, none⟩ = some (.slice b m d) := hblk.cell 4
    have hsz := hblk.lt
    by_cases hlt : k < m
    · obtain ⟨b1, off1, cc, rfl, hc, hx⟩ := (h.below hbel (Nat.le_refl _)).at_ hlt
      obtain ⟨b2, off2, lo, hi, rfl, hc0, hc1, hy⟩ := (hd.below2 hbel (Nat.le_refl _)).at2 hlt
      cases t1 : inR (-1) 1000000000000 cc
      · have hno := hinv.out.no hx.out hy.out (by simp [cellOk, t1])
        replace hno := Lib.hid hno
        go_wp2_with (go_at_call 54; refine (within_any _ _ _ _).mono ?_; rintro e w' ⟨rfl, rfl⟩)
        go_ret
        exact ⟨by rw [hno.out]; rfl, hbel⟩
      cases t2 : ivOk (lo, hi)
      · have hno := hinv.out.no hx.out hy.out (by simp [cellOk, t2])
        replace hno := Lib.hid hno
        go_wp2_with (first | (go_at_call 54; refine (within_any _ _ _ _).mono ?_; rintro e w' ⟨rfl, rfl⟩) | (go_at_call 55; refine (isInterval_any _ _ _).mono ?_; rintro e w' ⟨rfl, hb⟩))
        go_ret
        exact ⟨by rw [hno.out]; rfl, hbel.trans (hb.mono hbel.size)⟩
      go_wp2_with (first | (go_at_call 54; refine (within_any _ _ _ _).mono ?_; rintro e w' ⟨rfl, rfl⟩) | fail)
      go_at_call 55
      refine (isInterval_any _ _ _).mono ?_
      rintro e w2 ⟨rfl, hb⟩
      have hbel2 := hbel.trans (hb.mono hbel.size)
      have hblk2 := hblk.belowSelf hb
      have i3 : w2.cell? ⟨w.heap.size, 3, none⟩ = some (.slice _ m c) := hblk2.cell 3
      have i4 : w2.cell? ⟨w.heap.size, 4, none⟩ = some (.slice _ m d) := hblk2.cell 4
      have ic := (h.below hbel2 (Nat.le_refl _)).get_ hx.out
      obtain ⟨id0, id1⟩ := (hd.below2 hbel2 (Nat.le_refl _)).get2_ hy.out
      clear hb j3 j4 hc hc0 hc1
      by_cases t3 : cc = 0
      · subst t3
        by_cases t4 : lo = 0 ∧ hi = 0
        · obtain ⟨rfl, rfl⟩ := t4
          have hst := hinv.out.step hx.out hy.out (by simp [cellOk, t1, t2])
          replace hst := Lib.hid hst
          go_wp2
          go_roundw
          case rel => exact ⟨k + 1, by omega, by go_num, hst.out, hbel2, hblk2⟩
          case measure => simp [intOf]; omega
        · have hno := hinv.out.no hx.out hy.out (by simp only [cellOk, t1, t2]; simpa using t4)
          replace hno := Lib.hid hno
          by_cases t5 : lo = 0
          · have t6 : (hi == 0) = false := by simp; omega
            subst t5
            go_wp2
            go_ret
            exact ⟨by rw [hno.out]; rfl, hbel2⟩
          · have t6 : (lo == 0) = false := by simpa using t5
            go_wp2
            go_ret
            exact ⟨by rw [hno.out]; rfl, hbel2⟩
      · have t32 : (cc == 0) = false := by simpa using t3
        have hst := hinv.out.step hx.out hy.out (by simp [cellOk, t1, t2, t3])
        replace hst := Lib.hid hst
        go_wp2
        go_roundw
        case rel => exact ⟨k + 1, by omega, by go_num, hst.out, hbel2, hblk2⟩
        case measure => simp [intOf]; omega
    · go_wp2
      go_ret
      exact ⟨by rw [hinv.out.done hxl hlt]; rfl, hbel⟩

theorem markDepthGrid_any (s x y : Int) (a b : Option Addr) (n c m d lo mid hi : Nat) (xs : List Int) (ds : List (Int × Int)) (k : Int) (w : World) (h : Own w lo mid 2 1 a n c (ints xs)) (hd : Own w mid hi 49 2 b m d (prs ds)) (hn : n ≤ 1048576) (hm : m ≤ 1048576) (hk0 : 0 ≤ k) (hk : k ≤ 1048576) :
    Calls Try.prog 12 #[.agg #[.int .i64 s, .int .i64 x, .int .i64 y, .slice a n c, .slice b m d], .int .i64 k] w fun e w' => e = .returned (.int .i64 (k + n + 2 * m)) ∧ ∃ w1, (w.alloc (.cells #[.int .i64 s, .int .i64 x, .int .i64 y, .slice a n c, .slice b m d] 27)).grownBy w1 (Value.slice a n c).ownBlock ∧ w1.grownBy w' (Value.slice b m d).ownBlock := by
  have h1 := h.alloc (.cells #[.int .i64 s, .int .i64 x, .int .i64 y, .slice a n c, .slice b m d] 27)
  have d1 := hd.alloc (.cells #[.int .i64 s, .int .i64 x, .int .i64 y, .slice a n c, .slice b m d] 27)
  have K := Lib.hid (Blk.new w 27 #[.int .i64 s, .int .i64 x, .int .i64 y, .slice a n c, .slice b m d])
  have hlt := h.lt
  go_enter Try.func12, Try.ntmps12
  go_wp2_with fail
  go_at_call 40
  refine (markInt64S_any _ _ _ _ _ _ _ _ h1 hn hk0 (by omega)).mono ?_
  rintro e w1 ⟨rfl, -, hg1⟩
  have K1 := K.out.grown hg1 (fun e => by have := hlt _ e.symm; omega)
  have d2 := d1.apart hg1 (fun g hg => by have := hlt g hg; omega)
  have k4 : w1.cell? ⟨w.heap.size, 4, none⟩ = some (.slice b m d) := K1.cell 4
  go_wp2_with (go_at_call 41; refine (markIntervalS_any _ _ _ _ _ _ _ _ d2 hm (by omega) (by omega)).mono ?_; rintro e w' ⟨rfl, -, hg2⟩)
  go_ret
  exact ⟨rfl, w1, hg1, hg2⟩
end Go.Proofs.Ytciicolknphcnaa
