/- CellOf, by both programs. -/
import Derived.Test.YtciicolknphcnaaGrid
namespace Go.Proofs.Ytciicolknphcnaa
open Go.RowKit
set_option maxRecDepth 100000
set_option linter.unusedVariables false

def cellAt (s x y u v : Int) : Int := if x ≤ u / s ∨ y ≤ v / s then -1 else v / s * x + u / s
theorem cellAt_bd {s x y u v : Int} (hs : 1 ≤ s) (hx : 1 ≤ x ∧ x ≤ 30) (hy : 1 ≤ y ∧ y ≤ 30) (hu : 0 ≤ u) (hv : 0 ≤ v) : cellAt s x y u v = -1 ∨ (0 ≤ cellAt s x y u v ∧ cellAt s x y u v < x * y) := by
  unfold cellAt
  split
  · exact .inl rfl
  · rename_i h
    have h1 : u / s < x := by omega
    have h2 : v / s < y := by omega
    have h3 : 0 ≤ u / s := Int.ediv_nonneg hu (by omega)
    have h4 : 0 ≤ v / s := Int.ediv_nonneg hv (by omega)
    refine .inr ⟨?_, ?_⟩
    · have := Int.mul_nonneg h4 (show 0 ≤ x by omega); omega
    · have h5 : v / s * x ≤ (y - 1) * x := Int.mul_le_mul_of_nonneg_right (by omega) (by omega)
      rw [Int.sub_mul, Int.one_mul] at h5
      rw [Int.mul_comm x y]
      omega

theorem cell_any (s x y : Int) (a b : Option Addr) (n c m d : Nat) (u v : Int) (w : World) (hs : 1 ≤ s ∧ s ≤ 10000) (hx : 1 ≤ x ∧ x ≤ 30) (hy : 1 ≤ y ∧ y ≤ 30) (hu : 0 ≤ u ∧ u ≤ 10000) (hv : 0 ≤ v ∧ v ≤ 10000) :
    Calls Try.prog 34 #[.agg #[.int .i64 s, .int .i64 x, .int .i64 y, .slice a n c, .slice b m d], .int .i64 u, .int .i64 v] w fun e w' => e = .returned (.int .i64 (cellAt s x y u v)) ∧ Below w.heap.size w w' := by
  have hs0 : (s == 0) = false := by simp; omega
  have hs1 : (s == -1) = false := by simp; omega
  have e1 : Int.tdiv u s = u / s := Int.tdiv_eq_ediv_of_nonneg hu.1
  have e2 : Int.tdiv v s = v / s := Int.tdiv_eq_ediv_of_nonneg hv.1
  have h3 : 0 ≤ u / s := Int.ediv_nonneg hu.1 (by omega)
  have h4 : 0 ≤ v / s := Int.ediv_nonneg hv.1 (by omega)
  have h5 : u / s ≤ 10000 := Int.le_trans (Int.ediv_le_self s hu.1) hu.2
  have h6 : v / s ≤ 10000 := Int.le_trans (Int.ediv_le_self s hv.1) hv.2
  have h7 : 0 ≤ v / s * x := Int.mul_nonneg h4 (by omega)
  have h8 : v / s * x ≤ 10000 * 30 := Int.mul_le_mul h6 hx.2 (by omega) (by omega)
  by_cases c1 : x ≤ u / s
  · rw [show cellAt s x y u v = -1 by unfold cellAt; rw [if_pos (.inl c1)]]
    have c1' : u / s ≥ x := c1
    go_enter Try.func34, Try.ntmps34
    go_wp2_with fail
    go_region
    all_goals
      go_wp2
      go_ret
      exact ⟨rfl, by first | go_grown | exact bdn (by go_grown) _⟩
  have c1' : ¬ u / s ≥ x := c1
  have c1l : u / s < x := by omega
  have c1b : decide (x ≤ u / s) = false := decide_eq_false c1
  by_cases c2 : y ≤ v / s
  · rw [show cellAt s x y u v = -1 by unfold cellAt; rw [if_pos (.inr c2)]]
    have c2' : v / s ≥ y := c2
    go_enter Try.func34, Try.ntmps34
    go_wp2_with fail
    go_region
    all_goals
      go_wp2
      go_ret
      exact ⟨rfl, by first | go_grown | exact bdn (by go_grown) _⟩
  · rw [show cellAt s x y u v = v / s * x + u / s by unfold cellAt; rw [if_neg (by omega)]]
    have c2' : ¬ v / s ≥ y := c2
    go_enter Try.func34, Try.ntmps34
    go_wp2_with fail
    go_region
    all_goals
      go_wp2
      go_ret
      exact ⟨rfl, by first | go_grown | exact bdn (by go_grown) _⟩
theorem l22Cell_any (s x y : Int) (a b : Option Addr) (n c m d : Nat) (u v : Int) (w : World) (hs : 1 ≤ s ∧ s ≤ 10000) (hx : 1 ≤ x ∧ x ≤ 30) (hy : 1 ≤ y ∧ y ≤ 30) (hu : 0 ≤ u ∧ u ≤ 10000) (hv : 0 ≤ v ∧ v ≤ 10000) :
    Calls Try.prog 28 #[.agg #[.int .i64 s, .int .i64 x, .int .i64 y, .slice a n c, .slice b m d], .int .i64 u, .int .i64 v] w fun e w' => e = .returned (.int .i64 (cellAt s x y u v)) ∧ Below w.heap.size w w' := by
  have hs0 : (s == 0) = false := by simp; omega
  have hs1 : (s == -1) = false := by simp; omega
  have e1 : Int.tdiv u s = u / s := Int.tdiv_eq_ediv_of_nonneg hu.1
  have e2 : Int.tdiv v s = v / s := Int.tdiv_eq_ediv_of_nonneg hv.1
  have h3 : 0 ≤ u / s := Int.ediv_nonneg hu.1 (by omega)
  have h4 : 0 ≤ v / s := Int.ediv_nonneg hv.1 (by omega)
  have h5 : u / s ≤ 10000 := Int.le_trans (Int.ediv_le_self s hu.1) hu.2
  have h6 : v / s ≤ 10000 := Int.le_trans (Int.ediv_le_self s hv.1) hv.2
  have h7 : 0 ≤ v / s * x := Int.mul_nonneg h4 (by omega)
  have h8 : v / s * x ≤ 10000 * 30 := Int.mul_le_mul h6 hx.2 (by omega) (by omega)
  by_cases c1 : x ≤ u / s
  · rw [show cellAt s x y u v = -1 by unfold cellAt; rw [if_pos (.inl c1)]]
    have c1' : u / s ≥ x := c1
    go_enter Try.func28, Try.ntmps28
    go_wp2_with fail
    go_region
    all_goals
      go_wp2
      go_ret
      exact ⟨rfl, by first | go_grown | exact bdn (by go_grown) _⟩
  have c1' : ¬ u / s ≥ x := c1
  have c1l : u / s < x := by omega
  have c1b : decide (x ≤ u / s) = false := decide_eq_false c1
  by_cases c2 : y ≤ v / s
  · rw [show cellAt s x y u v = -1 by unfold cellAt; rw [if_pos (.inr c2)]]
    have c2' : v / s ≥ y := c2
    go_enter Try.func28, Try.ntmps28
    go_wp2_with fail
    go_region
    all_goals
      go_wp2
      go_ret
      exact ⟨rfl, by first | go_grown | exact bdn (by go_grown) _⟩
  · rw [show cellAt s x y u v = v / s * x + u / s by unfold cellAt; rw [if_neg (by omega)]]
    have c2' : ¬ v / s ≥ y := c2
    go_enter Try.func28, Try.ntmps28
    go_wp2_with fail
    go_region
    all_goals
      go_wp2_with fail
      go_region
      all_goals
        go_wp2
        go_ret
        exact ⟨rfl, by first | go_grown | exact bdn (by go_grown) _ | exact bdn (bdn (by go_grown) _) _⟩

def fieldOk (u v : Int) : Bool := inR 0 10000 u && inR 0 10000 v
theorem fieldOk_true {u v : Int} (h : fieldOk u v = true) : (0 ≤ u ∧ u ≤ 10000) ∧ (0 ≤ v ∧ v ≤ 10000) := by
  simp only [fieldOk, inR, Bool.and_eq_true, decide_eq_true_eq] at h
  omega
theorem gridOk_shape {s x y : Int} {cs : List Int} {ds : List (Int × Int)} (h : gridOk s x y cs ds = true) : shapeOk s x y = true ∧ (cs.length : Int) = x * y ∧ ds.length = cs.length ∧ cellsOk cs ds = true := by
  simp only [gridOk, Bool.and_eq_true, decide_eq_true_eq] at h
  exact ⟨h.1.1.1, h.1.1.2, h.1.2, h.2⟩
def cellOf (s x y : Int) (cs : List Int) (ds : List (Int × Int)) (u v : Int) : Int × Int :=
  if !(gridOk s x y cs ds) then (0, 1) else if !(fieldOk u v) then (0, 2) else if cellAt s x y u v < 0 then (0, 4) else (cellAt s x y u v, 0)
theorem cellOf_no {s x y : Int} {cs : List Int} {ds : List (Int × Int)} {u v : Int} (h : gridOk s x y cs ds = false) : cellOf s x y cs ds u v = (0, 1) := by simp [cellOf, h]
theorem cellOf_out {s x y : Int} {cs : List Int} {ds : List (Int × Int)} {u v : Int} (h : gridOk s x y cs ds = true) (h2 : fieldOk u v = false) : cellOf s x y cs ds u v = (0, 2) := by simp [cellOf, h, h2]
theorem cellOf_none {s x y : Int} {cs : List Int} {ds : List (Int × Int)} {u v : Int} (h : gridOk s x y cs ds = true) (h2 : fieldOk u v = true) (h3 : cellAt s x y u v < 0) : cellOf s x y cs ds u v = (0, 4) := by simp [cellOf, h, h2, h3]
theorem cellOf_yes {s x y : Int} {cs : List Int} {ds : List (Int × Int)} {u v : Int} (h : gridOk s x y cs ds = true) (h2 : fieldOk u v = true) (h3 : ¬ cellAt s x y u v < 0) : cellOf s x y cs ds u v = (cellAt s x y u v, 0) := by simp only [cellOf, h, h2, h3]; rfl

set_option maxHeartbeats 1600000 in
theorem cellOf_spec (s x y : Int) (a b : Option Addr) (n c m d : Nat) (xs : List Int) (ds : List (Int × Int)) (u v : Int) (w : World) (h : Row w 1 a n (ints xs)) (hd : Row w 2 b m (prs ds)) (hn : n ≤ 1048576) (hm : m ≤ 1048576) :
    Calls Try.prog 18 #[.agg #[.int .i64 s, .int .i64 x, .int .i64 y, .slice a n c, .slice b m d], .int .i64 u, .int .i64 v] w fun e w' => e = .returned (.tuple #[.int .i64 (cellOf s x y xs ds u v).1, .int .i64 (cellOf s x y xs ds u v).2]) ∧ Below w.heap.size w w' := by
  have h1 := h.alloc (.cells #[.int .i64 s, .int .i64 x, .int .i64 y, .slice a n c, .slice b m d] 27)
  have d1 := hd.alloc2 (.cells #[.int .i64 s, .int .i64 x, .int .i64 y, .slice a n c, .slice b m d] 27)
  have B : Below w.heap.size w (w.alloc (.cells #[.int .i64 s, .int .i64 x, .int .i64 y, .slice a n c, .slice b m d] 27)) := (Below.refl _ _).alloc (Nat.le_refl _) _
  have K := Lib.hid (Blk.new w 27 #[.int .i64 s, .int .i64 x, .int .i64 y, .slice a n c, .slice b m d])
  cases hg : gridOk s x y xs ds
  · rw [cellOf_no hg]
    go_enter Try.func18, Try.ntmps18
    go_wp2_with (go_at_call 21; refine (isDepthGrid_spec _ _ _ _ _ _ _ _ _ _ _ _ h1 d1 hn hm).mono ?_; rintro e w' ⟨rfl, hb⟩)
    go_ret2
    exact ⟨rfl, B.trans (hb.mono B.size)⟩
  obtain ⟨gsh, -, -, -⟩ := gridOk_shape hg
  obtain ⟨gs, gx, gy⟩ := shapeOk_true gsh
  clear gsh
  cases hf1 : inR 0 10000 u
  · rw [cellOf_out hg (by simp [fieldOk, hf1])]
    go_enter Try.func18, Try.ntmps18
    go_wp2_with fail
    go_at_call 21
    refine (isDepthGrid_spec _ _ _ _ _ _ _ _ _ _ _ _ h1 d1 hn hm).mono ?_
    rintro e w2 ⟨rfl, hb⟩
    have B2 := B.trans (hb.mono B.size)
    have K2 := K.out.belowSelf hb
    have k0 : w2.cell? ⟨w.heap.size, 0, none⟩ = some (.int .i64 s) := K2.cell 0
    have k1 : w2.cell? ⟨w.heap.size, 1, none⟩ = some (.int .i64 x) := K2.cell 1
    have k2 : w2.cell? ⟨w.heap.size, 2, none⟩ = some (.int .i64 y) := K2.cell 2
    have k3 : w2.cell? ⟨w.heap.size, 3, none⟩ = some (.slice a n c) := K2.cell 3
    have k4 : w2.cell? ⟨w.heap.size, 4, none⟩ = some (.slice b m d) := K2.cell 4
    have hlt := K2.lt
    clear hb
    rw [hg]
    go_wp2_with (go_at_call 50; refine (l01In_any _ _ _ _).mono ?_; rintro e w' ⟨rfl, rfl⟩)
    go_ret2
    exact ⟨rfl, B2⟩
  cases hf2 : inR 0 10000 v
  · rw [cellOf_out hg (by simp [fieldOk, hf2])]
    go_enter Try.func18, Try.ntmps18
    go_wp2_with fail
    go_at_call 21
    refine (isDepthGrid_spec _ _ _ _ _ _ _ _ _ _ _ _ h1 d1 hn hm).mono ?_
    rintro e w2 ⟨rfl, hb⟩
    have B2 := B.trans (hb.mono B.size)
    have K2 := K.out.belowSelf hb
    have k0 : w2.cell? ⟨w.heap.size, 0, none⟩ = some (.int .i64 s) := K2.cell 0
    have k1 : w2.cell? ⟨w.heap.size, 1, none⟩ = some (.int .i64 x) := K2.cell 1
    have k2 : w2.cell? ⟨w.heap.size, 2, none⟩ = some (.int .i64 y) := K2.cell 2
    have k3 : w2.cell? ⟨w.heap.size, 3, none⟩ = some (.slice a n c) := K2.cell 3
    have k4 : w2.cell? ⟨w.heap.size, 4, none⟩ = some (.slice b m d) := K2.cell 4
    have hlt := K2.lt
    clear hb
    rw [hg]
    go_wp2_with (go_at_call 50; refine (l01In_any _ _ _ _).mono ?_; rintro e w' ⟨rfl, rfl⟩)
    go_ret2
    exact ⟨rfl, B2⟩
  have hf : fieldOk u v = true := by simp [fieldOk, hf1, hf2]
  obtain ⟨hu, hv⟩ := fieldOk_true hf
  by_cases hc : cellAt s x y u v < 0
  · rw [cellOf_none hg hf hc]
    go_enter Try.func18, Try.ntmps18
    go_wp2_with fail
    go_at_call 21
    refine (isDepthGrid_spec _ _ _ _ _ _ _ _ _ _ _ _ h1 d1 hn hm).mono ?_
    rintro e w2 ⟨rfl, hb⟩
    have B2 := B.trans (hb.mono B.size)
    have K2 := K.out.belowSelf hb
    have k0 : w2.cell? ⟨w.heap.size, 0, none⟩ = some (.int .i64 s) := K2.cell 0
    have k1 : w2.cell? ⟨w.heap.size, 1, none⟩ = some (.int .i64 x) := K2.cell 1
    have k2 : w2.cell? ⟨w.heap.size, 2, none⟩ = some (.int .i64 y) := K2.cell 2
    have k3 : w2.cell? ⟨w.heap.size, 3, none⟩ = some (.slice a n c) := K2.cell 3
    have k4 : w2.cell? ⟨w.heap.size, 4, none⟩ = some (.slice b m d) := K2.cell 4
    have hlt := K2.lt
    clear hb
    rw [hg]
    go_wp2_with (first | (go_at_call 50; refine (l01In_any _ _ _ _).mono ?_; rintro e w' ⟨rfl, rfl⟩) | fail)
    go_at_call 28
    refine (l22Cell_any _ _ _ _ _ _ _ _ _ _ _ _ gs gx gy hu hv).mono ?_
    rintro e w3 ⟨rfl, hb2⟩
    go_wp2
    go_ret2
    exact ⟨rfl, by first | exact B2.trans (hb2.mono B2.size) | exact (B2.alloc B2.size _).trans (hb2.mono (B2.alloc B2.size _).size)⟩
  · rw [cellOf_yes hg hf hc]
    go_enter Try.func18, Try.ntmps18
    go_wp2_with fail
    go_at_call 21
    refine (isDepthGrid_spec _ _ _ _ _ _ _ _ _ _ _ _ h1 d1 hn hm).mono ?_
    rintro e w2 ⟨rfl, hb⟩
    have B2 := B.trans (hb.mono B.size)
    have K2 := K.out.belowSelf hb
    have k0 : w2.cell? ⟨w.heap.size, 0, none⟩ = some (.int .i64 s) := K2.cell 0
    have k1 : w2.cell? ⟨w.heap.size, 1, none⟩ = some (.int .i64 x) := K2.cell 1
    have k2 : w2.cell? ⟨w.heap.size, 2, none⟩ = some (.int .i64 y) := K2.cell 2
    have k3 : w2.cell? ⟨w.heap.size, 3, none⟩ = some (.slice a n c) := K2.cell 3
    have k4 : w2.cell? ⟨w.heap.size, 4, none⟩ = some (.slice b m d) := K2.cell 4
    have hlt := K2.lt
    clear hb
    rw [hg]
    go_wp2_with (first | (go_at_call 50; refine (l01In_any _ _ _ _).mono ?_; rintro e w' ⟨rfl, rfl⟩) | fail)
    go_at_call 28
    refine (l22Cell_any _ _ _ _ _ _ _ _ _ _ _ _ gs gx gy hu hv).mono ?_
    rintro e w3 ⟨rfl, hb2⟩
    go_wp2
    go_ret2
    exact ⟨rfl, by first | exact B2.trans (hb2.mono B2.size) | exact (B2.alloc B2.size _).trans (hb2.mono (B2.alloc B2.size _).size)⟩

set_option maxHeartbeats 1600000 in
theorem cellOf_impl (s x y : Int) (a b : Option Addr) (n c m d : Nat) (xs : List Int) (ds : List (Int × Int)) (u v : Int) (w : World) (h : Row w 1 a n (ints xs)) (hd : Row w 2 b m (prs ds)) (hn : n ≤ 1048576) (hm : m ≤ 1048576) :
    Calls Try.prog 17 #[.agg #[.int .i64 s, .int .i64 x, .int .i64 y, .slice a n c, .slice b m d], .int .i64 u, .int .i64 v] w fun e w' => e = .returned (.tuple #[.int .i64 (cellOf s x y xs ds u v).1, .int .i64 (cellOf s x y xs ds u v).2]) ∧ Below w.heap.size w w' := by
  have h1 := h.alloc (.cells #[.int .i64 s, .int .i64 x, .int .i64 y, .slice a n c, .slice b m d] 27)
  have d1 := hd.alloc2 (.cells #[.int .i64 s, .int .i64 x, .int .i64 y, .slice a n c, .slice b m d] 27)
  have B : Below w.heap.size w (w.alloc (.cells #[.int .i64 s, .int .i64 x, .int .i64 y, .slice a n c, .slice b m d] 27)) := (Below.refl _ _).alloc (Nat.le_refl _) _
  have K := Lib.hid (Blk.new w 27 #[.int .i64 s, .int .i64 x, .int .i64 y, .slice a n c, .slice b m d])
  cases hg : gridOk s x y xs ds
  · rw [cellOf_no hg]
    go_enter Try.func17, Try.ntmps17
    go_wp2_with (go_at_call 20; refine (isDepthGrid_impl _ _ _ _ _ _ _ _ _ _ _ _ h1 d1 hn hm).mono ?_; rintro e w' ⟨rfl, hb⟩)
    go_ret2
    exact ⟨rfl, B.trans (hb.mono B.size)⟩
  obtain ⟨gsh, -, -, -⟩ := gridOk_shape hg
  obtain ⟨gs, gx, gy⟩ := shapeOk_true gsh
  clear gsh
  have eF : [u, v].all (inR 0 10000) = fieldOk u v := by simp [fieldOk]
  cases hf : fieldOk u v
  · rw [cellOf_out hg hf]
    go_enter Try.func17, Try.ntmps17
    go_wp2_with fail
    go_at_call 20
    refine (isDepthGrid_impl _ _ _ _ _ _ _ _ _ _ _ _ h1 d1 hn hm).mono ?_
    rintro e w2 ⟨rfl, hb⟩
    have B2 := B.trans (hb.mono B.size)
    have K2 := K.out.belowSelf hb
    have k0 : w2.cell? ⟨w.heap.size, 0, none⟩ = some (.int .i64 s) := K2.cell 0
    have k1 : w2.cell? ⟨w.heap.size, 1, none⟩ = some (.int .i64 x) := K2.cell 1
    have k2 : w2.cell? ⟨w.heap.size, 2, none⟩ = some (.int .i64 y) := K2.cell 2
    have k3 : w2.cell? ⟨w.heap.size, 3, none⟩ = some (.slice a n c) := K2.cell 3
    have k4 : w2.cell? ⟨w.heap.size, 4, none⟩ = some (.slice b m d) := K2.cell 4
    have hlt := K2.lt
    clear hb
    rw [hg]
    go_wp2_with (go_at_call 49; refine (isField_any _ _ _ [u, v] _ (by exact Row.lit _ _ _ _ _ (by simp) (by rfl)) (by omega)).mono ?_; rintro e w' ⟨rfl, rfl⟩)
    go_ret2
    exact ⟨rfl, by first | exact B2 | exact B2.alloc B2.size _⟩
  obtain ⟨hu, hv⟩ := fieldOk_true hf
  by_cases hc : cellAt s x y u v < 0
  · rw [cellOf_none hg hf hc]
    go_enter Try.func17, Try.ntmps17
    go_wp2_with fail
    go_at_call 20
    refine (isDepthGrid_impl _ _ _ _ _ _ _ _ _ _ _ _ h1 d1 hn hm).mono ?_
    rintro e w2 ⟨rfl, hb⟩
    have B2 := B.trans (hb.mono B.size)
    have K2 := K.out.belowSelf hb
    have k0 : w2.cell? ⟨w.heap.size, 0, none⟩ = some (.int .i64 s) := K2.cell 0
    have k1 : w2.cell? ⟨w.heap.size, 1, none⟩ = some (.int .i64 x) := K2.cell 1
    have k2 : w2.cell? ⟨w.heap.size, 2, none⟩ = some (.int .i64 y) := K2.cell 2
    have k3 : w2.cell? ⟨w.heap.size, 3, none⟩ = some (.slice a n c) := K2.cell 3
    have k4 : w2.cell? ⟨w.heap.size, 4, none⟩ = some (.slice b m d) := K2.cell 4
    have hlt := K2.lt
    clear hb
    rw [hg]
    go_wp2_with (first | (go_at_call 49; refine (isField_any _ _ _ [u, v] _ (by exact Row.lit _ _ _ _ _ (by simp) (by rfl)) (by omega)).mono ?_; rintro e w' ⟨rfl, rfl⟩) | fail)
    go_at_call 34
    refine (cell_any _ _ _ _ _ _ _ _ _ _ _ _ gs gx gy hu hv).mono ?_
    rintro e w3 ⟨rfl, hb2⟩
    go_wp2
    go_ret2
    exact ⟨rfl, by first | exact B2.trans (hb2.mono B2.size) | exact (B2.alloc B2.size _).trans (hb2.mono (B2.alloc B2.size _).size)⟩
  · rw [cellOf_yes hg hf hc]
    go_enter Try.func17, Try.ntmps17
    go_wp2_with fail
    go_at_call 20
    refine (isDepthGrid_impl _ _ _ _ _ _ _ _ _ _ _ _ h1 d1 hn hm).mono ?_
    rintro e w2 ⟨rfl, hb⟩
    have B2 := B.trans (hb.mono B.size)
    have K2 := K.out.belowSelf hb
    have k0 : w2.cell? ⟨w.heap.size, 0, none⟩ = some (.int .i64 s) := K2.cell 0
    have k1 : w2.cell? ⟨w.heap.size, 1, none⟩ = some (.int .i64 x) := K2.cell 1
    have k2 : w2.cell? ⟨w.heap.size, 2, none⟩ = some (.int .i64 y) := K2.cell 2
    have k3 : w2.cell? ⟨w.heap.size, 3, none⟩ = some (.slice a n c) := K2.cell 3
    have k4 : w2.cell? ⟨w.heap.size, 4, none⟩ = some (.slice b m d) := K2.cell 4
    have hlt := K2.lt
    clear hb
    rw [hg]
    go_wp2_with (first | (go_at_call 49; refine (isField_any _ _ _ [u, v] _ (by exact Row.lit _ _ _ _ _ (by simp) (by rfl)) (by omega)).mono ?_; rintro e w' ⟨rfl, rfl⟩) | fail)
    go_at_call 34
    refine (cell_any _ _ _ _ _ _ _ _ _ _ _ _ gs gx gy hu hv).mono ?_
    rintro e w3 ⟨rfl, hb2⟩
    go_wp2
    go_ret2
    exact ⟨rfl, by first | exact B2.trans (hb2.mono B2.size) | exact (B2.alloc B2.size _).trans (hb2.mono (B2.alloc B2.size _).size)⟩
end Go.Proofs.Ytciicolknphcnaa
