/- Plain law: what the grid of a list of soundings holds. -/
import Derived.Test.YtciicolknphcnaaGridT
namespace Go.Proofs.Ytciicolknphcnaa
open Go.RowKit
set_option maxRecDepth 100000
set_option linter.unusedVariables false
set_option linter.unusedSimpArgs false
set_option linter.unusedVariables false

/-- The soundings of a list that lie in a cell. -/
def inCells (s x y : Int) (ss : List I4) : List I4 := ss.filter fun t => decide (0 ≤ cellAt s x y t.1 t.2.1)
structure GP (s x y : Int) (N : Nat) (pre : List I4) (cs : List Int) (ds : List (Int × Int)) : Prop where
  lc : cs.length = N
  ld : ds.length = N
  nn : ∀ (i : Nat) (c : Int), cs[i]? = some c → 0 ≤ c ∧ c ≤ pre.length
  zero : ∀ i : Nat, cs[i]? = some 0 → ds[i]? = some (0, 0)
  iv : ∀ (i : Nat) (d : Int × Int), ds[i]? = some d → -7000 ≤ d.1 ∧ d.1 ≤ d.2 ∧ d.2 ≤ 1005000
  inn : ∀ t ∈ pre, ∀ i : Nat, cellAt s x y t.1 t.2.1 = (i : Int) → ∃ c d, cs[i]? = some c ∧ c ≠ 0 ∧ ds[i]? = some d ∧ d.1 ≤ lowOf t ∧ highOf t ≤ d.2
  sum : cs.sum = ((inCells s x y pre).length : Int)

theorem sum_set : ∀ (cs : List Int) (i : Nat) (c v : Int), cs[i]? = some c → (cs.set i v).sum = cs.sum - c + v
  | [], i, c, v, h => by simp at h
  | a :: t, 0, c, v, h => by simp at h; subst h; simp; omega
  | a :: t, i + 1, c, v, h => by
    have := sum_set t i c v (by simpa using h)
    simp [this]; omega

theorem GP.start (s x y : Int) (N : Nat) : GP s x y N [] (List.replicate N 0) (List.replicate N (0, 0)) where
  lc := by simp
  ld := by simp
  nn := fun i c h => by have := List.eq_of_mem_replicate (List.mem_of_getElem? h); subst this; simp
  zero := fun i h => by
    have hi := (List.getElem?_eq_some_iff.1 h).1
    simp at hi
    simp [hi]
  iv := fun i d h => by have := List.eq_of_mem_replicate (List.mem_of_getElem? h); subst this; simp
  inn := fun t ht => by simp at ht
  sum := by simp [inCells]

theorem GP.step {s x y : Int} {N : Nat} {pre : List I4} {cs : List Int} {ds : List (Int × Int)} {t : I4} (h : GP s x y N pre cs ds) (ht : sndOk t = true) (hb : cellAt s x y t.1 t.2.1 < N) :
    GP s x y N (pre ++ [t]) (gStep s x y (cs, ds) t).1 (gStep s x y (cs, ds) t).2 := by
  by_cases hc : cellAt s x y t.1 t.2.1 < 0
  · have e : gStep s x y (cs, ds) t = (cs, ds) := by simp [gStep, hc]
    rw [e]
    refine ⟨h.lc, h.ld, fun i c hi => by have := h.nn i c hi; simp; omega, h.zero, h.iv, fun u hu i hi => ?_, ?_⟩
    · rcases List.mem_append.1 hu with hu | hu
      · exact h.inn u hu i hi
      · simp at hu; subst hu; omega
    · rw [h.sum]; simp [inCells, hc]
  · obtain ⟨i, hi⟩ := Int.eq_ofNat_of_zero_le (show 0 ≤ cellAt s x y t.1 t.2.1 by omega)
    have hiN : i < N := by omega
    obtain ⟨c, hcx⟩ : ∃ c, cs[i]? = some c := ⟨_, List.getElem?_eq_getElem (by rw [h.lc]; exact hiN)⟩
    obtain ⟨d, hdx⟩ : ∃ d, ds[i]? = some d := ⟨_, List.getElem?_eq_getElem (by rw [h.ld]; exact hiN)⟩
    have hcn := h.nn i c hcx
    have hdv := h.iv i d hdx
    obtain ⟨X, Y, Z, U⟩ := t
    obtain ⟨-, -, hz, hu⟩ := sndOk_bd ht
    have hlow : lowOf (X, Y, Z, U) = Z - U := rfl
    have hhigh : highOf (X, Y, Z, U) = Z + U := rfl
    have e : gStep s x y (cs, ds) (X, Y, Z, U) = (cs.set i (c + 1), ds.set i (if c = 0 then (Z - U, Z + U) else hullP d (Z - U, Z + U))) := by
      simp only [gStep, hc, if_false]
      simp only [hi, addC, addD, Int.toNat_natCast, hcx, hdx, Option.getD_some]
      rfl
    rw [e]
    obtain ⟨nd, hnd⟩ : ∃ nd, (if c = 0 then (Z - U, Z + U) else hullP d (Z - U, Z + U)) = nd := ⟨_, rfl⟩
    have hn1 : nd.1 ≤ Z - U ∧ Z + U ≤ nd.2 ∧ -7000 ≤ nd.1 ∧ nd.2 ≤ 1005000 := by
      subst hnd
      by_cases h0 : c = 0
      · simp [h0]; omega
      · simp only [h0, if_false, hullP]
        refine ⟨Int.min_le_right _ _, Int.le_max_right _ _, ?_, ?_⟩
        · exact Int.le_min.2 ⟨hdv.1, by show -7000 ≤ Z - U; omega⟩
        · exact Int.max_le.2 ⟨hdv.2.2, by show Z + U ≤ 1005000; omega⟩
    have hn2 : c ≠ 0 → nd.1 ≤ d.1 ∧ d.2 ≤ nd.2 := fun h0 => by
      subst hnd
      simp only [h0, if_false, hullP]
      exact ⟨Int.min_le_left _ _, Int.le_max_left _ _⟩
    rw [hnd]
    refine ⟨by simp [h.lc], by simp [h.ld], fun j v hj => ?_, fun j hj => ?_, fun j v hj => ?_, fun u hu' j hj => ?_, ?_⟩
    · rw [List.getElem?_set] at hj
      split at hj
      · split at hj
        · injection hj with hj; subst hj; simp; omega
        · cases hj
      · have := h.nn j v hj; simp; omega
    · rw [List.getElem?_set] at hj ⊢
      split at hj
      · split at hj
        · injection hj with hj; omega
        · cases hj
      · rename_i hne
        rw [if_neg hne]; exact h.zero j hj
    · rw [List.getElem?_set] at hj
      split at hj
      · split at hj
        · injection hj with hj; subst hj; omega
        · cases hj
      · exact h.iv j v hj
    · have hself : (cs.set i (c + 1))[i]? = some (c + 1) := by rw [List.getElem?_set_self]; rw [h.lc]; exact hiN
      have hselfd : (ds.set i nd)[i]? = some nd := by rw [List.getElem?_set_self]; rw [h.ld]; exact hiN
      rcases List.mem_append.1 hu' with hu' | hu'
      · obtain ⟨c1, d1, g1, g2, g3, g4, g5⟩ := h.inn u hu' j hj
        by_cases hji : j = i
        · subst hji
          rw [hcx] at g1; injection g1 with g1; subst g1
          rw [hdx] at g3; injection g3 with g3; subst g3
          have := hn2 g2
          exact ⟨_, _, hself, by omega, hselfd, by omega, by omega⟩
        · exact ⟨c1, d1, by rw [List.getElem?_set_ne (by omega)]; exact g1, g2, by rw [List.getElem?_set_ne (by omega)]; exact g3, g4, g5⟩
      · simp at hu'; subst hu'
        have : j = i := by have := hj.symm.trans hi; omega
        subst this
        exact ⟨_, _, hself, by omega, hselfd, by rw [hlow]; omega, by rw [hhigh]; omega⟩
    · rw [sum_set cs i c _ hcx, h.sum]
      have hi' : cellAt s x y X Y = (i : Int) := hi
      have : decide (0 ≤ cellAt s x y X Y) = true := by rw [hi']; simp
      simp [inCells, List.filter_append, this]
      omega

theorem GP.fold {s x y : Int} {N : Nat} : ∀ (post pre : List I4) (cs : List Int) (ds : List (Int × Int)), GP s x y N pre cs ds → (∀ t ∈ post, sndOk t = true ∧ cellAt s x y t.1 t.2.1 < N) →
    GP s x y N (pre ++ post) (gridF s x y post (cs, ds)).1 (gridF s x y post (cs, ds)).2
  | [], pre, cs, ds, h, _ => by simpa [gridF] using h
  | t :: post, pre, cs, ds, h, hp => by
    have h1 := h.step (hp t (by simp)).1 (hp t (by simp)).2
    have := GP.fold post (pre ++ [t]) _ _ h1 (fun u hu => hp u (by simp [hu]))
    simpa [gridF] using this

theorem grid_facts {s x y : Int} {ss : List I4} (hs : sndsOk ss = true) (hsh : shapeOk s x y = true) : GP s x y (x * y).toNat ss (gridL s x y ss).1 (gridL s x y ss).2 := by
  obtain ⟨gs, gx, gy⟩ := shapeOk_true hsh
  have hxy : 0 ≤ x * y := Int.mul_nonneg (by omega) (by omega)
  have := GP.fold (s := s) (x := x) (y := y) (N := (x * y).toNat) ss [] _ _ (GP.start s x y _) (fun t ht => by
    have ho : sndOk t = true := by simp only [sndsOk, Bool.and_eq_true, List.all_eq_true] at hs; exact hs.1 t ht
    obtain ⟨X, Y, Z, U⟩ := t
    obtain ⟨hX, hY, -, -⟩ := sndOk_bd ho
    refine ⟨ho, ?_⟩
    rcases cellAt_bd (s := s) gs.1 gx gy hX.1 hY.1 with h | h
    · show cellAt s x y X Y < _; omega
    · show cellAt s x y X Y < _; omega)
  simpa [gridL, grid0] using this

theorem cellsOk_of : ∀ (cs : List Int) (ds : List (Int × Int)), (∀ (i : Nat) (c : Int) (d : Int × Int), cs[i]? = some c → ds[i]? = some d → cellOk c d = true) → cellsOk cs ds = true
  | [], _, _ => by simp [cellsOk]
  | _ :: _, [], _ => by simp [cellsOk]
  | c :: t, d :: u, h => by
    rw [cellsOk, h 0 c d rfl rfl, Bool.true_and]
    exact cellsOk_of t u (fun i c' d' h1 h2 => h (i + 1) c' d' (by simpa using h1) (by simpa using h2))
theorem GP.ok {s x y : Int} {pre : List I4} {cs : List Int} {ds : List (Int × Int)} (h : GP s x y (x * y).toNat pre cs ds) (hsh : shapeOk s x y = true) (hp : pre.length ≤ 200) : gridOk s x y cs ds = true := by
  obtain ⟨gs, gx, gy⟩ := shapeOk_true hsh
  have hxy : 0 ≤ x * y := Int.mul_nonneg (by omega) (by omega)
  have hc : cellsOk cs ds = true := cellsOk_of cs ds (fun i c d hi hd => by
    have h1 := h.nn i c hi
    have h2 := h.iv i d hd
    have h3 : inR (-1) 1000000000000 c = true := by simp [inR]; omega
    have h4 : ivOk d = true := by simp [ivOk, inR]; omega
    rw [cellOk, h3, h4]
    by_cases h0 : c = 0
    · subst h0
      have := h.zero i hi
      rw [hd] at this; injection this with this
      simp [this]
    · simp [h0])
  rw [gridOk, hsh, hc]
  have h1 : (cs.length : Int) = x * y := by rw [h.lc]; omega
  have h2 : ds.length = cs.length := by rw [h.lc, h.ld]
  simp [h1, h2]
end Go.Proofs.Ytciicolknphcnaa
