/- FramesIn: plain, and the search for flags by both programs. -/
import Derived.Test.YtmljcbfpennjkaaFramesM
namespace Go.Proofs.Ytmljcbfpennjkaa
open Go.RowKit Go.Shelf
set_option maxRecDepth 100000
set_option linter.unusedVariables false
set_option linter.unusedSimpArgs false

def nextF (xs : List Int) : Nat → Nat → Int
  | 0, _ => -1
  | f + 1, i => if flagAt xs i then (i : Int) else nextF xs f (i + 1)
/-- The first place from one on at which a flag stands, or -1. -/
def nextL (xs : List Int) (i : Nat) : Int := nextF xs xs.length i
theorem nextF_far {xs : List Int} {n : Nat} (hl : xs.length = n) : ∀ (f i : Nat), ¬ i + 8 ≤ n → nextF xs f i = -1
  | 0, _, _ => rfl
  | f + 1, i, h => by
    rw [nextF, flagAt_far hl h, nextF_far hl f (i + 1) (by omega)]
    rfl
theorem nextF_cases {xs : List Int} {n : Nat} (hl : xs.length = n) : ∀ (f i : Nat), nextF xs f i = -1 ∨ ∃ j : Nat, nextF xs f i = j ∧ i ≤ j ∧ flagAt xs j = true ∧ j + 8 ≤ n
  | 0, _ => .inl rfl
  | f + 1, i => by
    rw [nextF]
    cases h : flagAt xs i
    · simp only [Bool.false_eq_true, if_false]
      rcases nextF_cases hl f (i + 1) with h1 | ⟨j, h1, h2, h3, h4⟩
      · exact .inl h1
      · exact .inr ⟨j, h1, by omega, h3, h4⟩
    · simp only [if_true]
      refine .inr ⟨i, rfl, Nat.le_refl _, h, ?_⟩
      by_cases h8 : i + 8 ≤ n
      · exact h8
      · rw [flagAt_far hl h8] at h; cases h
theorem nextL_cases {xs : List Int} {n : Nat} (hl : xs.length = n) (i : Nat) : nextL xs i = -1 ∨ ∃ j : Nat, nextL xs i = j ∧ i ≤ j ∧ flagAt xs j = true ∧ j + 8 ≤ n := nextF_cases hl _ _
def NxInv (xs : List Int) (i0 i : Nat) : Prop := ∃ f, nextF xs f i = nextL xs i0 ∧ xs.length ≤ i + f
theorem NxInv.start (xs : List Int) (i : Nat) : NxInv xs i i := ⟨xs.length, rfl, by omega⟩
theorem NxInv.hit {xs : List Int} {i0 i n : Nat} (h : NxInv xs i0 i) (hl : xs.length = n) (hi : i + 8 ≤ n) (hf : flagAt xs i = true) : nextL xs i0 = i := by
  obtain ⟨f, h1, h2⟩ := h
  obtain ⟨f', rfl⟩ : ∃ f', f = f' + 1 := ⟨f - 1, by omega⟩
  rw [← h1, nextF, hf]; rfl
theorem NxInv.miss {xs : List Int} {i0 i n : Nat} (h : NxInv xs i0 i) (hl : xs.length = n) (hi : i + 8 ≤ n) (hf : flagAt xs i = false) : NxInv xs i0 (i + 1) := by
  obtain ⟨f, h1, h2⟩ := h
  obtain ⟨f', rfl⟩ : ∃ f', f = f' + 1 := ⟨f - 1, by omega⟩
  refine ⟨f', ?_, by omega⟩
  rw [← h1, nextF, hf]; rfl
theorem NxInv.done {xs : List Int} {i0 i n : Nat} (h : NxInv xs i0 i) (hl : xs.length = n) (hi : ¬ i + 8 ≤ n) : nextL xs i0 = -1 := by
  obtain ⟨f, h1, h2⟩ := h
  rw [← h1, nextF_far hl f i hi]

set_option maxHeartbeats 1600000 in
theorem next_spec (a : Option Addr) (n c i0 : Nat) (xs : List Int) (w : World) (h : Row w 1 a n (ints xs)) (hn : n ≤ 1200) (hnc : n ≤ c) (hc : c ≤ maxLen) (hi0 : i0 ≤ 10000) :
    Calls Try.prog 50 #[.slice a n c, .int .i64 (i0 : Int)] w fun e w' => e = .returned (.int .i64 (nextL xs i0)) ∧ Below w.heap.size w w' := by
  have HL := Lib.hid h.len
  go_enter Try.func50, Try.ntmps50
  go_wp2
  go_loopw [5] (fun p wr => ∃ i : Nat, p = .int .i64 i ∧ i ≤ 20000 ∧ Hid (NxInv xs i0 i) ∧ Below w.heap.size w wr) (fun p _ => n + 1 - (intOf p).toNat)
  case atStart => exact ⟨i0, rfl, by omega, NxInv.start _ _, Below.refl _ _⟩
  case round =>
    obtain ⟨i, rfl, hib, hinv, hB⟩ := hrel
    by_cases hlt : i + 8 ≤ n
    · have hiI : (i : Int) + 8 ≤ (n : Int) := by omega
      have hr := h.below hB (Nat.le_refl _)
      cases hf : flagAt xs i
      · have H2 := Lib.hid (hinv.out.miss HL.out hlt hf)
        go_wp2_with fail
        go_at_call 64
        refine (l25At_any _ _ _ i xs _ hr (by omega) hnc hc (by omega)).mono ?_
        rintro e w2 ⟨rfl, b⟩
        rw [hf]
        go_wp2
        go_roundw
        case rel => exact ⟨i + 1, by go_num, by omega, H2.out, hB.trans (b.mono hB.size)⟩
        case measure => simp [intOf] <;> omega
      · have H2 := Lib.hid (hinv.out.hit HL.out hlt hf)
        go_wp2_with fail
        go_at_call 64
        refine (l25At_any _ _ _ i xs _ hr (by omega) hnc hc (by omega)).mono ?_
        rintro e w2 ⟨rfl, b⟩
        rw [hf]
        go_wp2
        go_ret
        exact ⟨by rw [H2.out]; rfl, hB.trans (b.mono hB.size)⟩
    · have hiI : ¬ (i : Int) + 8 ≤ (n : Int) := by omega
      have H2 := Lib.hid (hinv.out.done HL.out hlt)
      go_wp2
      go_ret
      exact ⟨by rw [H2.out]; rfl, hB⟩

set_option maxHeartbeats 1600000 in
theorem next_impl (a : Option Addr) (n c i0 : Nat) (xs : List Int) (w : World) (h : Row w 1 a n (ints xs)) (hn : n ≤ 1200) (hnc : n ≤ c) (hc : c ≤ maxLen) (hi0 : i0 ≤ 10000) :
    Calls Try.prog 85 #[.slice a n c, .int .i64 (i0 : Int)] w fun e w' => e = .returned (.int .i64 (nextL xs i0)) ∧ Below w.heap.size w w' := by
  have HL := Lib.hid h.len
  simp only [maxLen] at hc
  go_enter Try.func85, Try.ntmps85
  go_wp2
  go_loopw [5] (fun p wr => ∃ i : Nat, p = .int .i64 i ∧ i ≤ 20000 ∧ Hid (NxInv xs i0 i) ∧ Below w.heap.size w wr) (fun p _ => n + 1 - (intOf p).toNat)
  case atStart => exact ⟨i0, rfl, by omega, NxInv.start _ _, Below.refl _ _⟩
  case round =>
    obtain ⟨i, rfl, hib, hinv, hB⟩ := hrel
    by_cases hlt : i + 8 ≤ n
    · have hiI : (i : Int) + 8 ≤ (n : Int) := by omega
      obtain ⟨b, off, rfl, -⟩ := h.2 (by omega)
      have HP := Lib.hid ((h.below hB (Nat.le_refl _)).piece (c := c) hlt)
      have g2 : (i : Int) + 8 ≤ (c : Int) := by omega
      have g3 : ((i : Int) + 8).toNat = i + 8 := by omega
      have g4 : ¬ c = i := by omega
      have g5 : (0 : Int) ≤ (i : Int) + 8 := by omega
      have g6 : (i : Int) ≤ (i : Int) + 8 := by omega
      have gw : IntKind.i64.wrap ((i : Int) + 8) = (i : Int) + 8 := by rw [IntKind.wrap_i64]; omega
      cases hf : flagAt xs i
      · have H2 := Lib.hid (hinv.out.miss HL.out hlt hf)
        have HF := Lib.hid (show decide ((xs.drop i).take 8 = flagL) = false from hf)
        clear hf
        go_wp2_with fail
        go_region_held3 (fun w' => True) (trivial) (first | (go_at_call 74; refine (flag_impl _).mono ?_; rintro e w1 ⟨a1, c1, rfl, o1, b1⟩; have r1 := o1.row; have hr1 := HP.out.below (show Below wr.heap.size wr w1 from (Below.refl _ _).drew.trans b1) (Nat.le_refl _); have B1 := hB.trans ((show Below wr.heap.size wr w1 from (Below.refl _ _).drew.trans b1).mono hB.size); clear b1 o1) | (go_at_call 84; refine (equal_any _ _ _ _ _ _ _ _ _ hr1 r1 (by omega)).mono ?_; rintro e w2 ⟨rfl, b2⟩; have B2 := B1.trans (b2.mono B1.size); clear b2; rw [HF.out]))
        all_goals
          go_wp2
          go_roundw
          case rel => exact ⟨i + 1, by go_num, by omega, H2.out, B2⟩
          case measure => simp [intOf] <;> omega
      · have H2 := Lib.hid (hinv.out.hit HL.out hlt hf)
        have HF := Lib.hid (show decide ((xs.drop i).take 8 = flagL) = true from hf)
        clear hf
        go_wp2_with fail
        go_region_held3 (fun w' => True) (trivial) (first | (go_at_call 74; refine (flag_impl _).mono ?_; rintro e w1 ⟨a1, c1, rfl, o1, b1⟩; have r1 := o1.row; have hr1 := HP.out.below (show Below wr.heap.size wr w1 from (Below.refl _ _).drew.trans b1) (Nat.le_refl _); have B1 := hB.trans ((show Below wr.heap.size wr w1 from (Below.refl _ _).drew.trans b1).mono hB.size); clear b1 o1) | (go_at_call 84; refine (equal_any _ _ _ _ _ _ _ _ _ hr1 r1 (by omega)).mono ?_; rintro e w2 ⟨rfl, b2⟩; have B2 := B1.trans (b2.mono B1.size); clear b2; rw [HF.out]))
        all_goals
          go_wp2
          go_ret
          exact ⟨by rw [H2.out]; rfl, B2⟩
    · have hiI : ¬ (i : Int) + 8 ≤ (n : Int) := by omega
      have H2 := Lib.hid (hinv.out.done HL.out hlt)
      go_wp2
      go_ret
      exact ⟨by rw [H2.out]; rfl, hB⟩

/-- The frames that are found from a flag on. -/
def between (xs : List Int) (p s : Nat) : List Int := (xs.drop p).take (s + 8 - p)
def optL : Option Fr → List Fr
  | some f => [f]
  | none => []
def framesF (xs : List Int) : Nat → Int → List Fr
  | 0, _ => []
  | f + 1, p => if p < 0 then [] else if nextL xs (p.toNat + 7) < 0 then [] else optL (readL (between xs p.toNat (nextL xs (p.toNat + 7)).toNat)) ++ framesF xs f (nextL xs (p.toNat + 7))
def framesL (xs : List Int) : List Fr := framesF xs (xs.length + 1) (nextL xs 0)
def framesIn (xs : List Int) : List Fr × Int := if listOk 1200 0 1 xs then (framesL xs, 0) else ([], 1)
theorem framesIn_no {xs : List Int} (h : listOk 1200 0 1 xs = false) : framesIn xs = ([], 1) := by simp [framesIn, h]
theorem framesIn_yes {xs : List Int} (h : listOk 1200 0 1 xs = true) : framesIn xs = (framesL xs, 0) := by simp [framesIn, h]
/-- Some frames have been found; the place of the next flag is known. -/
def FsInv (xs : List Int) (p : Int) (acc : List Fr) : Prop := ∃ f, acc ++ framesF xs f p = framesL xs ∧ (0 ≤ p → (xs.length : Int) < p + f ∧ (acc.length : Int) ≤ p)
theorem FsInv.start (xs : List Int) : FsInv xs (nextL xs 0) [] := ⟨xs.length + 1, rfl, fun h => ⟨by omega, by simpa using h⟩⟩
theorem FsInv.none_ {xs : List Int} {p : Int} {acc : List Fr} (h : FsInv xs p acc) (hp : p < 0) : framesL xs = acc := by
  obtain ⟨f, h1, h2⟩ := h
  rw [← h1]
  cases f with
  | zero => simp [framesF]
  | succ f => rw [framesF, if_pos hp, List.append_nil]
theorem FsInv.stop {xs : List Int} {P n : Nat} {acc : List Fr} (h : FsInv xs (P : Int) acc) (hl : xs.length = n) (hP : P + 8 ≤ n) (hs : nextL xs (P + 7) < 0) : framesL xs = acc := by
  obtain ⟨f, h1, h2⟩ := h
  obtain ⟨h2, h3⟩ := h2 (by omega)
  obtain ⟨f', rfl⟩ : ∃ f', f = f' + 1 := ⟨f - 1, by omega⟩
  rw [← h1, framesF, if_neg (by omega), Int.toNat_natCast, if_pos hs, List.append_nil]
theorem FsInv.step {xs : List Int} {P S n : Nat} {acc : List Fr} (h : FsInv xs (P : Int) acc) (hl : xs.length = n) (hP : P + 8 ≤ n) (hs : nextL xs (P + 7) = (S : Int)) (hPS : P + 7 ≤ S) : FsInv xs (S : Int) (acc ++ optL (readL (between xs P S))) := by
  obtain ⟨f, h1, h2⟩ := h
  obtain ⟨h2, h3⟩ := h2 (by omega)
  obtain ⟨f', rfl⟩ : ∃ f', f = f' + 1 := ⟨f - 1, by omega⟩
  refine ⟨f', ?_, fun _ => ⟨by omega, ?_⟩⟩
  · rw [← h1, framesF, if_neg (by omega), Int.toNat_natCast, hs, if_neg (by omega), Int.toNat_natCast, List.append_assoc]
  · have : (optL (readL (between xs P S))).length ≤ 1 := by cases readL (between xs P S) <;> simp [optL]
    simp only [List.length_append]
    omega
theorem FsInv.len {xs : List Int} {P : Nat} {acc : List Fr} (h : FsInv xs (P : Int) acc) : acc.length ≤ P := by
  obtain ⟨f, h1, h2⟩ := h
  have := (h2 (by omega)).2
  omega
theorem between_ok {xs : List Int} (h : listOk 1200 0 1 xs = true) (p s : Nat) : listOk 1200 0 1 (between xs p s) = true := by
  have hle := listOk_le h rfl
  simp only [listOk, Bool.and_eq_true, decide_eq_true_eq, List.all_eq_true] at h ⊢
  refine ⟨fun x hx => h.1 x (List.mem_of_mem_drop (List.mem_of_mem_take hx)), ?_⟩
  have : (between xs p s).length ≤ xs.length := by simp only [between, List.length_take, List.length_drop]; omega
  omega
end Go.Proofs.Ytmljcbfpennjkaa
