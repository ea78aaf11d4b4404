/- KeptSoundings, CleanOnce, CleanSoundings, by both programs. -/
import Derived.Test.YtcbehnlpefjhdaaKeep
namespace Go.Proofs.Ytcbehnlpefjhdaa
open Go.RowKit
set_option maxRecDepth 100000
set_option linter.unusedVariables false

theorem cleanF_one (ss : List I4) (r l m : Int) (ks : List Int) (c : Int) : (cleanF ss r l m 1 ks c).1 = onceL ss r l m ks := by
  by_cases h : (onceL ss r l m ks).length = ks.length
  · rw [cleanF_stop h]; exact (onceL_same h).symm
  · rw [show (1 : Nat) = 0 + 1 from rfl, cleanF_go h]; rfl
theorem Idx.clean {ss : List I4} {r l m : Int} : ∀ (f : Nat) (ks : List Int) (c : Int), Idx ss ks → Idx ss (cleanF ss r l m f ks c).1 := by
  intro f
  induction f with
  | zero => intro ks c h; exact h
  | succ f ih =>
    intro ks c h
    by_cases he : (onceL ss r l m ks).length = ks.length
    · rw [cleanF_stop he]; exact h
    · rw [cleanF_go he]; exact ih _ _ h.once

set_option maxHeartbeats 1600000 in
theorem keptSoundings_spec (a : Option Addr) (n c : Nat) (xs : List I4) (r l m : Int) (w : World) (h : Row w 4 a n (frs xs)) (hn : n ≤ 1048576) :
    Calls Try.prog 26 #[.slice a n c, .agg #[.int .i64 r, .int .i64 l, .int .i64 m]] w fun e w' => ∃ a q cp, e = .returned (.tuple #[.slice a q cp, .int .i64 (keptSoundings xs r l m).2]) ∧ Own w' w.heap.size w'.heap.size 2 1 a q cp (ints (keptSoundings xs r l m).1) ∧ Below w.heap.size w w' := by
  have K := Lib.hid (Blk.new w 26 #[.int .i64 r, .int .i64 l, .int .i64 m])
  have B : Below w.heap.size w (w.alloc (.cells #[.int .i64 r, .int .i64 l, .int .i64 m] 26)) := (Below.refl _ _).alloc (Nat.le_refl _) _
  have hxl := Lib.hid h.len4
  go_enter Try.func26, Try.ntmps26
  go_wp2_with fail
  go_at_call 33
  refine (l23Code_any _ _ _ _ _ _ _ _ (h.alloc4 _) hn).mono ?_
  rintro e w1 ⟨rfl, hb⟩
  replace K := Lib.hid (K.out.belowSelf hb)
  replace B := B.trans (hb.mono B.size)
  have h2 := h.below4 B (Nat.le_refl _)
  clear hb
  cases hr : sndsOk xs && spikeRuleOk r l m
  · have hno := Lib.hid (show keptSoundings xs r l m = ([], 1) by simp [keptSoundings, ruleC_no hr])
    rw [ruleC_no hr]
    clear hr
    go_wp2
    go_ret2
    rw [hno.out]
    exact ⟨_, _, _, rfl, Own.nil_ _ _ _ _ _, B⟩
  · have hyes := Lib.hid (ruleC_yes hr)
    rw [hyes.out]
    simp only [Bool.and_eq_true] at hr
    obtain ⟨hs, hro⟩ := hr
    have hn2 := sndsOk_len hs hxl.out
    have HS := Lib.hid hs; clear hs
    have HO := Lib.hid hro; clear hro
    have hsz := B.size
    have k0 : w1.cell? ⟨w.heap.size, 0, none⟩ = some (.int .i64 r) := K.out.cell 0
    have k1 : w1.cell? ⟨w.heap.size, 1, none⟩ = some (.int .i64 l) := K.out.cell 1
    have k2 : w1.cell? ⟨w.heap.size, 2, none⟩ = some (.int .i64 m) := K.out.cell 2
    have hy := Lib.hid (show keptSoundings xs r l m = ((cleanL xs r l m).1, 0) by simp [keptSoundings, hyes.out])
    go_wp2_with fail
    go_at_call 48
    refine (l23Keep_any _ _ _ _ _ _ _ 200 (by omega) _ h2 HS.out HO.out).mono ?_
    rintro e w2 ⟨a', q, cp, rfl, ho, hb⟩
    go_wp2
    go_ret2
    rw [hy.out]
    exact ⟨_, _, _, rfl, ho.mono hsz (Nat.le_refl _), B.trans (hb.mono B.size)⟩

set_option maxHeartbeats 1600000 in
theorem keptSoundings_impl (a : Option Addr) (n c : Nat) (xs : List I4) (r l m : Int) (w : World) (h : Row w 4 a n (frs xs)) (hn : n ≤ 1048576) :
    Calls Try.prog 25 #[.slice a n c, .agg #[.int .i64 r, .int .i64 l, .int .i64 m]] w fun e w' => ∃ a q cp, e = .returned (.tuple #[.slice a q cp, .int .i64 (keptSoundings xs r l m).2]) ∧ Own w' w.heap.size w'.heap.size 2 1 a q cp (ints (keptSoundings xs r l m).1) ∧ Below w.heap.size w w' := by
  have K := Lib.hid (Blk.new w 26 #[.int .i64 r, .int .i64 l, .int .i64 m])
  have B : Below w.heap.size w (w.alloc (.cells #[.int .i64 r, .int .i64 l, .int .i64 m] 26)) := (Below.refl _ _).alloc (Nat.le_refl _) _
  have hxl := Lib.hid h.len4
  go_enter Try.func25, Try.ntmps25
  go_wp2_with fail
  go_at_call 45
  refine (ruleCode_any _ _ _ _ _ _ _ _ (h.alloc4 _) hn).mono ?_
  rintro e w1 ⟨rfl, hb⟩
  replace K := Lib.hid (K.out.belowSelf hb)
  replace B := B.trans (hb.mono B.size)
  have h2 := h.below4 B (Nat.le_refl _)
  clear hb
  cases hr : sndsOk xs && spikeRuleOk r l m
  · have hno := Lib.hid (show keptSoundings xs r l m = ([], 1) by simp [keptSoundings, ruleC_no hr])
    rw [ruleC_no hr]
    clear hr
    go_wp2
    go_ret2
    rw [hno.out]
    exact ⟨_, _, _, rfl, Own.nil_ _ _ _ _ _, B⟩
  · have hyes := Lib.hid (ruleC_yes hr)
    rw [hyes.out]
    simp only [Bool.and_eq_true] at hr
    obtain ⟨hs, hro⟩ := hr
    have hn2 := sndsOk_len hs hxl.out
    have HS := Lib.hid hs; clear hs
    have HO := Lib.hid hro; clear hro
    have hsz := B.size
    have k0 : w1.cell? ⟨w.heap.size, 0, none⟩ = some (.int .i64 r) := K.out.cell 0
    have k1 : w1.cell? ⟨w.heap.size, 1, none⟩ = some (.int .i64 l) := K.out.cell 1
    have k2 : w1.cell? ⟨w.heap.size, 2, none⟩ = some (.int .i64 m) := K.out.cell 2
    have hy := Lib.hid (show keptSoundings xs r l m = ((cleanL xs r l m).1, 0) by simp [keptSoundings, hyes.out])
    go_wp2_with fail
    go_at_call 46
    refine (clean_any _ _ _ _ _ _ _ _ h2 HS.out HO.out).mono ?_
    rintro e w2 ⟨a', q, cp, rfl, ho, hb⟩
    go_wp2
    go_ret2
    rw [hy.out]
    exact ⟨_, _, _, rfl, ho.mono hsz (Nat.le_refl _), B.trans (hb.mono B.size)⟩

set_option maxHeartbeats 1600000 in
theorem cleanSoundings_spec (a : Option Addr) (n c : Nat) (xs : List I4) (r l m : Int) (w : World) (h : Row w 4 a n (frs xs)) (hn : n ≤ 1048576) :
    Calls Try.prog 22 #[.slice a n c, .agg #[.int .i64 r, .int .i64 l, .int .i64 m]] w fun e w' => ∃ a q cp, e = .returned (.tuple #[.slice a q cp, .int .i64 (cleanSoundings xs r l m).2.1, .int .i64 (cleanSoundings xs r l m).2.2]) ∧ Own w' w.heap.size w'.heap.size 46 4 a q cp (frs (cleanSoundings xs r l m).1) ∧ Below w.heap.size w w' := by
  have K := Lib.hid (Blk.new w 26 #[.int .i64 r, .int .i64 l, .int .i64 m])
  have B : Below w.heap.size w (w.alloc (.cells #[.int .i64 r, .int .i64 l, .int .i64 m] 26)) := (Below.refl _ _).alloc (Nat.le_refl _) _
  have hxl := Lib.hid h.len4
  go_enter Try.func22, Try.ntmps22
  go_wp2_with fail
  go_at_call 33
  refine (l23Code_any _ _ _ _ _ _ _ _ (h.alloc4 _) hn).mono ?_
  rintro e w1 ⟨rfl, hb⟩
  replace K := Lib.hid (K.out.belowSelf hb)
  replace B := B.trans (hb.mono B.size)
  have h2 := h.below4 B (Nat.le_refl _)
  clear hb
  cases hr : sndsOk xs && spikeRuleOk r l m
  · have hno := Lib.hid (show cleanSoundings xs r l m = ([], 0, 1) by simp [cleanSoundings, ruleC_no hr])
    rw [ruleC_no hr]
    clear hr
    go_wp2
    go_ret3
    rw [hno.out]
    exact ⟨_, _, _, rfl, Own.nil_ _ _ _ _ _, B⟩
  · have hyes := Lib.hid (ruleC_yes hr)
    rw [hyes.out]
    simp only [Bool.and_eq_true] at hr
    obtain ⟨hs, hro⟩ := hr
    have hn2 := sndsOk_len hs hxl.out
    have HS := Lib.hid hs; clear hs
    have HO := Lib.hid hro; clear hro
    have hsz := B.size
    have k0 : w1.cell? ⟨w.heap.size, 0, none⟩ = some (.int .i64 r) := K.out.cell 0
    have k1 : w1.cell? ⟨w.heap.size, 1, none⟩ = some (.int .i64 l) := K.out.cell 1
    have k2 : w1.cell? ⟨w.heap.size, 2, none⟩ = some (.int .i64 m) := K.out.cell 2
    have hy := Lib.hid (show cleanSoundings xs r l m = (chosen xs (cleanL xs r l m).1, (cleanL xs r l m).2, 0) by simp [cleanSoundings, hyes.out])
    have hix := Lib.hid (Idx.clean (ss := xs) (r := r) (l := l) (m := m) 200 (allL xs) 0 (Idx.all xs))
    have hle := cleanL_len xs r l m
    go_wp2_with fail
    go_at_call 48
    refine (l23Keep_any _ _ _ _ _ _ _ 200 (by omega) _ h2 HS.out HO.out).mono ?_
    rintro e w2 ⟨a', q, cp, rfl, ho, hb⟩
    have hq : q ≤ 200 := by have := ho.row.len; have := hxl.out; unfold cleanL at hle; omega
    replace B := B.trans (hb.mono B.size)
    have h3 := h.below4 B (Nat.le_refl _)
    have hrk := ho.row
    have hsz2 := B.size
    clear hb ho hle
    go_wp2_with fail
    go_at_call 49
    refine (l23Take_any _ _ _ _ _ _ _ _ _ h3 hrk hix.out hn (by omega)).mono ?_
    rintro e w3 ⟨a2, q2, cp2, rfl, ho, hb⟩
    go_wp2
    go_ret3
    rw [hy.out]
    exact ⟨_, _, _, rfl, ho.mono hsz2 (Nat.le_refl _), B.trans (hb.mono B.size)⟩

set_option maxHeartbeats 1600000 in
theorem cleanSoundings_impl (a : Option Addr) (n c : Nat) (xs : List I4) (r l m : Int) (w : World) (h : Row w 4 a n (frs xs)) (hn : n ≤ 1048576) :
    Calls Try.prog 21 #[.slice a n c, .agg #[.int .i64 r, .int .i64 l, .int .i64 m]] w fun e w' => ∃ a q cp, e = .returned (.tuple #[.slice a q cp, .int .i64 (cleanSoundings xs r l m).2.1, .int .i64 (cleanSoundings xs r l m).2.2]) ∧ Own w' w.heap.size w'.heap.size 46 4 a q cp (frs (cleanSoundings xs r l m).1) ∧ Below w.heap.size w w' := by
  have K := Lib.hid (Blk.new w 26 #[.int .i64 r, .int .i64 l, .int .i64 m])
  have B : Below w.heap.size w (w.alloc (.cells #[.int .i64 r, .int .i64 l, .int .i64 m] 26)) := (Below.refl _ _).alloc (Nat.le_refl _) _
  have hxl := Lib.hid h.len4
  go_enter Try.func21, Try.ntmps21
  go_wp2_with fail
  go_at_call 45
  refine (ruleCode_any _ _ _ _ _ _ _ _ (h.alloc4 _) hn).mono ?_
  rintro e w1 ⟨rfl, hb⟩
  replace K := Lib.hid (K.out.belowSelf hb)
  replace B := B.trans (hb.mono B.size)
  have h2 := h.below4 B (Nat.le_refl _)
  clear hb
  cases hr : sndsOk xs && spikeRuleOk r l m
  · have hno := Lib.hid (show cleanSoundings xs r l m = ([], 0, 1) by simp [cleanSoundings, ruleC_no hr])
    rw [ruleC_no hr]
    clear hr
    go_wp2
    go_ret3
    rw [hno.out]
    exact ⟨_, _, _, rfl, Own.nil_ _ _ _ _ _, B⟩
  · have hyes := Lib.hid (ruleC_yes hr)
    rw [hyes.out]
    simp only [Bool.and_eq_true] at hr
    obtain ⟨hs, hro⟩ := hr
    have hn2 := sndsOk_len hs hxl.out
    have HS := Lib.hid hs; clear hs
    have HO := Lib.hid hro; clear hro
    have hsz := B.size
    have k0 : w1.cell? ⟨w.heap.size, 0, none⟩ = some (.int .i64 r) := K.out.cell 0
    have k1 : w1.cell? ⟨w.heap.size, 1, none⟩ = some (.int .i64 l) := K.out.cell 1
    have k2 : w1.cell? ⟨w.heap.size, 2, none⟩ = some (.int .i64 m) := K.out.cell 2
    have hy := Lib.hid (show cleanSoundings xs r l m = (chosen xs (cleanL xs r l m).1, (cleanL xs r l m).2, 0) by simp [cleanSoundings, hyes.out])
    have hix := Lib.hid (Idx.clean (ss := xs) (r := r) (l := l) (m := m) 200 (allL xs) 0 (Idx.all xs))
    have hle := cleanL_len xs r l m
    go_wp2_with fail
    go_at_call 46
    refine (clean_any _ _ _ _ _ _ _ _ h2 HS.out HO.out).mono ?_
    rintro e w2 ⟨a', q, cp, rfl, ho, hb⟩
    have hq : q ≤ 200 := by have := ho.row.len; have := hxl.out; omega
    replace B := B.trans (hb.mono B.size)
    have h3 := h.below4 B (Nat.le_refl _)
    have hrk := ho.row
    have hsz2 := B.size
    clear hb ho hle
    go_wp2_with fail
    go_at_call 47
    refine (chosen_any _ _ _ _ _ _ _ _ _ h3 hrk hix.out hn (by omega)).mono ?_
    rintro e w3 ⟨a2, q2, cp2, rfl, ho, hb⟩
    go_wp2
    go_ret3
    rw [hy.out]
    exact ⟨_, _, _, rfl, ho.mono hsz2 (Nat.le_refl _), B.trans (hb.mono B.size)⟩

set_option maxHeartbeats 1600000 in
theorem cleanOnce_spec (a : Option Addr) (n c : Nat) (xs : List I4) (r l m : Int) (w : World) (h : Row w 4 a n (frs xs)) (hn : n ≤ 1048576) :
    Calls Try.prog 24 #[.slice a n c, .agg #[.int .i64 r, .int .i64 l, .int .i64 m]] w fun e w' => ∃ a q cp, e = .returned (.tuple #[.slice a q cp, .int .i64 (cleanOnce xs r l m).2]) ∧ Own w' w.heap.size w'.heap.size 46 4 a q cp (frs (cleanOnce xs r l m).1) ∧ Below w.heap.size w w' := by
  have K := Lib.hid (Blk.new w 26 #[.int .i64 r, .int .i64 l, .int .i64 m])
  have B : Below w.heap.size w (w.alloc (.cells #[.int .i64 r, .int .i64 l, .int .i64 m] 26)) := (Below.refl _ _).alloc (Nat.le_refl _) _
  have hxl := Lib.hid h.len4
  go_enter Try.func24, Try.ntmps24
  go_wp2_with fail
  go_at_call 33
  refine (l23Code_any _ _ _ _ _ _ _ _ (h.alloc4 _) hn).mono ?_
  rintro e w1 ⟨rfl, hb⟩
  replace K := Lib.hid (K.out.belowSelf hb)
  replace B := B.trans (hb.mono B.size)
  have h2 := h.below4 B (Nat.le_refl _)
  clear hb
  cases hr : sndsOk xs && spikeRuleOk r l m
  · have hno := Lib.hid (show cleanOnce xs r l m = ([], 1) by simp [cleanOnce, ruleC_no hr])
    rw [ruleC_no hr]
    clear hr
    go_wp2
    go_ret2
    rw [hno.out]
    exact ⟨_, _, _, rfl, Own.nil_ _ _ _ _ _, B⟩
  · have hyes := Lib.hid (ruleC_yes hr)
    rw [hyes.out]
    simp only [Bool.and_eq_true] at hr
    obtain ⟨hs, hro⟩ := hr
    have hn2 := sndsOk_len hs hxl.out
    have HS := Lib.hid hs; clear hs
    have HO := Lib.hid hro; clear hro
    have hsz := B.size
    have k0 : w1.cell? ⟨w.heap.size, 0, none⟩ = some (.int .i64 r) := K.out.cell 0
    have k1 : w1.cell? ⟨w.heap.size, 1, none⟩ = some (.int .i64 l) := K.out.cell 1
    have k2 : w1.cell? ⟨w.heap.size, 2, none⟩ = some (.int .i64 m) := K.out.cell 2
    have hy := Lib.hid (show cleanOnce xs r l m = (chosen xs (cleanF xs r l m 1 (allL xs) 0).1, 0) by simp [cleanOnce, hyes.out, cleanF_one])
    have hix := Lib.hid (Idx.clean (ss := xs) (r := r) (l := l) (m := m) 1 (allL xs) 0 (Idx.all xs))
    have hle := cleanF_len (ss := xs) (r := r) (l := l) (m := m) 1 (allL xs) 0
    rw [allL_length] at hle
    go_wp2_with fail
    go_at_call 48
    refine (l23Keep_any _ _ _ _ _ _ _ 1 (by omega) _ h2 HS.out HO.out).mono ?_
    rintro e w2 ⟨a', q, cp, rfl, ho, hb⟩
    have hq : q ≤ 200 := by have := ho.row.len; have := hxl.out; omega
    replace B := B.trans (hb.mono B.size)
    have h3 := h.below4 B (Nat.le_refl _)
    have hrk := ho.row
    have hsz2 := B.size
    clear hb ho hle
    go_wp2_with fail
    go_at_call 49
    refine (l23Take_any _ _ _ _ _ _ _ _ _ h3 hrk hix.out hn (by omega)).mono ?_
    rintro e w3 ⟨a2, q2, cp2, rfl, ho, hb⟩
    go_wp2
    go_ret2
    rw [hy.out]
    exact ⟨_, _, _, rfl, ho.mono hsz2 (Nat.le_refl _), B.trans (hb.mono B.size)⟩

set_option maxHeartbeats 1600000 in
theorem cleanOnce_impl (a : Option Addr) (n c : Nat) (xs : List I4) (r l m : Int) (w : World) (h : Row w 4 a n (frs xs)) (hn : n ≤ 1048576) :
    Calls Try.prog 23 #[.slice a n c, .agg #[.int .i64 r, .int .i64 l, .int .i64 m]] w fun e w' => ∃ a q cp, e = .returned (.tuple #[.slice a q cp, .int .i64 (cleanOnce xs r l m).2]) ∧ Own w' w.heap.size w'.heap.size 46 4 a q cp (frs (cleanOnce xs r l m).1) ∧ Below w.heap.size w w' := by
  have K := Lib.hid (Blk.new w 26 #[.int .i64 r, .int .i64 l, .int .i64 m])
  have B : Below w.heap.size w (w.alloc (.cells #[.int .i64 r, .int .i64 l, .int .i64 m] 26)) := (Below.refl _ _).alloc (Nat.le_refl _) _
  have hxl := Lib.hid h.len4
  go_enter Try.func23, Try.ntmps23
  go_wp2_with fail
  go_at_call 45
  refine (ruleCode_any _ _ _ _ _ _ _ _ (h.alloc4 _) hn).mono ?_
  rintro e w1 ⟨rfl, hb⟩
  replace K := Lib.hid (K.out.belowSelf hb)
  replace B := B.trans (hb.mono B.size)
  have h2 := h.below4 B (Nat.le_refl _)
  clear hb
  cases hr : sndsOk xs && spikeRuleOk r l m
  · have hno := Lib.hid (show cleanOnce xs r l m = ([], 1) by simp [cleanOnce, ruleC_no hr])
    rw [ruleC_no hr]
    clear hr
    go_wp2
    go_ret2
    rw [hno.out]
    exact ⟨_, _, _, rfl, Own.nil_ _ _ _ _ _, B⟩
  · have hyes := Lib.hid (ruleC_yes hr)
    rw [hyes.out]
    simp only [Bool.and_eq_true] at hr
    obtain ⟨hs, hro⟩ := hr
    have hn2 := sndsOk_len hs hxl.out
    have HS := Lib.hid hs; clear hs
    have HO := Lib.hid hro; clear hro
    have hsz := B.size
    have k0 : w1.cell? ⟨w.heap.size, 0, none⟩ = some (.int .i64 r) := K.out.cell 0
    have k1 : w1.cell? ⟨w.heap.size, 1, none⟩ = some (.int .i64 l) := K.out.cell 1
    have k2 : w1.cell? ⟨w.heap.size, 2, none⟩ = some (.int .i64 m) := K.out.cell 2
    have hy := Lib.hid (show cleanOnce xs r l m = (chosen xs (onceL xs r l m (allL xs)), 0) by simp [cleanOnce, hyes.out])
    clear k0 k1 k2
    go_wp2_with fail
    replace B := B.drew
    replace K := Lib.hid K.out.drew
    go_region_held3 (fun w' => w'.cell? ⟨w.heap.size, 0, none⟩ = some (.int .i64 r) ∧ w'.cell? ⟨w.heap.size, 1, none⟩ = some (.int .i64 l) ∧ w'.cell? ⟨w.heap.size, 2, none⟩ = some (.int .i64 m)) (exact ⟨K.out.cell 0, K.out.cell 1, K.out.cell 2⟩) (first | (go_at_call 51; refine (all_any _ _ _ _ _ (h.below4 B (Nat.le_refl _)) hn).mono ?_; rintro e w2 ⟨a1, q1, c1, rfl, o1, hb⟩; replace K := Lib.hid (K.out.belowSelf hb); replace B := B.trans (hb.mono B.size); have r1 := o1.row; have l1 := Lib.hid r1.len; clear hb o1) | (go_at_call 50; refine (once_any _ _ _ _ _ _ _ _ _ _ _ _ (h.below4 B (Nat.le_refl _)) r1 (Idx.all xs) HS.out HO.out (by have := l1.out; rw [allL_length] at this; have := hxl.out; omega)).mono ?_; rintro e w3 ⟨a2, q2, c2, rfl, o2, hb⟩; replace K := Lib.hid (K.out.belowSelf hb); replace B := B.trans (hb.mono B.size); have r2 := o2.row; have l2 := Lib.hid r2.len; clear hb o2) | (go_at_call 47; refine (chosen_any _ _ _ _ _ _ _ _ _ (h.below4 B (Nat.le_refl _)) r2 (Idx.once (Idx.all xs)) hn (by have := l2.out; have := onceL_len xs r l m (allL xs); rw [allL_length] at this; have := hxl.out; omega)).mono ?_; have hs4 := Lib.hid B.size; rintro e w4 ⟨a3, q3, c3, rfl, o3, hb⟩; replace K := Lib.hid (K.out.belowSelf hb); replace B := B.trans (hb.mono B.size); clear hb))
    go_wp2
    go_ret2
    rw [hy.out]
    exact ⟨_, _, _, rfl, o3.mono hs4.out (Nat.le_refl _), B⟩

theorem keptSoundings_len (xs : List I4) (r l m : Int) : (keptSoundings xs r l m).1.length ≤ xs.length := by
  unfold keptSoundings
  split
  · exact cleanL_len _ _ _ _
  · simp
theorem cleanSoundings_len (xs : List I4) (r l m : Int) : (cleanSoundings xs r l m).1.length ≤ xs.length := by
  unfold cleanSoundings
  split
  · rw [chosen_length]; exact cleanL_len _ _ _ _
  · simp
theorem cleanOnce_len (xs : List I4) (r l m : Int) : (cleanOnce xs r l m).1.length ≤ xs.length := by
  unfold cleanOnce
  split
  · rw [chosen_length]; have := onceL_len xs r l m (allL xs); rwa [allL_length] at this
  · simp
end Go.Proofs.Ytcbehnlpefjhdaa
