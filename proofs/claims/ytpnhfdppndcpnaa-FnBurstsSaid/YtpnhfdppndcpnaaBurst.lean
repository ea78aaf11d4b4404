/- BurstPlaces by both programs. -/
import Derived.Test.YtpnhfdppndcpnaaSorted
import Derived.Test.YtpnhfdppndcpnaaPlacesFn
namespace Go.Proofs.Ytpnhfdppndcpnaa
open Go.RowKit
set_option maxRecDepth 100000
set_option linter.unusedVariables false

def burstOk (r c f l : Int) : Bool := tableOk r c && (decide (0 ≤ f) && (decide (0 ≤ l) && decide (f + l ≤ r * c)))
def burstPlaces (r c f l : Int) : List Int × Int := if burstOk r c f l then (sortI (((placesL r c).drop f.toNat).take l.toNat), 0) else ([], 2)
theorem burst_no {r c f l : Int} (h : burstOk r c f l = false) : burstPlaces r c f l = ([], 2) := by simp [burstPlaces, h]
theorem burst_yes {r c f l : Int} (h : burstOk r c f l = true) : burstPlaces r c f l = (sortI (((placesL r c).drop f.toNat).take l.toNat), 0) := by simp [burstPlaces, h]
theorem placesL_length {r c : Int} (h1 : 1 ≤ r) (h2 : 1 ≤ c) : (placesL r c).length = c.toNat * r.toNat := placesTo_length _ _ _
theorem burstPlaces_len (r c f l : Int) : (burstPlaces r c f l).1.length ≤ 1200 := by
  unfold burstPlaces
  split
  · rename_i h
    simp only [burstOk, Bool.and_eq_true, decide_eq_true_eq] at h
    have ht := tableOk_true h.1
    rw [sortI_length, List.length_take]
    omega
  · simp
theorem burst_nat {r c : Int} (h1 : 1 ≤ r ∧ r ≤ 40) (h2 : 1 ≤ c ∧ c ≤ 40) : ((c.toNat * r.toNat : Nat) : Int) = r * c := by
  obtain ⟨R, rfl⟩ := Int.eq_ofNat_of_zero_le (show 0 ≤ r by omega)
  obtain ⟨C, rfl⟩ := Int.eq_ofNat_of_zero_le (show 0 ≤ c by omega)
  simp [Int.mul_comm]

theorem sub_ints {xs : List Int} {i m : Nat} : ((ints xs).drop i).take m = ints ((xs.drop i).take m) := by simp [ints, List.map_take, List.map_drop]

set_option maxHeartbeats 3200000 in
theorem burstPlaces_spec (r c f l : Int) (w : World) (hf : I64 f) (hl : I64 l) :
    Calls Try.prog 5 #[.int .i64 r, .int .i64 c, .int .i64 f, .int .i64 l] w fun e w' => ∃ a n cp, e = .returned (.tuple #[.slice a n cp, .int .i64 (burstPlaces r c f l).2]) ∧ Own w' w.heap.size w'.heap.size 2 1 a n cp (ints (burstPlaces r c f l).1) ∧ Below w.heap.size w w' := by
  obtain ⟨hf0, hf1⟩ := hf
  obtain ⟨hl0, hl1⟩ := hl
  cases ht : tableOk r c
  · rw [burst_no (by simp [burstOk, ht])]
    go_enter Try.func5, Try.ntmps5
    go_wp2_with (go_at_call 22; refine (l26Table_any _ _ _).mono ?_; rintro e w' ⟨rfl, rfl⟩)
    go_ret2
    exact ⟨_, _, _, rfl, Own.nil_ _ _ _ _ _, Below.refl _ _⟩
  obtain ⟨h1, h2, h3⟩ := tableOk_true ht
  have hm := mul_bd h1 h2
  have hnat := Lib.hid (burst_nat h1 h2)
  obtain ⟨M, hM⟩ : ∃ M, r * c = M := ⟨_, rfl⟩
  have hMb : 1 ≤ M ∧ M ≤ 1200 := by omega
  cases hF : inR 0 M f
  · have hno : burstOk r c f l = false := by
      simp only [inR, Bool.and_eq_false_iff, decide_eq_false_iff_not] at hF
      cases hb : burstOk r c f l
      · rfl
      · simp only [burstOk, Bool.and_eq_true, decide_eq_true_eq, hM] at hb; omega
    rw [burst_no hno]
    clear hno hm
    go_enter Try.func5, Try.ntmps5
    go_wp2_with (first | (go_at_call 22; refine (l26Table_any _ _ _).mono ?_; rintro e w' ⟨rfl, rfl⟩) | (go_at_call 23; refine (l01In_any _ _ _ _).mono ?_; rintro e w' ⟨rfl, rfl⟩))
    go_ret2
    exact ⟨_, _, _, rfl, Own.nil_ _ _ _ _ _, Below.refl _ _⟩
  have hFb : 0 ≤ f ∧ f ≤ M := by simp only [inR, Bool.and_eq_true, decide_eq_true_eq] at hF; exact hF
  cases hL : inR 0 (M - f) l
  · have hno : burstOk r c f l = false := by
      simp only [inR, Bool.and_eq_false_iff, decide_eq_false_iff_not] at hL
      cases hb : burstOk r c f l
      · rfl
      · simp only [burstOk, Bool.and_eq_true, decide_eq_true_eq, hM] at hb; omega
    rw [burst_no hno]
    clear hno hm
    go_enter Try.func5, Try.ntmps5
    go_wp2_with (first | (go_at_call 22; refine (l26Table_any _ _ _).mono ?_; rintro e w' ⟨rfl, rfl⟩) | (go_at_call 23; refine (l01In_any _ _ _ _).mono ?_; rintro e w' ⟨rfl, rfl⟩))
    go_ret2
    exact ⟨_, _, _, rfl, Own.nil_ _ _ _ _ _, Below.refl _ _⟩
  have hLb : 0 ≤ l ∧ l ≤ M - f := by simp only [inR, Bool.and_eq_true, decide_eq_true_eq] at hL; exact hL
  have hyes : burstOk r c f l = true := by simp only [burstOk, Bool.and_eq_true, decide_eq_true_eq, hM]; exact ⟨ht, by omega, by omega, by omega⟩
  rw [burst_yes hyes]
  obtain ⟨F, rfl⟩ := Int.eq_ofNat_of_zero_le hFb.1
  obtain ⟨L, rfl⟩ := Int.eq_ofNat_of_zero_le hLb.1
  simp only [Int.toNat_natCast]
  obtain ⟨q, hq⟩ : ∃ q, (placesL r c).length = q := ⟨_, rfl⟩
  have hqM : (q : Int) = M := by rw [← hq, placesL_length h1.1 h2.1, ← hM]; exact hnat.out
  have HQ := Lib.hid hq
  have hsum : ((F : Int) + (L : Int)) ≤ 1200 := by omega
  obtain ⟨zs, hz1⟩ : ∃ zs, ((placesL r c).drop F).take L = zs := ⟨_, rfl⟩
  rw [hz1]
  have HZ1 := Lib.hid hz1
  clear hyes hm hf0 hf1 hl0 hl1 hq hz1
  go_enter Try.func5, Try.ntmps5
  go_wp2_with (first | (go_at_call 22; refine (l26Table_any _ _ _).mono ?_; rintro e w' ⟨rfl, rfl⟩) | (go_at_call 23; refine (l01In_any _ _ _ _).mono ?_; rintro e w' ⟨rfl, rfl⟩))
  go_at_call 25
  refine (l26From_any _ _ _ h1 h2).mono ?_
  rintro e w1 ⟨a1, n1, cp, rfl, o1, hb⟩
  obtain rfl : n1 = q := by have := o1.row.len; rw [HQ.out] at this; exact this.symm
  obtain ⟨g, rfl, -, -, -⟩ := o1.head (by omega)
  obtain ⟨hc1, hc2⟩ := o1.capBd
  have HO := Lib.hid o1.row
  have HB := Lib.hid hb
  have hs1 : (F : Int) ≤ (F : Int) + (L : Int) := by omega
  have hs2 : (F : Int) + (L : Int) ≤ (cp : Int) := by omega
  have hs3 : ((F : Int) + (L : Int)).toNat = F + L := by omega
  have hs0 : (0 : Int) ≤ (F : Int) + (L : Int) := by omega
  clear o1 hb
  have hz := HZ1.out
  have hFL : F + L ≤ n1 := by omega
  have hzl : zs.length = L := by rw [← hz, List.length_take, List.length_drop, HQ.out]; omega
  have hR : ∀ a', (0 < L → a' = some ⟨g, F, none⟩) → Row w1 1 a' L (ints zs) := fun a' ha => by
    rw [← hz, ← sub_ints]
    exact HO.out.sub hFL a' (fun h b off e => by injection e with e; injection e with e1 e2 _; subst e1; subst e2; rw [Nat.zero_add]; exact ha h)
  have HR := Lib.hid hR
  have HZ := Lib.hid hzl
  clear hR hz hzl hFL
  by_cases hcF : cp = F
  · go_wp2_with fail
    go_at_call 24
    refine (l01Sorted_any _ L _ zs _ (HR.out _ (fun h => by omega)) (by omega)).mono ?_
    rintro e w2 ⟨a2, c2, rfl, o2, hb2⟩
    have hf := Lib.hid (o2.mono (lo' := w.heap.size) HB.out.size (Nat.le_refl _))
    have hb3 := Lib.hid (HB.out.trans (hb2.mono HB.out.size))
    clear o2 hb2
    go_wp2
    go_ret2
    exact ⟨_, _, _, rfl, hf.out, hb3.out⟩
  · go_wp2_with fail
    go_at_call 24
    refine (l01Sorted_any _ L _ zs _ (HR.out _ (fun h => rfl)) (by omega)).mono ?_
    rintro e w2 ⟨a2, c2, rfl, o2, hb2⟩
    have hf := Lib.hid (o2.mono (lo' := w.heap.size) HB.out.size (Nat.le_refl _))
    have hb3 := Lib.hid (HB.out.trans (hb2.mono HB.out.size))
    clear o2 hb2
    go_wp2
    go_ret2
    exact ⟨_, _, _, rfl, hf.out, hb3.out⟩

set_option maxHeartbeats 3200000 in
theorem burstPlaces_impl (r c f l : Int) (w : World) (hf : I64 f) (hl : I64 l) :
    Calls Try.prog 6 #[.int .i64 r, .int .i64 c, .int .i64 f, .int .i64 l] w fun e w' => ∃ a n cp, e = .returned (.tuple #[.slice a n cp, .int .i64 (burstPlaces r c f l).2]) ∧ Own w' w.heap.size w'.heap.size 2 1 a n cp (ints (burstPlaces r c f l).1) ∧ Below w.heap.size w w' := by
  obtain ⟨hf0, hf1⟩ := hf
  obtain ⟨hl0, hl1⟩ := hl
  cases ht : tableOk r c
  · rw [burst_no (by simp [burstOk, ht])]
    go_enter Try.func6, Try.ntmps6
    go_wp2_with (go_at_call 26; refine (isTable_any _ _ _).mono ?_; rintro e w' ⟨rfl, rfl⟩)
    go_ret2
    exact ⟨_, _, _, rfl, Own.nil_ _ _ _ _ _, Below.refl _ _⟩
  obtain ⟨h1, h2, h3⟩ := tableOk_true ht
  have hm := mul_bd h1 h2
  have hnat := Lib.hid (burst_nat h1 h2)
  obtain ⟨M, hM⟩ : ∃ M, r * c = M := ⟨_, rfl⟩
  have hMb : 1 ≤ M ∧ M ≤ 1200 := by omega
  cases hL : inR 0 M l
  · have hno : burstOk r c f l = false := by
      simp only [inR, Bool.and_eq_false_iff, decide_eq_false_iff_not] at hL
      cases hb : burstOk r c f l
      · rfl
      · simp only [burstOk, Bool.and_eq_true, decide_eq_true_eq, hM] at hb; omega
    rw [burst_no hno]
    clear hno hm
    go_enter Try.func6, Try.ntmps6
    go_wp2_with (first | (go_at_call 26; refine (isTable_any _ _ _).mono ?_; rintro e w' ⟨rfl, rfl⟩) | (go_at_call 27; refine (within_any _ _ _ _).mono ?_; rintro e w' ⟨rfl, rfl⟩))
    go_ret2
    exact ⟨_, _, _, rfl, Own.nil_ _ _ _ _ _, Below.refl _ _⟩
  have hLb : 0 ≤ l ∧ l ≤ M := by simp only [inR, Bool.and_eq_true, decide_eq_true_eq] at hL; exact hL
  cases hF : inR 0 (M - l) f
  · have hno : burstOk r c f l = false := by
      simp only [inR, Bool.and_eq_false_iff, decide_eq_false_iff_not] at hF
      cases hb : burstOk r c f l
      · rfl
      · simp only [burstOk, Bool.and_eq_true, decide_eq_true_eq, hM] at hb; omega
    rw [burst_no hno]
    clear hno hm
    go_enter Try.func6, Try.ntmps6
    go_wp2_with (first | (go_at_call 26; refine (isTable_any _ _ _).mono ?_; rintro e w' ⟨rfl, rfl⟩) | (go_at_call 27; refine (within_any _ _ _ _).mono ?_; rintro e w' ⟨rfl, rfl⟩))
    go_ret2
    exact ⟨_, _, _, rfl, Own.nil_ _ _ _ _ _, Below.refl _ _⟩
  have hFb : 0 ≤ f ∧ f ≤ M - l := by simp only [inR, Bool.and_eq_true, decide_eq_true_eq] at hF; exact hF
  have hyes : burstOk r c f l = true := by simp only [burstOk, Bool.and_eq_true, decide_eq_true_eq, hM]; exact ⟨ht, by omega, by omega, by omega⟩
  rw [burst_yes hyes]
  obtain ⟨F, rfl⟩ := Int.eq_ofNat_of_zero_le hFb.1
  obtain ⟨L, rfl⟩ := Int.eq_ofNat_of_zero_le hLb.1
  simp only [Int.toNat_natCast]
  obtain ⟨q, hq⟩ : ∃ q, (placesL r c).length = q := ⟨_, rfl⟩
  have hqM : (q : Int) = M := by rw [← hq, placesL_length h1.1 h2.1, ← hM]; exact hnat.out
  have HQ := Lib.hid hq
  have hsum : ((F : Int) + (L : Int)) ≤ 1200 := by omega
  obtain ⟨zs, hz1⟩ : ∃ zs, ((placesL r c).drop F).take L = zs := ⟨_, rfl⟩
  rw [hz1]
  have HZ1 := Lib.hid hz1
  clear hyes hm hf0 hf1 hl0 hl1 hq hz1
  go_enter Try.func6, Try.ntmps6
  go_wp2_with (first | (go_at_call 26; refine (isTable_any _ _ _).mono ?_; rintro e w' ⟨rfl, rfl⟩) | (go_at_call 27; refine (within_any _ _ _ _).mono ?_; rintro e w' ⟨rfl, rfl⟩))
  go_at_call 30
  refine (places_any _ _ _ h1 h2).mono ?_
  rintro e w1 ⟨a1, n1, cp, rfl, o1, hb⟩
  obtain rfl : n1 = q := by have := o1.row.len; rw [HQ.out] at this; exact this.symm
  obtain ⟨g, rfl, -, -, -⟩ := o1.head (by omega)
  obtain ⟨hc1, hc2⟩ := o1.capBd
  have HO := Lib.hid o1.row
  have HB := Lib.hid hb
  have hs1 : (F : Int) ≤ (F : Int) + (L : Int) := by omega
  have hs2 : (F : Int) + (L : Int) ≤ (cp : Int) := by omega
  have hs3 : ((F : Int) + (L : Int)).toNat = F + L := by omega
  have hs0 : (0 : Int) ≤ (F : Int) + (L : Int) := by omega
  clear o1 hb
  have hz := HZ1.out
  have hFL : F + L ≤ n1 := by omega
  have hzl : zs.length = L := by rw [← hz, List.length_take, List.length_drop, HQ.out]; omega
  have hR : ∀ a', (0 < L → a' = some ⟨g, F, none⟩) → Row w1 1 a' L (ints zs) := fun a' ha => by
    rw [← hz, ← sub_ints]
    exact HO.out.sub hFL a' (fun h b off e => by injection e with e; injection e with e1 e2 _; subst e1; subst e2; rw [Nat.zero_add]; exact ha h)
  have HR := Lib.hid hR
  have HZ := Lib.hid hzl
  clear hR hz hzl hFL
  by_cases hcF : cp = F
  · go_wp2_with fail
    go_at_call 29
    refine (values_any _ _ _ _).mono ?_
    rintro e w2 ⟨rfl, rfl⟩
    obtain ⟨w3, hw3⟩ : ∃ w3, w1.alloc (.cells #[.slice (some ⟨g, 0, none⟩) L 0] 22) = w3 := ⟨_, rfl⟩
    obtain ⟨X, hX⟩ : ∃ X, w1.heap.size = X := ⟨_, rfl⟩
    have hba : Below w1.heap.size w1 w3 := hw3 ▸ (Below.refl _ _).alloc (Nat.le_refl _) _
    have hcell : w3.cell? ⟨X, 0, none⟩ = some (.slice (some ⟨g, 0, none⟩) L 0) := by rw [← hw3]; exact (Blk.new' w1 _ _ hX.symm).cell 0
    have hXl : X < w3.heap.size := by rw [← hw3, World.size_alloc]; omega
    have hI := ((HR.out (some ⟨g, 0, none⟩) (fun h => by omega)).below hba (Nat.le_refl _)).intsAt
    have HB3 := HB.out.trans (hba.mono HB.out.size)
    rw [hw3, hX]
    have HI := Lib.hid hI
    clear hw3 hba hI hX
    go_wp2_with fail
    go_at_call 28
    refine (sorted_any X L _ _ zs (by omega) w3 hXl hcell HI.out).mono ?_
    rintro e w4 ⟨a2, c2, rfl, o2, hb2⟩
    have hf := Lib.hid (o2.mono (lo' := w.heap.size) HB3.size (Nat.le_refl _))
    have hb3 := Lib.hid (HB3.trans (hb2.mono HB3.size))
    clear o2 hb2 hcell
    go_wp2
    go_ret2
    exact ⟨_, _, _, rfl, hf.out, hb3.out⟩
  · go_wp2_with fail
    go_at_call 29
    refine (values_any _ _ _ _).mono ?_
    rintro e w2 ⟨rfl, rfl⟩
    obtain ⟨w3, hw3⟩ : ∃ w3, w1.alloc (.cells #[.slice (some ⟨g, F, none⟩) L (cp - F)] 22) = w3 := ⟨_, rfl⟩
    obtain ⟨X, hX⟩ : ∃ X, w1.heap.size = X := ⟨_, rfl⟩
    have hba : Below w1.heap.size w1 w3 := hw3 ▸ (Below.refl _ _).alloc (Nat.le_refl _) _
    have hcell : w3.cell? ⟨X, 0, none⟩ = some (.slice (some ⟨g, F, none⟩) L (cp - F)) := by rw [← hw3]; exact (Blk.new' w1 _ _ hX.symm).cell 0
    have hXl : X < w3.heap.size := by rw [← hw3, World.size_alloc]; omega
    have hI := ((HR.out (some ⟨g, F, none⟩) (fun h => rfl)).below hba (Nat.le_refl _)).intsAt
    have HB3 := HB.out.trans (hba.mono HB.out.size)
    rw [hw3, hX]
    have HI := Lib.hid hI
    clear hw3 hba hI hX
    go_wp2_with fail
    go_at_call 28
    refine (sorted_any X L _ _ zs (by omega) w3 hXl hcell HI.out).mono ?_
    rintro e w4 ⟨a2, c2, rfl, o2, hb2⟩
    have hf := Lib.hid (o2.mono (lo' := w.heap.size) HB3.size (Nat.le_refl _))
    have hb3 := Lib.hid (HB3.trans (hb2.mono HB3.size))
    clear o2 hb2 hcell
    go_wp2
    go_ret2
    exact ⟨_, _, _, rfl, hf.out, hb3.out⟩
end Go.Proofs.Ytpnhfdppndcpnaa
