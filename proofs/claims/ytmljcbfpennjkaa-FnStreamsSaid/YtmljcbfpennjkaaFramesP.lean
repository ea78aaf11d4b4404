/- FramesIn, by both programs. -/
import Derived.Test.YtmljcbfpennjkaaFramesI
namespace Go.Proofs.Ytmljcbfpennjkaa
open Go.RowKit Go.Shelf
set_option maxRecDepth 100000
set_option linter.unusedVariables false
set_option linter.unusedSimpArgs false

theorem FOwn.alloc {w : World} {lo hi n c : Nat} {a : Option Addr} {fs : List FrV} (h : FOwn w lo hi a n c fs) (o : Obj) : FOwn (w.alloc o) lo hi a n c fs := h.below ((Below.refl _ _).alloc (Nat.le_refl _) o) (.inr (Nat.le_refl _))
theorem FOwn.lit0 (w : World) : FOwn (w.alloc (.cells #[] 28)) w.heap.size (w.alloc (.cells #[] 28)).heap.size (some ⟨w.heap.size, 0, none⟩) 0 0 [] :=
  ⟨(Own.lit0 w 28 3).leave, fun i f h => by simp at h, fun i j f g b h => by simp at h⟩
/-- A frame more. -/
theorem FOwn.snoc {w w' : World} {lo hi lo2 hi2 hi3 q c c2 : Nat} {a A2 : Option Addr} {fs : List FrV} {f : FrV} (h : FOwn w lo hi a q c fs) (ho : Own w lo2 hi2 2 1 f.a f.n f.c (ints f.xs)) (h1 : hi ≤ lo2) (h2 : lo ≤ lo2) (h3 : hi2 ≤ hi3) (h4 : hi ≤ hi3)
    (hl : Own w' lo hi3 28 3 A2 (q + 1) c2 (frms (fs ++ [f]))) (hg : w.grownBy w' (Value.slice a q c).ownBlock) : FOwn w' lo hi3 A2 (q + 1) c2 (fs ++ [f]) := by
  have hf := ho.beside hg (fun b hb => own_ne h.own ho (by decide) b hb)
  refine ⟨hl, fun i g hgi => ?_, fun i j p r b hp hr hij hb => ?_⟩
  · rw [List.getElem?_append] at hgi
    split at hgi
    · exact ((h.pays i g hgi).beside hg (fun b hb => own_ne h.own (h.pays i g hgi) (by decide) b hb)).mono (Nat.le_refl _) h4
    · have : g = f := by
        have := List.mem_of_getElem? hgi
        simpa using this
      subst this
      exact hf.mono h2 h3
  · have old : ∀ (i : Nat) (g : FrV), fs[i]? = some g → ∀ b, g.blk = some b → b < hi := fun i g hg b hb => ((h.pays i g hg).lt b hb).2.1
    have new : ∀ b, f.blk = some b → lo2 ≤ b := fun b hb => (ho.lt b hb).1
    rw [List.getElem?_append] at hp hr
    split at hp
    · split at hr
      · exact h.apart i j p r b hp hr hij hb
      · have : r = f := by have := List.mem_of_getElem? hr; simpa using this
        subst this
        intro e
        have := old i p hp b hb
        have := new b e
        omega
    · have hpf : p = f := by have := List.mem_of_getElem? hp; simpa using this
      subst hpf
      split at hr
      · intro e
        have := old j r hr b e
        have := new b hb
        omega
      · rename_i h5 h6
        have e1 := (List.getElem?_eq_some_iff.1 hp).1
        have e2 := (List.getElem?_eq_some_iff.1 hr).1
        simp at e1 e2
        omega

/-- What a search for frames hands out. -/
def FramesPost1 (w : World) (xs : List Int) (e : Ending) (w' : World) : Prop := ∃ (a : Option Addr) (q c : Nat) (fs : List FrV),
  e = .returned (.slice a q c) ∧ FOwn w' w.heap.size w'.heap.size a q c fs ∧ Below w.heap.size w w' ∧ Hid (fs.map FrV.val = framesL xs) ∧ Hid (∀ f ∈ fs, f.n ≤ 200) ∧ q ≤ 1200
def FramesPost (w : World) (xs : List Int) (e : Ending) (w' : World) : Prop := ∃ (a : Option Addr) (q c : Nat) (fs : List FrV),
  e = .returned (.tuple #[.slice a q c, .int .i64 (framesIn xs).2]) ∧ FOwn w' w.heap.size w'.heap.size a q c fs ∧ Below w.heap.size w w' ∧ Hid (fs.map FrV.val = (framesIn xs).1) ∧ Hid (∀ f ∈ fs, f.n ≤ 200) ∧ q ≤ 1200

set_option maxHeartbeats 6400000 in
theorem frames_impl (a : Option Addr) (n c : Nat) (xs : List Int) (w : World) (h : Row w 1 a n (ints xs)) (hn : n ≤ 1200) (hnc : n ≤ c) (hc : c ≤ maxLen) (hb : listOk 1200 0 1 xs = true) :
    Calls Try.prog 51 #[.slice a n c] w (FramesPost1 w xs) := by
  have HL := Lib.hid h.len
  have HMX := Lib.hid hc
  simp only [maxLen] at hc
  have HOK := Lib.hid hb
  clear hb
  go_enter Try.func51, Try.ntmps51
  go_wp2_with fail
  go_at_call 85
  refine (next_impl _ _ _ 0 xs _ h hn hnc HMX.out (by omega)).mono ?_
  rintro e w0 ⟨rfl, b0⟩
  have B0 := b0
  have F0 := FOwn.nil_ w0 w.heap.size w0.heap.size
  clear b0
  have hst : -1 ≤ nextL xs 0 ∧ (nextL xs 0 < 0 ∨ nextL xs 0 + 8 ≤ n) := by
    rcases nextL_cases HL.out 0 with h1 | ⟨j, h1, h2, h3, h4⟩ <;> rw [h1] <;> omega
  have hfs := Lib.hid (FsInv.start xs)
  generalize nextL xs 0 = p0 at *
  go_wp2
  go_loopw [3, 4] (fun l p wr => ∃ (pz : Int) (a' : Option Addr) (q cp : Nat) (fs : List FrV), p = .int .i64 pz ∧ l = .slice a' q cp ∧ -1 ≤ pz ∧ (pz < 0 ∨ pz + 8 ≤ n) ∧ FOwn wr w.heap.size wr.heap.size a' q cp fs ∧ Hid (FsInv xs pz (fs.map FrV.val)) ∧ Hid (∀ f ∈ fs, f.n ≤ 200) ∧ Below w.heap.size w wr ∧ q ≤ 1200) (fun _ p _ => ((n : Int) + 10 - intOf p).toNat)
  case atStart => exact ⟨p0, _, _, _, [], rfl, rfl, hst.1, hst.2, F0, hfs, (by intro f hf; cases hf), B0, by omega⟩
  case round =>
    clear F0 B0 hfs hst
    obtain ⟨pz, a', q, cp, fs, rfl, rfl, hp1, hp2, hF, hinv, hsz, hB, hq⟩ := hrel
    by_cases hp : 0 ≤ pz
    · obtain ⟨P, rfl⟩ := Int.eq_ofNat_of_zero_le hp
      have hP8 : P + 8 ≤ n := by omega
      have hPI : (0 : Int) ≤ (P : Int) := by omega
      obtain ⟨b, off, rfl, -⟩ := h.2 (by omega)
      have HX := Lib.hid (h.below hB (Nat.le_refl _))
      have HF := Lib.hid hF
      clear hp hp1 hp2 hF
      go_wp2_with fail
      rw [show (P : Int) + 7 = ((P + 7 : Nat) : Int) by omega]
      go_at_call 85
      refine (next_impl _ _ _ (P + 7) xs _ HX.out hn hnc HMX.out (by omega)).mono ?_
      rintro e w1 ⟨rfl, b1⟩
      replace HX := Lib.hid (HX.out.below b1 (Nat.le_refl _))
      replace HF := Lib.hid (HF.out.below b1 (.inr (Nat.le_refl _))).leave
      have B1 := hB.trans (b1.mono hB.size)
      have hz1 := b1.size
      clear b1 hB
      rcases nextL_cases HL.out (P + 7) with hs | ⟨S, hs, hS1, hS2, hS3⟩
      · rw [hs]
        have HD := Lib.hid (hinv.out.stop HL.out hP8 (by rw [hs]; omega))
        clear hs
        go_wp2
        go_ret
        exact ⟨_, _, _, fs, rfl, HF.out, B1, HD.out.symm, hsz, hq⟩
      · rw [hs]
        have HST := Lib.hid (hinv.out.step HL.out hP8 hs hS1)
        have HNL := Lib.hid (hinv.out.len)
        have g1 : (S : Int) + 8 ≤ (c : Int) := by omega
        have g2 : ((S : Int) + 8).toNat = S + 8 := by omega
        have g3 : (P : Int) ≤ (S : Int) + 8 := by omega
        have g4 : ¬ c = P := by omega
        have g5 : (0 : Int) ≤ (S : Int) + 8 := by omega
        have g6 : ¬ (S : Int) < 0 := by omega
        have HP := Lib.hid (HX.out.piece (c := c) (i := P) (m := S + 8 - P) (by omega))
        clear hs hinv
        go_wp2_with fail
        go_at_call 49
        refine (read_impl _ _ _ (between xs P S) _ HP.out (by omega) (by omega) (by simp only [maxLen]; omega) (between_ok HOK.out P S)).mono ?_
        rintro e w2 ⟨k, m, a1, n1, c1, ys, rfl, O1, b2, hr, hn1⟩
        replace HF := Lib.hid (HF.out.below b2 (.inr (Nat.le_refl _)))
        have B2 := B1.trans (b2.mono B1.size)
        have hz2 := b2.size
        have hz0 := B1.size
        clear b2 HX HP B1 g1 g2 g3 g4 g5
        cases hrd : readL (between xs P S) with
        | none =>
          rw [hrd] at HST
          have HF2 := Lib.hid (HF.out.alloc (.cells #[.int .i64 k, .int .i64 m, .slice a1 n1 c1] 28)).leave
          have B3 := B2.alloc B2.size (.cells #[.int .i64 k, .int .i64 m, .slice a1 n1 c1] 28)
          clear hr O1 HF
          go_wp2
          go_roundw
          case rel => exact ⟨S, a', q, cp, fs, rfl, rfl, by omega, by omega, HF2.out, (by have := HST.out; unfold Hid; simpa [optL] using this), hsz, B3, hq⟩
          case measure => simp [intOf] <;> omega
        | some f =>
          obtain rfl := hr.out _ hrd
          rw [hrd] at HST
          have HFB := Lib.hid ((HF.out.alloc (.cells #[.int .i64 k, .int .i64 m, .slice a1 n1 c1] 28)).alloc (.cells #[.int .i64 k, .int .i64 m, .slice a1 n1 c1] 28))
          have HO1 := Lib.hid ((O1.alloc (.cells #[.int .i64 k, .int .i64 m, .slice a1 n1 c1] 28)).alloc (.cells #[.int .i64 k, .int .i64 m, .slice a1 n1 c1] 28))
          have B3 := (B2.alloc B2.size (.cells #[.int .i64 k, .int .i64 m, .slice a1 n1 c1] 28)).alloc (by have := B2.size; simp; omega) (.cells #[.int .i64 k, .int .i64 m, .slice a1 n1 c1] 28)
          have hql : q ≤ 1199 := by have h1 := HNL.out; have h2 := HF.out.len; rw [List.length_map] at h1; omega
          clear hr O1 HF B2
          go_wp2_with (at_builtin; refine wpList_app _ rfl (.tmp 28) (.tmp 30) _ rfl Try.underlying39 info_Frame rfl (by decide) rfl HFB.out.own rfl (by exact Row.litK _ (frms [⟨k, m, a1, n1, c1, ys⟩]) _ _ 1 3 (by simp) (by rfl)) (frms_one _) (by decide) (by simp only [maxLen]; omega) (by omega) (by have := B3.size; simpa using this) ?_; intro A2 c2 w5 O5 hb5 hg5)
          have HF5 := Lib.hid (FOwn.snoc HFB.out (hi3 := w5.heap.size) (f := ⟨k, m, a1, n1, c1, ys⟩) HO1.out (Nat.le_refl _) hz0 (by have := hg5.size; simp at this; omega) (by have := hg5.size; simp at this; omega) (by rw [frms_app]; exact O5) hg5)
          have B5 := B3.trans hb5
          clear O5 hb5 hg5 HFB HO1 B3
          go_roundw
          case rel => exact ⟨S, A2, q + 1, c2, fs ++ [⟨k, m, a1, n1, c1, ys⟩], rfl, rfl, by omega, by omega, HF5.out, (by have := HST.out; unfold Hid; simpa [optL, FrV.val] using this), (by intro f hf; rcases List.mem_append.1 hf with hf | hf; exact hsz.out f hf; (simp at hf; subst hf; exact hn1)), B5, by omega⟩
          case measure => simp [intOf] <;> omega
    · have hpI : ¬ (0 : Int) ≤ pz := hp
      have HD := Lib.hid (hinv.out.none_ (by omega))
      have HF := Lib.hid hF
      clear hF
      go_wp2
      go_ret
      exact ⟨_, _, _, fs, rfl, HF.out, hB, HD.out.symm, hsz, hq⟩

set_option maxHeartbeats 6400000 in
theorem framesIn_spec (a : Option Addr) (n c : Nat) (xs : List Int) (w : World) (h : Row w 1 a n (ints xs)) (hn : n ≤ 1048576) (hnc : n ≤ c) (hc : c ≤ maxLen) :
    Calls Try.prog 21 #[.slice a n c] w (FramesPost w xs) := by
  have HL := Lib.hid h.len
  have HMX := Lib.hid hc
  simp only [maxLen] at hc
  cases hok : listOk 1200 0 1 xs
  · have HRF := Lib.hid (framesIn_no hok)
    go_enter Try.func21, Try.ntmps21
    go_wp2_with (go_at_call 46; refine (l25Bits_any _ _ _ _ _ h hn).mono ?_; rintro e w' ⟨rfl, rfl⟩)
    go_ret2
    exact ⟨none, 0, 0, [], (by rw [HRF.out] <;> rfl), FOwn.nil_ _ _ _, Below.refl _ _, by rw [HRF.out]; rfl, (by intro f hf; cases hf), by omega⟩
  have HRF := Lib.hid (framesIn_yes hok)
  have HOK := Lib.hid hok
  replace hn : n ≤ 1200 := by have := listOk_le hok h.len; omega
  go_enter Try.func21, Try.ntmps21
  go_wp2_with (first | (go_at_call 46; refine (l25Bits_any _ _ _ _ _ h (by omega)).mono ?_; rintro e w' ⟨rfl, rfl⟩) | fail)
  have OL := FOwn.lit0 w
  have BL := (Below.refl w.heap.size w).alloc (Nat.le_refl _) (.cells #[] 28)
  have HX := Lib.hid (h.below BL (Nat.le_refl _))
  go_wp2_with fail
  go_at_call 50
  refine (next_spec _ _ _ 0 xs _ HX.out hn hnc HMX.out (by omega)).mono ?_
  rintro e w0 ⟨rfl, b0⟩
  have B0 := BL.trans (b0.mono BL.size)
  have F0 := (OL.below b0 (.inr (Nat.le_refl _))).leave
  clear b0 OL BL HX
  have hst : -1 ≤ nextL xs 0 ∧ (nextL xs 0 < 0 ∨ nextL xs 0 + 8 ≤ n) := by
    rcases nextL_cases HL.out 0 with h1 | ⟨j, h1, h2, h3, h4⟩ <;> rw [h1] <;> omega
  have hfs := Lib.hid (FsInv.start xs)
  generalize nextL xs 0 = p0 at *
  go_wp2
  go_loopw [4, 5] (fun l p wr => ∃ (pz : Int) (a' : Option Addr) (q cp : Nat) (fs : List FrV), p = .int .i64 pz ∧ l = .slice a' q cp ∧ -1 ≤ pz ∧ (pz < 0 ∨ pz + 8 ≤ n) ∧ FOwn wr w.heap.size wr.heap.size a' q cp fs ∧ Hid (FsInv xs pz (fs.map FrV.val)) ∧ Hid (∀ f ∈ fs, f.n ≤ 200) ∧ Below w.heap.size w wr ∧ q ≤ 1200) (fun _ p _ => ((n : Int) + 10 - intOf p).toNat)
  case atStart => exact ⟨p0, _, _, _, [], rfl, rfl, hst.1, hst.2, F0, hfs, (by intro f hf; cases hf), B0, by omega⟩
  case round =>
    clear F0 B0 hfs hst
    obtain ⟨pz, a', q, cp, fs, rfl, rfl, hp1, hp2, hF, hinv, hsz, hB, hq⟩ := hrel
    by_cases hp : 0 ≤ pz
    · obtain ⟨P, rfl⟩ := Int.eq_ofNat_of_zero_le hp
      have hP8 : P + 8 ≤ n := by omega
      have hPI : (0 : Int) ≤ (P : Int) := by omega
      obtain ⟨b, off, rfl, -⟩ := h.2 (by omega)
      have HX := Lib.hid (h.below hB (Nat.le_refl _))
      have HF := Lib.hid hF
      clear hp hp1 hp2 hF
      go_wp2_with fail
      rw [show (P : Int) + 7 = ((P + 7 : Nat) : Int) by omega]
      go_at_call 50
      refine (next_spec _ _ _ (P + 7) xs _ HX.out hn hnc HMX.out (by omega)).mono ?_
      rintro e w1 ⟨rfl, b1⟩
      replace HX := Lib.hid (HX.out.below b1 (Nat.le_refl _))
      replace HF := Lib.hid (HF.out.below b1 (.inr (Nat.le_refl _))).leave
      have B1 := hB.trans (b1.mono hB.size)
      have hz1 := b1.size
      clear b1 hB
      rcases nextL_cases HL.out (P + 7) with hs | ⟨S, hs, hS1, hS2, hS3⟩
      · rw [hs]
        have HD := Lib.hid (hinv.out.stop HL.out hP8 (by rw [hs]; omega))
        clear hs
        go_wp2
        go_ret2
        exact ⟨_, _, _, fs, (by rw [HRF.out] <;> rfl), HF.out, B1, (by rw [HRF.out]; exact HD.out.symm), hsz, hq⟩
      · rw [hs]
        have HST := Lib.hid (hinv.out.step HL.out hP8 hs hS1)
        have HNL := Lib.hid (hinv.out.len)
        have g1 : (S : Int) + 8 ≤ (c : Int) := by omega
        have g2 : ((S : Int) + 8).toNat = S + 8 := by omega
        have g3 : (P : Int) ≤ (S : Int) + 8 := by omega
        have g4 : ¬ c = P := by omega
        have g5 : (0 : Int) ≤ (S : Int) + 8 := by omega
        have g6 : ¬ (S : Int) < 0 := by omega
        have HP := Lib.hid (HX.out.piece (c := c) (i := P) (m := S + 8 - P) (by omega))
        clear hs hinv
        go_wp2_with fail
        go_at_call 47
        refine (read_spec _ _ _ (between xs P S) _ HP.out (by omega) (by omega) (by simp only [maxLen]; omega) (between_ok HOK.out P S)).mono ?_
        rintro e w2 ⟨k, m, a1, n1, c1, ys, rfl, O1, b2, hr, hn1⟩
        replace HF := Lib.hid (HF.out.below b2 (.inr (Nat.le_refl _)))
        have B2 := B1.trans (b2.mono B1.size)
        have hz2 := b2.size
        have hz0 := B1.size
        clear b2 HX HP B1 g1 g2 g3 g4 g5
        cases hrd : readL (between xs P S) with
        | none =>
          rw [hrd] at HST
          have HF2 := Lib.hid (HF.out.alloc (.cells #[.int .i64 k, .int .i64 m, .slice a1 n1 c1] 28)).leave
          have B3 := B2.alloc B2.size (.cells #[.int .i64 k, .int .i64 m, .slice a1 n1 c1] 28)
          clear hr O1 HF
          go_wp2
          go_roundw
          case rel => exact ⟨S, a', q, cp, fs, rfl, rfl, by omega, by omega, HF2.out, (by have := HST.out; unfold Hid; simpa [optL] using this), hsz, B3, hq⟩
          case measure => simp [intOf] <;> omega
        | some f =>
          obtain rfl := hr.out _ hrd
          rw [hrd] at HST
          have HFB := Lib.hid ((HF.out.alloc (.cells #[.int .i64 k, .int .i64 m, .slice a1 n1 c1] 28)).alloc (.cells #[.int .i64 k, .int .i64 m, .slice a1 n1 c1] 28))
          have HO1 := Lib.hid ((O1.alloc (.cells #[.int .i64 k, .int .i64 m, .slice a1 n1 c1] 28)).alloc (.cells #[.int .i64 k, .int .i64 m, .slice a1 n1 c1] 28))
          have B3 := (B2.alloc B2.size (.cells #[.int .i64 k, .int .i64 m, .slice a1 n1 c1] 28)).alloc (by have := B2.size; simp; omega) (.cells #[.int .i64 k, .int .i64 m, .slice a1 n1 c1] 28)
          have hql : q ≤ 1199 := by have h1 := HNL.out; have h2 := HF.out.len; rw [List.length_map] at h1; omega
          clear hr O1 HF B2
          go_wp2_with (at_builtin; refine wpList_app _ rfl (.tmp 33) (.tmp 35) _ rfl Try.underlying39 info_Frame rfl (by decide) rfl HFB.out.own rfl (by exact Row.litK _ (frms [⟨k, m, a1, n1, c1, ys⟩]) _ _ 1 3 (by simp) (by rfl)) (frms_one _) (by decide) (by simp only [maxLen]; omega) (by omega) (by have := B3.size; simpa using this) ?_; intro A2 c2 w5 O5 hb5 hg5)
          have HF5 := Lib.hid (FOwn.snoc HFB.out (hi3 := w5.heap.size) (f := ⟨k, m, a1, n1, c1, ys⟩) HO1.out (Nat.le_refl _) hz0 (by have := hg5.size; simp at this; omega) (by have := hg5.size; simp at this; omega) (by rw [frms_app]; exact O5) hg5)
          have B5 := B3.trans hb5
          clear O5 hb5 hg5 HFB HO1 B3
          go_roundw
          case rel => exact ⟨S, A2, q + 1, c2, fs ++ [⟨k, m, a1, n1, c1, ys⟩], rfl, rfl, by omega, by omega, HF5.out, (by have := HST.out; unfold Hid; simpa [optL, FrV.val] using this), (by intro f hf; rcases List.mem_append.1 hf with hf | hf; exact hsz.out f hf; (simp at hf; subst hf; exact hn1)), B5, by omega⟩
          case measure => simp [intOf] <;> omega
    · have hpI : ¬ (0 : Int) ≤ pz := hp
      have HD := Lib.hid (hinv.out.none_ (by omega))
      have HF := Lib.hid hF
      clear hF
      go_wp2
      go_ret2
      exact ⟨_, _, _, fs, (by rw [HRF.out] <;> rfl), HF.out, hB, (by rw [HRF.out]; exact HD.out.symm), hsz, hq⟩

theorem framesIn_impl (a : Option Addr) (n c : Nat) (xs : List Int) (w : World) (h : Row w 1 a n (ints xs)) (hn : n ≤ 1048576) (hnc : n ≤ c) (hc : c ≤ maxLen) :
    Calls Try.prog 22 #[.slice a n c] w (FramesPost w xs) := by
  cases hok : listOk 1200 0 1 xs
  · have HRF := Lib.hid (framesIn_no hok)
    go_enter Try.func22, Try.ntmps22
    go_wp2_with (go_at_call 48; refine (isBits_any _ _ _ _ _ _ h hn).mono ?_; rintro e w' ⟨rfl, rfl⟩)
    go_ret2
    exact ⟨none, 0, 0, [], (by rw [HRF.out] <;> rfl), FOwn.nil_ _ _ _, Below.refl _ _, by rw [HRF.out]; rfl, (by intro f hf; cases hf), by omega⟩
  · have HRF := Lib.hid (framesIn_yes hok)
    have HOK := Lib.hid hok
    have hle : n ≤ 1200 := by have := listOk_le hok h.len; omega
    go_enter Try.func22, Try.ntmps22
    go_wp2_with (first | (go_at_call 48; refine (isBits_any _ _ _ _ _ _ h hn).mono ?_; rintro e w' ⟨rfl, rfl⟩) | fail)
    go_at_call 51
    refine (frames_impl _ _ _ _ _ h hle hnc hc HOK.out).mono ?_
    rintro e w1 ⟨a1, q1, c1, fs, rfl, hF, b1, hv, hs, hq⟩
    go_wp2
    go_ret2
    exact ⟨_, _, _, fs, (by rw [HRF.out] <;> rfl), hF, b1, (by rw [HRF.out]; exact hv), hs, hq⟩
end Go.Proofs.Ytmljcbfpennjkaa
