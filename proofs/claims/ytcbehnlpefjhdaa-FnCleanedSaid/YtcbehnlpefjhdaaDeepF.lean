/- Whether a sounding is a deep spike, by the program. -/
import Derived.Test.YtcbehnlpefjhdaaNear
namespace Go.Proofs.Ytcbehnlpefjhdaa
open Go.RowKit
set_option maxRecDepth 100000
set_option linter.unusedVariables false

theorem deep_clo (a b c d r l m : Int) (R : Nat) (w : World) (hR : Blk w R 26 #[.int .i64 r, .int .i64 l, .int .i64 m])
    (h1 : -10000000 ≤ a ∧ a ≤ 10000000) (h2 : -10000000 ≤ b ∧ b ≤ 10000000) (h3 : -10000000 ≤ c ∧ c ≤ 10000000) (h4 : -10000000 ≤ d ∧ d ≤ 10000000) (h5 : 0 ≤ m ∧ m ≤ 1000000) :
    Calls Try.prog 57 #[.agg #[.int .i64 a, .int .i64 b], .agg #[.int .i64 c, .int .i64 d], .pointer (some ⟨R, 0, none⟩)] w fun e w' => e = .returned (.bool (apartB true a b c d m)) ∧ Below w.heap.size w w' := by
  have k2 : w.cell? ⟨R, 2, none⟩ = some (.int .i64 m) := hR.cell 2
  have hl := hR.lt
  go_enter Try.func57, Try.ntmps57
  go_wp2
  go_ret
  exact ⟨by simp [apartB], by go_grown⟩

/-- The literal inside isSpike, as isDeep hands it its own. -/
theorem deep_one (xs : List I4) (i k : Nat) (r l m : Int) (R P7 P5 P6 : Nat) (a : Option Addr) (n c : Nat) (w : World) (h : Row w 4 a n (frs xs)) (hs : sndsOk xs = true) (hm : 0 ≤ m ∧ m ≤ 1000000) (hi : i < n) (hk : k < n)
    (hR : Blk w R 26 #[.int .i64 r, .int .i64 l, .int .i64 m]) (h7 : Blk w P7 76 #[.func (.func 57) #[] #[.pointer (some ⟨R, 0, none⟩)]])
    (h5 : Blk w P5 24 #[.slice a n c]) (h6 : Blk w P6 3 #[.int .i64 (i : Int)]) :
    Calls Try.prog 73 #[.int .i64 (k : Int), .pointer (some ⟨P7, 0, none⟩), .pointer (some ⟨P5, 0, none⟩), .pointer (some ⟨P6, 0, none⟩)] w fun e w' => e = .returned (.bool (!(deepQ true xs m i (k : Int)))) ∧ Below w.heap.size w w' := by
  obtain ⟨x, y, d, e, hx⟩ := snd_at h.len4 hi
  obtain ⟨x', y', d', e', hx'⟩ := snd_at h.len4 hk
  obtain ⟨-, -, b1, b2⟩ := sndOk_bd (sndsOk_get hs hx.out)
  obtain ⟨-, -, b3, b4⟩ := sndOk_bd (sndsOk_get hs hx'.out)
  have hq := deepQ_at (deep := true) (m := m) hx.out hx'.out
  rw [hq]
  clear hq
  obtain ⟨b, off, rfl, hbw⟩ := h.head4 hi
  have hiI : (i : Int) < (n : Int) := by omega
  have hkI : (k : Int) < (n : Int) := by omega
  have hn := sndsOk_len hs h.len4
  have B : Below w.heap.size w w := Below.refl _ _
  have HR := Lib.hid hR
  have H7 := Lib.hid h7
  have H5 := Lib.hid h5
  have H6 := Lib.hid h6
  have k7 : w.cell? ⟨P7, 0, none⟩ = some (.func (.func 57) #[] #[.pointer (some ⟨R, 0, none⟩)]) := h7.cell 0
  clear hR h7 h5 h6
  go_enter Try.func73, Try.ntmps73
  go_wp2_with fail
  replace B := B.drew
  go_region_held3 (fun w' => w'.cell? ⟨P7, 0, none⟩ = some (.func (.func 57) #[] #[.pointer (some ⟨R, 0, none⟩)]) ∧ w'.cell? ⟨P5, 0, none⟩ = some (.slice (some ⟨b, off, none⟩) n c) ∧ w'.cell? ⟨P6, 0, none⟩ = some (.int .i64 (i : Int)) ∧ (w'.cell? ⟨b, off + i * 4, none⟩ = some (.int .i64 x) ∧ w'.cell? ⟨b, off + i * 4 + 1, none⟩ = some (.int .i64 y) ∧ w'.cell? ⟨b, off + i * 4 + 2, none⟩ = some (.int .i64 d) ∧ w'.cell? ⟨b, off + i * 4 + 3, none⟩ = some (.int .i64 e)) ∧ (w'.cell? ⟨b, off + k * 4, none⟩ = some (.int .i64 x') ∧ w'.cell? ⟨b, off + k * 4 + 1, none⟩ = some (.int .i64 y') ∧ w'.cell? ⟨b, off + k * 4 + 2, none⟩ = some (.int .i64 d') ∧ w'.cell? ⟨b, off + k * 4 + 3, none⟩ = some (.int .i64 e'))) (exact ⟨(H7.out.below B H7.out.lt).cell 0, (H5.out.below B H5.out.lt).cell 0, (H6.out.below B H6.out.lt).cell 0, (h.below4 B (Nat.le_refl _)).get4_ hx.out, (h.below4 B (Nat.le_refl _)).get4_ hx'.out⟩) (first | (go_at_call 39; refine (bounds_any _ _ _ _ _ (by omega) (by omega)).mono ?_; rintro e w1 ⟨rfl, hb⟩; replace B := B.trans (hb.mono B.size); clear hb) | (go_at_call 57; refine (deep_clo _ _ _ _ _ _ _ _ _ (HR.out.below B HR.out.lt) (by omega) (by omega) (by omega) (by omega) hm).mono ?_; rintro e w1 ⟨rfl, hb⟩; replace B := B.trans (hb.mono B.size); clear hb))
  go_wp2
  go_ret
  exact ⟨rfl, B⟩

theorem deep_index (q : Int → Bool) (xs : List Int) (p1 p2 p3 : Value) (a : Option Addr) (n c : Nat) (w : World) (h : Row w 1 a n (ints xs)) (hn : n ≤ 1048576)
    (H : ∀ W x, x ∈ xs → Below w.heap.size w W → Calls Try.prog 73 #[.int .i64 x, p1, p2, p3] W fun e W' => e = .returned (.bool (!(q x))) ∧ Below W.heap.size W W') :
    Calls Try.prog 76 #[.slice a n c, .func (.func 73) #[] #[p1, p2, p3]] w fun e w' => (∃ i, e = .returned (.int .i64 i) ∧ Found (xs.all q) i) ∧ Below w.heap.size w w' := by
  have HH := Lib.hid H; clear H
  go_enter Try.func76, Try.ntmps76
  go_wp2
  go_loopw [8] (fun i wr => ∃ k : Nat, k ≤ n ∧ i = .int .i64 k ∧ Hid ((xs.take k).all q = true) ∧ Below w.heap.size w wr) (fun i _ => n - (intOf i).toNat)
  case atStart => exact ⟨0, Nat.zero_le _, rfl, by unfold Hid; simp, Below.refl _ _⟩
  case round =>
    obtain ⟨k, hk, rfl, hall, hbel⟩ := hrel
    by_cases hlt : k < n
    · obtain ⟨b, off, x, rfl, hc, hx⟩ := (h.below hbel (Nat.le_refl _)).at_ hlt
      have hxm := Lib.hid (List.mem_of_getElem? hx.out)
      cases hin : q x
      · have e0 : (!q x) = true := by rw [hin]; rfl
        go_wp2_with fail
        go_at_call 73
        refine (HH.out _ x hxm.out hbel).mono ?_
        rintro e w1 ⟨rfl, hb⟩
        go_wp2
        go_ret
        exact ⟨⟨_, rfl, .inr ⟨all_false hx.out hin, by omega⟩⟩, hbel.trans (hb.mono hbel.size)⟩
      · have e0 : (!q x) = false := by rw [hin]; rfl
        go_wp2_with fail
        go_at_call 73
        refine (HH.out _ x hxm.out hbel).mono ?_
        rintro e w1 ⟨rfl, hb⟩
        go_wp2
        go_roundw
        case rel => exact ⟨k + 1, by omega, by go_num, all_snoc hx.out hall.out hin, hbel.trans (hb.mono hbel.size)⟩
        case measure => simp [intOf]; omega
    · have hd := Lib.hid (all_done h.len hk hlt hall.out)
      go_wp2
      go_ret
      exact ⟨⟨_, rfl, .inl ⟨hd.out, rfl⟩⟩, hbel⟩

theorem deep_contains (q : Int → Bool) (xs : List Int) (p1 p2 p3 : Value) (a : Option Addr) (n c : Nat) (w : World) (h : Row w 1 a n (ints xs)) (hn : n ≤ 1048576)
    (H : ∀ W x, x ∈ xs → Below w.heap.size w W → Calls Try.prog 73 #[.int .i64 x, p1, p2, p3] W fun e W' => e = .returned (.bool (!(q x))) ∧ Below W.heap.size W W') :
    Calls Try.prog 72 #[.slice a n c, .func (.func 73) #[] #[p1, p2, p3]] w fun e w' => e = .returned (.bool (!(xs.all q))) ∧ Below w.heap.size w w' := by
  have HH := Lib.hid H; clear H
  go_enter Try.func72, Try.ntmps72
  go_wp2_with fail
  go_at_call 76
  refine (deep_index q xs _ _ _ _ _ _ _ h hn HH.out).mono ?_
  rintro e w' ⟨⟨i, rfl, ⟨h1, rfl⟩ | ⟨h1, h2⟩⟩, hb⟩
  · go_wp2
    go_ret
    exact ⟨by rw [h1]; rfl, hb⟩
  · go_wp2
    go_ret
    exact ⟨by rw [h1]; rfl, hb⟩

set_option maxHeartbeats 1600000 in
theorem deep_isSpike (xs : List I4) (i : Nat) (r l m : Int) (R : Nat) (a : Option Addr) (n c : Nat) (w : World) (h : Row w 4 a n (frs xs)) (hs : sndsOk xs = true) (hr : 0 ≤ r ∧ r ≤ 10000) (hl : 1 ≤ l ∧ l ≤ 200) (hm : 0 ≤ m ∧ m ≤ 1000000) (hi : i < n)
    (hR : Blk w R 26 #[.int .i64 r, .int .i64 l, .int .i64 m]) :
    Calls Try.prog 56 #[.agg #[.int .i64 r, .int .i64 l, .int .i64 m], .slice a n c, .int .i64 (i : Int), .func (.func 57) #[] #[.pointer (some ⟨R, 0, none⟩)]] w fun e w' => e = .returned (.bool (spikeB true xs r l m i)) ∧ Below w.heap.size w w' := by
  have hn := sndsOk_len hs h.len4
  have hsz := Lib.hid h.len4
  have hmf : ∀ (fn : Fn) (first cap : Array Value) (w : World), (Instr.makeFunc fn first cap).run Try.prog w = .ok (.func fn first cap) w := fun _ _ _ _ => rfl
  obtain ⟨w4, hw4⟩ : ∃ w4, (((w.alloc (.cells #[.int .i64 r, .int .i64 l, .int .i64 m] 26)).alloc (.cells #[.slice a n c] 24)).alloc (.cells #[.int .i64 (i : Int)] 3)).alloc (.cells #[.func (.func 57) #[] #[.pointer (some ⟨R, 0, none⟩)]] 76) = w4 := ⟨_, rfl⟩
  have B : Below w.heap.size w w4 := hw4 ▸ ((((Below.refl _ _).alloc (Nat.le_refl _) _).alloc (by simp) _).alloc (by simp; omega) _).alloc (by simp; omega) _
  have K4 := Lib.hid (show Blk w4 w.heap.size 26 #[.int .i64 r, .int .i64 l, .int .i64 m] from hw4 ▸ (((Blk.new w _ _).alloc _).alloc _).alloc _)
  have K5 := Lib.hid (show Blk w4 (w.heap.size + 1) 24 #[.slice a n c] from hw4 ▸ ((Blk.new' _ _ _ (by simp)).alloc _).alloc _)
  have K6 := Lib.hid (show Blk w4 (w.heap.size + 1 + 1) 3 #[.int .i64 (i : Int)] from hw4 ▸ (Blk.new' _ _ _ (by simp)).alloc _)
  have K7 := Lib.hid (show Blk w4 (w.heap.size + 1 + 1 + 1) 76 #[.func (.func 57) #[] #[.pointer (some ⟨R, 0, none⟩)]] from hw4 ▸ Blk.new' _ _ _ (by simp))
  have KR := Lib.hid (hR.below B hR.lt)
  clear hR
  have c0 : w4.cell? ⟨w.heap.size, 0, none⟩ = some (.int .i64 r) := K4.out.cell 0
  have c1 : w4.cell? ⟨w.heap.size, 1, none⟩ = some (.int .i64 l) := K4.out.cell 1
  have c2 : w4.cell? ⟨w.heap.size, 2, none⟩ = some (.int .i64 m) := K4.out.cell 2
  have c5 : w4.cell? ⟨w.heap.size + 1, 0, none⟩ = some (.slice a n c) := K5.out.cell 0
  have c6 : w4.cell? ⟨w.heap.size + 1 + 1, 0, none⟩ = some (.int .i64 (i : Int)) := K6.out.cell 0
  have h4 := h.below4 B (Nat.le_refl _)
  have hw := Lib.hid hw4; clear hw4 c0 c1 c2 c5 c6
  go_enter Try.func56, Try.ntmps56
  go_wp2_with fail
  rw [hw.out]
  clear hw
  go_at_call 38
  refine (neighbours_any _ _ _ _ _ _ _ _ _ h4 hs hr hi).mono ?_
  rintro e w5 ⟨a', q, c', rfl, ho, hb⟩
  have hqn := pick_len (nearB xs r i) xs.length
  have hql := ho.row.len
  have hql' := ho.row.len
  change (nearL xs r i).length = q at hql
  change (nearL xs r i).length ≤ xs.length at hqn
  have hqb : q ≤ 200 := by have := hsz.out; omega
  have HQ := Lib.hid hql
  clear hql hql' hqn
  replace B := B.trans (hb.mono B.size)
  have L4 := K4.out.belowSelf hb
  have L5 := K5.out.belowSelf hb
  have L6 := K6.out.belowSelf hb
  have L7 := K7.out.belowSelf hb
  have LR := KR.out.belowSelf hb
  have k1 : w5.cell? ⟨w.heap.size, 1, none⟩ = some (.int .i64 l) := L4.cell 1
  have M4 := Lib.hid L4
  have M5 := Lib.hid L5
  have M6 := Lib.hid L6
  have M7 := Lib.hid L7
  have MR := Lib.hid LR
  have hrow := ho.row
  have h5 := h.below4 B (Nat.le_refl _)
  clear K4 K5 K6 K7 KR hb L4 L5 L6 L7 LR h4 ho
  by_cases hg : l ≤ (q : Int)
  · have hsp : spikeB true xs r l m i = (nearL xs r i).all (deepQ true xs m i) := by unfold spikeB; rw [HQ.out]; simp [hg]
    replace hsp := Lib.hid hsp
    go_wp2_with fail
    replace B := B.drew
    go_region_held3 (fun w' => w'.cell? ⟨w.heap.size, 1, none⟩ = some (.int .i64 l)) (first | exact M4.out.cell 1 | exact (M4.out.drew.belowSelf hb2).cell 1) (first | (go_at_call 71; refine (length_any _ _ _ _ (by omega)).mono ?_; rintro e w6 ⟨rfl, rfl⟩) | (go_at_call 72; refine (deep_contains (deepQ true xs m i) (nearL xs r i) _ _ _ _ _ _ _ (by exact hrow) (by omega) (fun W x hx hW => by obtain ⟨j, rfl, hj, -⟩ := mem_pick.1 hx; exact deep_one xs i j r l m R _ _ _ a n c W (h5.drew.below4 hW (Nat.le_refl _)) hs hm hi (by have := hsz.out; omega) (MR.out.drew.belowSelf hW) (M7.out.drew.belowSelf hW) (M5.out.drew.belowSelf hW) (M6.out.drew.belowSelf hW))).mono ?_; rintro e w6 ⟨rfl, hb2⟩))
    go_wp2
    go_ret
    exact ⟨by rw [hsp.out]; simp, B.trans (hb2.mono B.size)⟩
  · have hsp : spikeB true xs r l m i = false := by unfold spikeB; rw [HQ.out]; simp [hg]
    replace hsp := Lib.hid hsp
    have hd : decide (l ≤ (q : Int)) = false := by simpa using hg
    go_wp2_with fail
    go_quiet ((go_at_call 71; first | exact quiet_eq (length_any _ _ _ _ (by omega)) | exact quiet_eq' (length_any _ _ _ _ (by omega))))
    go_wp2
    go_ret
    exact ⟨by rw [hsp.out]; rfl, bdn B _⟩

theorem deep_is (xs : List I4) (i : Nat) (r l m : Int) (a : Option Addr) (n c : Nat) (w : World) (h : Row w 4 a n (frs xs)) (hs : sndsOk xs = true) (hr : spikeRuleOk r l m = true) (hi : i < n) :
    Calls Try.prog 32 #[.agg #[.int .i64 r, .int .i64 l, .int .i64 m], .slice a n c, .int .i64 (i : Int)] w fun e w' => e = .returned (.bool (spikeB true xs r l m i)) ∧ Below w.heap.size w w' := by
  have hmf : ∀ (fn : Fn) (first cap : Array Value) (w : World), (Instr.makeFunc fn first cap).run Try.prog w = .ok (.func fn first cap) w := fun _ _ _ _ => rfl
  obtain ⟨h1, h2, h3⟩ := rule_bd hr
  have B : Below w.heap.size w (w.alloc (.cells #[.int .i64 r, .int .i64 l, .int .i64 m] 26)) := (Below.refl _ _).alloc (Nat.le_refl _) _
  go_enter Try.func32, Try.ntmps32
  go_wp2_with fail
  go_at_call 56
  refine (deep_isSpike xs i r l m w.heap.size _ _ _ _ (h.alloc4 _) hs h1 h2 h3 hi (Blk.new _ _ _)).mono ?_
  rintro e w1 ⟨rfl, hb⟩
  go_wp2
  go_ret
  exact ⟨rfl, B.trans (hb.mono B.size)⟩

set_option maxHeartbeats 1600000 in
theorem deep_spikes (xs : List I4) (r l m : Int) (a : Option Addr) (n c : Nat) (w : World) (h : Row w 4 a n (frs xs)) (hn : n ≤ 1048576) :
    Calls Try.prog 31 #[.slice a n c, .agg #[.int .i64 r, .int .i64 l, .int .i64 m], .func (.func 32) #[.agg #[.int .i64 r, .int .i64 l, .int .i64 m]] #[]] w fun e w' => ∃ a' q cp, e = .returned (.tuple #[.slice a' q cp, .int .i64 (spikesOf true xs r l m).2]) ∧ Own w' w.heap.size w'.heap.size 2 1 a' q cp (ints (spikesOf true xs r l m).1) ∧ Below w.heap.size w w' := by
  have K := Lib.hid (Blk.new w 26 #[.int .i64 r, .int .i64 l, .int .i64 m])
  have B : Below w.heap.size w (w.alloc (.cells #[.int .i64 r, .int .i64 l, .int .i64 m] 26)) := (Below.refl _ _).alloc (Nat.le_refl _) _
  have h1 := h.alloc4 (.cells #[.int .i64 r, .int .i64 l, .int .i64 m] 26)
  have hl := Lib.hid h.len4
  go_enter Try.func31, Try.ntmps31
  go_wp2_with fail
  go_at_call 45
  refine (ruleCode_any _ _ _ _ _ _ _ _ h1 hn).mono ?_
  rintro e w1 ⟨rfl, hb⟩
  replace B := B.trans (hb.mono B.size)
  clear hb h1 K
  cases hr : sndsOk xs && spikeRuleOk r l m
  · have hno := Lib.hid (show spikesOf true xs r l m = ([], 1) by simp [spikesOf, ruleC_no hr])
    rw [ruleC_no hr]
    clear hr
    go_wp2
    go_ret2
    rw [hno.out]
    exact ⟨_, _, _, rfl, Own.nil_ _ _ _ _ _, B⟩
  · have hyes := Lib.hid (show spikesOf true xs r l m = (spikeL true xs r l m, 0) by simp [spikesOf, ruleC_yes hr])
    rw [ruleC_yes hr]
    simp only [Bool.and_eq_true] at hr
    obtain ⟨hs, hro⟩ := hr
    have hn2 := sndsOk_len hs hl.out
    have HS := Lib.hid hs; clear hs
    have HO := Lib.hid hro; clear hro
    have hsz := B.size
    go_wp2
    go_loopw [9, 19] (fun o kk wr => ∃ (k : Nat) (a' : Option Addr) (q cp : Nat), k ≤ n ∧ kk = .int .i64 k ∧ o = .slice a' q cp ∧ Own wr w.heap.size wr.heap.size 2 1 a' q cp (ints (pick (spikeB true xs r l m) k)) ∧ Below w.heap.size w wr) (fun _ i _ => n - (intOf i).toNat)
    case atStart => exact ⟨0, _, 0, 0, Nat.zero_le _, rfl, rfl, Own.nil_ _ _ _ _ _, B⟩
    case round =>
      obtain ⟨k, a', q, cp, hk, rfl, rfl, hown, hbel⟩ := hrel
      have hq := pick_len (spikeB true xs r l m) k
      have hq2 : q ≤ k := by have := hown.row.len; omega
      by_cases hlt : k < n
      · have h2 := h.below4 hbel (Nat.le_refl _)
        cases hin : spikeB true xs r l m k
        · have hp := Lib.hid (pick_no hin)
          go_wp2_with fail
          go_at_call 32
          refine (deep_is xs k r l m _ _ _ _ h2 HS.out HO.out hlt).mono ?_
          rintro e w2 ⟨rfl, hb⟩
          rw [hin]
          have hbel2 := hbel.trans (hb.mono hbel.size)
          have how2 := (hown.below hb (.inr (Nat.le_refl _))).leave
          clear hb hbel hown h2
          go_wp2
          go_roundw
          case rel => exact ⟨k + 1, a', q, cp, by omega, by go_num, rfl, by rw [hp.out]; exact how2, hbel2⟩
          case measure => simp [intOf]; omega
        · have hp := Lib.hid (pick_yes hin)
          go_wp2_with fail
          go_at_call 32
          refine (deep_is xs k r l m _ _ _ _ h2 HS.out HO.out hlt).mono ?_
          rintro e w2 ⟨rfl, hb⟩
          rw [hin]
          have hbel2 := hbel.trans (hb.mono hbel.size)
          have how2 := (hown.below hb (.inr (Nat.le_refl _))).leave
          have hs2 := hbel2.size
          clear hb hbel hown h2
          go_wp2_with (at_builtin; refine wpList_app _ rfl (.tmp 26) (.tmp 28) _ rfl Try.underlying29 info_i64 rfl (by decide) rfl (how2.alloc _) rfl (Row.one _ _ _) (ints_one [(k : Int)]) (by decide) (by simp only [maxLen]; omega) (by omega) (by simp; omega) ?_; intro A2 c2 w3 hown3 hb3 _)
          go_roundw
          case rel => exact ⟨k + 1, A2, q + 1, c2, by omega, by go_num, rfl, by rw [hp.out, ints_app]; exact hown3, (hbel2.alloc hbel2.size _).trans hb3⟩
          case measure => simp [intOf]; omega
      · go_wp2
        go_ret2
        have hd : k = n := by omega
        subst hd
        refine ⟨_, _, _, by rw [hyes.out]; rfl, ?_, hbel⟩
        rw [hyes.out, spikeL, hl.out]
        exact hown

theorem deepSpikes_impl (a : Option Addr) (n c : Nat) (xs : List I4) (r l m : Int) (w : World) (h : Row w 4 a n (frs xs)) (hn : n ≤ 1048576) :
    Calls Try.prog 7 #[.slice a n c, .agg #[.int .i64 r, .int .i64 l, .int .i64 m]] w fun e w' => ∃ a' q cp, e = .returned (.tuple #[.slice a' q cp, .int .i64 (spikesOf true xs r l m).2]) ∧ Own w' w.heap.size w'.heap.size 2 1 a' q cp (ints (spikesOf true xs r l m).1) ∧ Below w.heap.size w w' := by
  have hmf : ∀ (fn : Fn) (first cap : Array Value) (w : World), (Instr.makeFunc fn first cap).run Try.prog w = .ok (.func fn first cap) w := fun _ _ _ _ => rfl
  have B : Below w.heap.size w (w.alloc (.cells #[.int .i64 r, .int .i64 l, .int .i64 m] 26)) := (Below.refl _ _).alloc (Nat.le_refl _) _
  go_enter Try.func7, Try.ntmps7
  go_wp2_with fail
  go_at_call 31
  refine (deep_spikes xs r l m _ _ _ _ (h.alloc4 _) hn).mono ?_
  rintro e w1 ⟨a', q, cp, rfl, ho, hb⟩
  have hsz := B.size
  go_wp2
  go_ret2
  exact ⟨_, _, _, rfl, ho.mono hsz (Nat.le_refl _), B.trans (hb.mono B.size)⟩

set_option maxHeartbeats 3200000 in
theorem deep_l23 (xs : List I4) (r l m : Int) (a : Option Addr) (n c : Nat) (w : World) (h : Row w 4 a n (frs xs)) (hs : sndsOk xs = true) (hro : spikeRuleOk r l m = true) :
    Calls Try.prog 34 #[.slice a n c, .agg #[.int .i64 r, .int .i64 l, .int .i64 m], .bool (true)] w fun e w' => ∃ a' q cp, e = .returned (.slice a' q cp) ∧ Own w' w.heap.size w'.heap.size 2 1 a' q cp (ints (spikeL true xs r l m)) ∧ Below w.heap.size w w' := by
  have hl := Lib.hid h.len4
  have hn2 := sndsOk_len hs hl.out
  obtain ⟨r1, r2, r3⟩ := rule_bd hro
  have HS := Lib.hid hs; clear hs
  have HO := Lib.hid hro; clear hro
  go_enter Try.func34, Try.ntmps34
  go_wp2
  go_loopw [7, 8] (fun o kk wr => ∃ (k : Nat) (a' : Option Addr) (q cp : Nat), k ≤ n ∧ kk = .int .i64 k ∧ o = .slice a' q cp ∧ Own wr (w.heap.size + 1) wr.heap.size 2 1 a' q cp (ints (pick (spikeB true xs r l m) k)) ∧ Below w.heap.size w wr ∧ Hid (Blk wr w.heap.size 26 #[.int .i64 r, .int .i64 l, .int .i64 m])) (fun _ i _ => n - (intOf i).toNat)
  case atStart => exact ⟨0, _, 0, 0, Nat.zero_le _, rfl, rfl, by have := (Own.lit0 (w.alloc (.cells #[.int .i64 r, .int .i64 l, .int .i64 m] 26)) 2 1).mono (lo' := w.heap.size + 1) (hi' := ((w.alloc (.cells #[.int .i64 r, .int .i64 l, .int .i64 m] 26)).alloc (.cells #[] 2)).heap.size) (by simp) (by simp); rw [World.size_alloc w] at this; exact this, ((Below.refl _ _).alloc (Nat.le_refl _) _).alloc (by simp) _, (Blk.new _ _ _).alloc _⟩
  case round =>
    obtain ⟨k, a', q, cp, hk, rfl, rfl, hown, hbel, K⟩ := hrel
    have hq := pick_len (spikeB true xs r l m) k
    have hq2 : q ≤ k := by have := hown.row.len; omega
    by_cases hlt : k < n
    · obtain ⟨x, y, d, e, hx⟩ := snd_at hl.out hlt
      obtain ⟨-, -, d1, d2⟩ := sndOk_bd (sndsOk_get HS.out hx.out)
      obtain ⟨b, off, rfl, hbw⟩ := h.head4 hlt
      have hkI : (k : Int) < (n : Int) := by omega
      have hw := h.below4 hbel (Nat.le_refl _)
      have k0 : wr.cell? ⟨w.heap.size, 0, none⟩ = some (.int .i64 r) := K.out.cell 0
      have k1 : wr.cell? ⟨w.heap.size, 1, none⟩ = some (.int .i64 l) := K.out.cell 1
      have k2 : wr.cell? ⟨w.heap.size, 2, none⟩ = some (.int .i64 m) := K.out.cell 2
      go_wp2_with fail
      go_at_call 42
      refine (l23Near_any _ _ _ _ _ _ _ _ _ hw HS.out r1 hlt).mono ?_
      rintro e1 w1 ⟨aN, qN, cN, rfl, hoN, hb⟩
      have hqN : qN ≤ 200 := by have := hoN.row.len; have := pick_len (nearB xs r k) xs.length; have := hl.out; unfold nearL at *; omega
      have HN := Lib.hid hoN.row.len
      replace hbel := hbel.trans (hb.mono hbel.size)
      replace K := Lib.hid (K.out.belowSelf hb)
      replace hown := (hown.below hb (.inr (Nat.le_refl _))).leave
      have hrN := hoN.row
      clear k0 k1 k2 hw hb hoN
      have k1 : w1.cell? ⟨w.heap.size, 1, none⟩ = some (.int .i64 l) := K.out.cell 1
      obtain ⟨x0, x1, x2, x3⟩ := (h.below4 hbel (Nat.le_refl _)).get4_ hx.out
      go_wp2_with fail
      go_at_call 40
      refine (l21Bounds_any _ _ _ _ _ d1 d2).mono ?_
      rintro e1 w2 ⟨rfl, hb⟩
      replace hbel := hbel.trans (hb.mono hbel.size)
      replace K := Lib.hid (K.out.belowSelf hb)
      replace hown := (hown.below hb (.inr (Nat.le_refl _))).leave
      replace hrN := hrN.below hb (Nat.le_refl _)
      clear k1 x0 x1 x2 x3 hb
      obtain ⟨w3, hw3⟩ : ∃ w3, w2.alloc (.cells #[.int .i64 (d - e), .int .i64 (d + e)] 59) = w3 := ⟨_, rfl⟩
      obtain ⟨A, hA⟩ : ∃ A, w2.heap.size = A := ⟨_, rfl⟩
      have hbel3 : Below w.heap.size w w3 := hw3 ▸ hbel.alloc hbel.size _
      have K3 := Lib.hid (show Blk w3 w.heap.size 26 _ from hw3 ▸ K.out.alloc _)
      have hown3 : Own w3 (w.heap.size + 1) w3.heap.size 2 1 a' q cp (ints (pick (spikeB true xs r l m) k)) := by
        have := hw3 ▸ hown.alloc (.cells #[.int .i64 (d - e), .int .i64 (d + e)] 59)
        exact this.leave
      have hrN3 : Row w3 1 aN qN (ints (nearL xs r k)) := hw3 ▸ hrN.alloc _
      have KA := Lib.hid (show Blk w3 A 59 #[.int .i64 (d - e), .int .i64 (d + e)] from hw3 ▸ hA ▸ Blk.new w2 _ _)
      have HW := Lib.hid hw3
      have HA := Lib.hid hA
      clear hw3 hA hbel K hown hrN
      go_wp2
      rw [HW.out, HA.out]
      clear HW HA
      have hI := Lib.hid hbel3
      go_loopw [10, 12] (fun s kk wi => ∃ (j : Nat) (bb : Bool), j ≤ qN ∧ kk = .int .i64 j ∧ s = .bool bb ∧ Hid (bb = (decide (l ≤ (qN : Int)) && ((nearL xs r k).take j).all (deepQ true xs m k))) ∧ Below w3.heap.size w3 wi) (fun _ i _ => qN - (intOf i).toNat)
      case atStart => exact ⟨0, _, Nat.zero_le _, rfl, rfl, by unfold Hid; simp, Below.refl _ _⟩
      case round =>
        obtain ⟨j, bb, hj, rfl, rfl, hbb, hbi⟩ := hrel
        have K4 := Lib.hid (K3.out.belowSelf hbi)
        have KB := Lib.hid (KA.out.belowSelf hbi)
        have hbel4 := hI.out.trans (hbi.mono hI.out.size)
        have hrN4 := hrN3.below hbi (Nat.le_refl _)
        by_cases hjq : j < qN
        · obtain ⟨bN, offN, v, rfl, hcv, hv⟩ := hrN4.at_ hjq
          obtain ⟨u, rfl, hu, hub⟩ := pick_get hv.out
          have hun : u < n := by have := hl.out; omega
          have huI : (u : Int) < (n : Int) := by omega
          obtain ⟨x', y', d', e', hx'⟩ := snd_at hl.out hun
          obtain ⟨-, -, d3, d4⟩ := sndOk_bd (sndsOk_get HS.out hx'.out)
          obtain ⟨z0, z1, z2, z3⟩ := (h.below4 hbel4 (Nat.le_refl _)).get4_ hx'.out
          have hQ := Lib.hid (deepQ_at (deep := true) (m := m) hx.out hx'.out)
          have hT := Lib.hid (take_snoc hv.out)
          clear hub hu
          go_wp2_with fail
          go_at_call 40
          refine (l21Bounds_any _ _ _ _ _ d3 d4).mono ?_
          rintro e1 w5 ⟨rfl, hb⟩
          replace hbi := hbi.trans (hb.mono hbi.size)
          have m2 : w5.cell? ⟨w.heap.size, 2, none⟩ = some (.int .i64 m) := (K4.out.belowSelf hb).cell 2
          have a0 : w5.cell? ⟨A, 0, none⟩ = some (.int .i64 (d - e)) := (KB.out.belowSelf hb).cell 0
          have a1 : w5.cell? ⟨A, 1, none⟩ = some (.int .i64 (d + e)) := (KB.out.belowSelf hb).cell 1
          have lm := (K4.out.belowSelf hb).lt
          have la := (KB.out.belowSelf hb).lt
          clear hb z0 z1 z2 z3 hcv K4 KB hbel4 hrN4
          cases bb
          · go_wp2
            go_roundw
            case rel => exact ⟨j + 1, false, by omega, by go_num, rfl, by unfold Hid; rw [hT.out, List.all_append, ← Bool.and_assoc, ← hbb.out, Bool.false_and], hbi.alloc hbi.size _⟩
            case measure => simp [intOf]; omega
          · go_wp2
            go_roundw
            case rel => exact ⟨j + 1, apartB true (d - e) (d + e) (d' - e') (d' + e') m, by omega, by go_num, by simp [apartB], by unfold Hid; rw [hT.out, List.all_append, ← Bool.and_assoc, ← hbb.out, Bool.true_and]; simp [hQ.out], hbi.alloc hbi.size _⟩
            case measure => simp [intOf]; omega
        · have hdj : j = qN := by omega
          have hsp : bb = spikeB true xs r l m k := by
            rw [hbb.out, hdj, List.take_of_length_le (by have := HN.out; omega)]
            unfold spikeB
            rw [HN.out]
          have hown4 := (hown3.below hbi (.inr (Nat.le_refl _))).leave
          have ls := K4.out.lt
          clear hrN4
          cases hin : spikeB true xs r l m k
          · have hp := Lib.hid (pick_no hin)
            rw [hin] at hsp
            subst hsp
            clear hbb hin
            go_wp2
            go_roundw
            case rel => exact ⟨k + 1, a', q, cp, by omega, by go_num, rfl, by rw [hp.out]; exact hown4, hbel4, K4.out⟩
            case measure => simp [intOf]; omega
          · have hp := Lib.hid (pick_yes hin)
            rw [hin] at hsp
            subst hsp
            clear hbb hin
            go_wp2_with (at_builtin; refine wpList_app _ rfl (.tmp 73) (.tmp 75) _ rfl Try.underlying29 info_i64 rfl (by decide) rfl (hown4.alloc _) rfl (Row.one _ _ _) (ints_one [(k : Int)]) (by decide) (by simp only [maxLen]; omega) (by omega) (by simp; omega) ?_; intro A2 c2 w6 hown5 hb5 _)
            go_roundw
            case rel => exact ⟨k + 1, A2, q + 1, c2, by omega, by go_num, rfl, by rw [hp.out, ints_app]; exact hown5, (hbel4.alloc hbel4.size _).trans (hb5.mono (Nat.le_succ _)), (K4.out.alloc _).below hb5 (Nat.lt_succ_self _)⟩
            case measure => simp [intOf]; omega
    · go_wp2
      go_ret
      have hd : k = n := by omega
      subst hd
      refine ⟨_, _, _, rfl, ?_, hbel⟩
      rw [spikeL, hl.out]
      exact hown.mono (Nat.le_succ _) (Nat.le_refl _)

theorem deepSpikes_spec (a : Option Addr) (n c : Nat) (xs : List I4) (r l m : Int) (w : World) (h : Row w 4 a n (frs xs)) (hn : n ≤ 1048576) :
    Calls Try.prog 8 #[.slice a n c, .agg #[.int .i64 r, .int .i64 l, .int .i64 m]] w fun e w' => ∃ a' q cp, e = .returned (.tuple #[.slice a' q cp, .int .i64 (spikesOf true xs r l m).2]) ∧ Own w' w.heap.size w'.heap.size 2 1 a' q cp (ints (spikesOf true xs r l m).1) ∧ Below w.heap.size w w' := by
  have K := Lib.hid (Blk.new w 26 #[.int .i64 r, .int .i64 l, .int .i64 m])
  have B : Below w.heap.size w (w.alloc (.cells #[.int .i64 r, .int .i64 l, .int .i64 m] 26)) := (Below.refl _ _).alloc (Nat.le_refl _) _
  go_enter Try.func8, Try.ntmps8
  go_wp2_with fail
  go_at_call 33
  refine (l23Code_any _ _ _ _ _ _ _ _ (h.alloc4 _) hn).mono ?_
  rintro e w1 ⟨rfl, hb⟩
  have K1 := Lib.hid (K.out.belowSelf hb)
  replace B := B.trans (hb.mono B.size)
  have h2 := h.below4 B (Nat.le_refl _)
  clear hb K
  cases hr : sndsOk xs && spikeRuleOk r l m
  · have hno := Lib.hid (show spikesOf true xs r l m = ([], 1) by simp [spikesOf, ruleC_no hr])
    rw [ruleC_no hr]
    clear hr
    go_wp2
    go_ret2
    rw [hno.out]
    exact ⟨_, _, _, rfl, Own.nil_ _ _ _ _ _, B⟩
  · have hyes := Lib.hid (show spikesOf true xs r l m = (spikeL true xs r l m, 0) by simp [spikesOf, ruleC_yes hr])
    rw [ruleC_yes hr]
    simp only [Bool.and_eq_true] at hr
    obtain ⟨hs, hro⟩ := hr
    have HS := Lib.hid hs; clear hs
    have HO := Lib.hid hro; clear hro
    have hsz := B.size
    have k0 : w1.cell? ⟨w.heap.size, 0, none⟩ = some (.int .i64 r) := K1.out.cell 0
    have k1 : w1.cell? ⟨w.heap.size, 1, none⟩ = some (.int .i64 l) := K1.out.cell 1
    have k2 : w1.cell? ⟨w.heap.size, 2, none⟩ = some (.int .i64 m) := K1.out.cell 2
    go_wp2_with fail
    go_at_call 34
    refine (deep_l23 _ _ _ _ _ _ _ _ h2 HS.out HO.out).mono ?_
    rintro e w2 ⟨a', q, cp, rfl, ho, hb⟩
    go_wp2
    go_ret2
    rw [hyes.out]
    exact ⟨_, _, _, rfl, ho.mono hsz (Nat.le_refl _), B.trans (hb.mono B.size)⟩
end Go.Proofs.Ytcbehnlpefjhdaa
