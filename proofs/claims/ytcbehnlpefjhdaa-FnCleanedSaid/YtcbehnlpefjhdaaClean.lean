/- Soundings without their deep spikes, by both programs. -/
import Derived.Test.YtcbehnlpefjhdaaDeepF
import Derived.Test.YtcbehnlpefjhdaaSounding
namespace Go.Proofs.Ytcbehnlpefjhdaa
open Go.RowKit
set_option maxRecDepth 100000
set_option linter.unusedVariables false

theorem chosen_snoc {ss : List I4} {ks : List Int} {k : Nat} {x : Int} (h : ks[k]? = some x) : chosen ss (ks.take (k + 1)) = chosen ss (ks.take k) ++ [at4 ss x.toNat] := by
  rw [take_snoc h, chosen, chosen, List.map_append]; rfl

set_option maxHeartbeats 1600000 in
theorem chosen_any (a b : Option Addr) (n c m d : Nat) (xs : List I4) (ks : List Int) (w : World) (h : Row w 4 a n (frs xs)) (hk : Row w 1 b m (ints ks)) (hi : Idx xs ks) (hn : n ≤ 1048576) (hm : m ≤ 1048576) :
    Calls Try.prog 47 #[.slice a n c, .slice b m d] w fun e w' => ∃ a' q cp, e = .returned (.slice a' q cp) ∧ Own w' w.heap.size w'.heap.size 46 4 a' q cp (frs (chosen xs ks)) ∧ Below w.heap.size w w' := by
  have hxl := Lib.hid h.len4
  have hkl := Lib.hid hk.len
  have HI := Lib.hid hi; clear hi
  go_enter Try.func47, Try.ntmps47
  go_wp2
  go_loopw [5, 10] (fun o kk wr => ∃ (k : Nat) (a' : Option Addr) (q cp : Nat), k ≤ m ∧ kk = .int .i64 k ∧ o = .slice a' q cp ∧ Own wr w.heap.size wr.heap.size 46 4 a' q cp (frs (chosen xs (ks.take k))) ∧ Below w.heap.size w wr) (fun _ i _ => m - (intOf i).toNat)
  case atStart => exact ⟨0, _, 0, 0, Nat.zero_le _, rfl, rfl, Own.nil_ _ _ _ _ _, Below.refl _ _⟩
  case round =>
    obtain ⟨k, a', q, cp, hk', rfl, rfl, hown, hbel⟩ := hrel
    have hq : q ≤ k := by have := hown.row.len4; rw [chosen_length, List.length_take] at this; omega
    by_cases hlt : k < m
    · obtain ⟨b1, off1, v, rfl, hcv, hv⟩ := (hk.below hbel (Nat.le_refl _)).at_ hlt
      obtain ⟨j, rfl, hj⟩ := HI.out.get hv.out
      have hjn : j < n := by have := hxl.out; omega
      have hjI : (j : Int) < (n : Int) := by omega
      obtain ⟨x, y, z, u, hx⟩ := snd_at hxl.out hjn
      obtain ⟨b2, off2, rfl, hbw⟩ := h.head4 hjn
      obtain ⟨x0, x1, x2, x3⟩ := (h.below4 hbel (Nat.le_refl _)).get4_ hx.out
      have hch := Lib.hid (show chosen xs (ks.take (k + 1)) = chosen xs (ks.take k) ++ [(x, y, z, u)] by rw [chosen_snoc hv.out, Int.toNat_natCast, at4_get hx.out])
      have hsz := hbel.size
      go_wp2_with (at_builtin; refine wpList_app _ rfl (.tmp 14) (.tmp 19) _ rfl Try.underlying24 info_Sounding rfl (by decide) rfl (hown.alloc _) rfl (by exact Row.litK _ (frs [(x, y, z, u)]) _ _ 1 4 (by simp) (by rfl)) (frs_one [(x, y, z, u)]) (by decide) (by simp only [maxLen]; omega) (by omega) (by simp; omega) ?_; intro A2 c2 w2 hown2 hb2 _)
      go_roundw
      case rel => exact ⟨k + 1, A2, q + 1, c2, by omega, by go_num, rfl, by rw [hch.out, frs_app]; exact hown2, (hbel.alloc hbel.size _).trans hb2⟩
      case measure => simp [intOf]; omega
    · have hd := Lib.hid (take_done hkl.out hk' hlt)
      go_wp2
      go_ret
      refine ⟨_, _, _, rfl, ?_, hbel⟩
      rw [hd.out] at hown
      exact hown

set_option maxHeartbeats 1600000 in
theorem l23Take_any (a b : Option Addr) (n c m d : Nat) (xs : List I4) (ks : List Int) (w : World) (h : Row w 4 a n (frs xs)) (hk : Row w 1 b m (ints ks)) (hi : Idx xs ks) (hn : n ≤ 1048576) (hm : m ≤ 1048576) :
    Calls Try.prog 49 #[.slice a n c, .slice b m d] w fun e w' => ∃ a' q cp, e = .returned (.slice a' q cp) ∧ Own w' w.heap.size w'.heap.size 46 4 a' q cp (frs (chosen xs ks)) ∧ Below w.heap.size w w' := by
  have hxl := Lib.hid h.len4
  have hkl := Lib.hid hk.len
  have HI := Lib.hid hi; clear hi
  go_enter Try.func49, Try.ntmps49
  go_wp2
  go_loopw [5, 6] (fun o kk wr => ∃ (k : Nat) (a' : Option Addr) (q cp : Nat), k ≤ m ∧ kk = .int .i64 k ∧ o = .slice a' q cp ∧ Own wr w.heap.size wr.heap.size 46 4 a' q cp (frs (chosen xs (ks.take k))) ∧ Below w.heap.size w wr) (fun _ i _ => m - (intOf i).toNat)
  case atStart => exact ⟨0, _, 0, 0, Nat.zero_le _, rfl, rfl, (Own.lit0 _ _ _).mono (Nat.le_refl _) (by simp), (Below.refl _ _).alloc (Nat.le_refl _) _⟩
  case round =>
    obtain ⟨k, a', q, cp, hk', rfl, rfl, hown, hbel⟩ := hrel
    have hq : q ≤ k := by have := hown.row.len4; rw [chosen_length, List.length_take] at this; omega
    by_cases hlt : k < m
    · obtain ⟨b1, off1, v, rfl, hcv, hv⟩ := (hk.below hbel (Nat.le_refl _)).at_ hlt
      obtain ⟨j, rfl, hj⟩ := HI.out.get hv.out
      have hjn : j < n := by have := hxl.out; omega
      have hjI : (j : Int) < (n : Int) := by omega
      obtain ⟨x, y, z, u, hx⟩ := snd_at hxl.out hjn
      obtain ⟨b2, off2, rfl, hbw⟩ := h.head4 hjn
      obtain ⟨x0, x1, x2, x3⟩ := (h.below4 hbel (Nat.le_refl _)).get4_ hx.out
      have hch := Lib.hid (show chosen xs (ks.take (k + 1)) = chosen xs (ks.take k) ++ [(x, y, z, u)] by rw [chosen_snoc hv.out, Int.toNat_natCast, at4_get hx.out])
      have hsz := hbel.size
      go_wp2_with (at_builtin; refine wpList_app _ rfl (.tmp 14) (.tmp 22) _ rfl Try.underlying24 info_Sounding rfl (by decide) rfl (hown.alloc _) rfl (by exact Row.litK _ (frs [(x, y, z, u)]) _ _ 1 4 (by simp) (by rfl)) (frs_one [(x, y, z, u)]) (by decide) (by simp only [maxLen]; omega) (by omega) (by simp; omega) ?_; intro A2 c2 w2 hown2 hb2 _)
      go_roundw
      case rel => exact ⟨k + 1, A2, q + 1, c2, by omega, by go_num, rfl, by rw [hch.out, frs_app]; exact hown2, (hbel.alloc hbel.size _).trans hb2⟩
      case measure => simp [intOf]; omega
    · have hd := Lib.hid (take_done hkl.out hk' hlt)
      go_wp2
      go_ret
      refine ⟨_, _, _, rfl, ?_, hbel⟩
      rw [hd.out] at hown
      exact hown

theorem l01Has_any (a : Option Addr) (n c : Nat) (xs : List Int) (x : Int) (w : World) (h : Row w 1 a n (ints xs)) (hn : n ≤ 1048576) :
    Calls Try.prog 65 #[.slice a n c, .int .i64 x] w fun e w' => e = .returned (.bool (decide (x ∈ xs))) ∧ w = w' := by
  have hl := Lib.hid h.len
  go_enter Try.func65, Try.ntmps65
  go_wp2
  go_loop [5] (fun i => ∃ k : Nat, k ≤ n ∧ i = .int .i64 k ∧ Hid (x ∉ xs.take k)) (fun i => n - (intOf i).toNat)
  case atStart => exact ⟨0, Nat.zero_le _, rfl, by unfold Hid; simp⟩
  case round =>
    obtain ⟨k, hk, rfl, hno⟩ := hrel
    by_cases hlt : k < n
    · obtain ⟨b, off, y, rfl, hc, hy⟩ := h.at_ hlt
      by_cases hxy : y = x
      · subst hxy
        have hin := Lib.hid (List.mem_of_getElem? hy.out)
        have e0 : (y == y) = true := by simp
        go_wp2
        go_ret
        exact ⟨by simp [hin.out], rfl⟩
      · have e0 : (y == x) = false := by simpa using hxy
        have hno2 : Hid (x ∉ xs.take (k + 1)) := by
          unfold Hid
          rw [take_snoc hy.out, List.mem_append]
          rintro (h1 | h1)
          · exact hno.out h1
          · simp at h1; exact hxy h1.symm
        clear hxy
        go_wp2
        go_round
        case rel => exact ⟨k + 1, by omega, by go_num, hno2⟩
        case measure => simp [intOf]; omega
    · have hd := hno.out
      rw [take_done hl.out hk hlt] at hd
      replace hd := Lib.hid hd
      go_wp2
      go_ret
      exact ⟨by simp [hd.out], rfl⟩

theorem all_any (a : Option Addr) (n c : Nat) (xs : List I4) (w : World) (h : Row w 4 a n (frs xs)) (hn : n ≤ 1048576) :
    Calls Try.prog 51 #[.slice a n c] w fun e w' => ∃ a' q cp, e = .returned (.slice a' q cp) ∧ Own w' w.heap.size w'.heap.size 2 1 a' q cp (ints (allL xs)) ∧ Below w.heap.size w w' := by
  have hl := Lib.hid h.len4
  go_enter Try.func51, Try.ntmps51
  go_wp2_with (go_at_call 61; refine (lengthSnd_any _ _ _ _ (by omega)).mono ?_; rintro e w' ⟨rfl, rfl⟩)
  go_loopw [3, 7] (fun o kk wr => ∃ (k : Nat) (a' : Option Addr) (q cp : Nat), k ≤ n ∧ kk = .int .i64 k ∧ o = .slice a' q cp ∧ Own wr w.heap.size wr.heap.size 2 1 a' q cp (ints (pick (fun _ => true) k)) ∧ Below w.heap.size w wr) (fun _ i _ => n - (intOf i).toNat)
  case atStart => exact ⟨0, _, 0, 0, Nat.zero_le _, rfl, rfl, Own.nil_ _ _ _ _ _, Below.refl _ _⟩
  case round =>
    obtain ⟨k, a', q, cp, hk', rfl, rfl, hown, hbel⟩ := hrel
    have hq : q ≤ k := by have := hown.row.len; rw [pick_all] at this; omega
    by_cases hlt : k < n
    · have hp := Lib.hid (pick_yes (p := fun _ => true) (k := k) rfl)
      have hsz := hbel.size
      go_wp2_with (at_builtin; refine wpList_app _ rfl (.tmp 10) (.tmp 12) _ rfl Try.underlying29 info_i64 rfl (by decide) rfl (hown.alloc _) rfl (Row.one _ _ _) (ints_one [(k : Int)]) (by decide) (by simp only [maxLen]; omega) (by omega) (by simp; omega) ?_; intro A2 c2 w2 hown2 hb2 _)
      go_roundw
      case rel => exact ⟨k + 1, A2, q + 1, c2, by omega, by go_num, rfl, by rw [hp.out, ints_app]; exact hown2, (hbel.alloc hbel.size _).trans hb2⟩
      case measure => simp [intOf]; omega
    · go_wp2
      go_ret
      have hd : k = n := by omega
      subst hd
      refine ⟨_, _, _, rfl, ?_, hbel⟩
      rw [allL, hl.out]
      exact hown

set_option maxHeartbeats 1600000 in
theorem once_any (a b : Option Addr) (n c q d : Nat) (xs : List I4) (ks : List Int) (r l m : Int) (w : World) (h : Row w 4 a n (frs xs)) (hk : Row w 1 b q (ints ks)) (hi : Idx xs ks) (hs : sndsOk xs = true) (hro : spikeRuleOk r l m = true) (hq : q ≤ 200) :
    Calls Try.prog 50 #[.agg #[.int .i64 r, .int .i64 l, .int .i64 m], .slice a n c, .slice b q d] w fun e w' => ∃ a' p cp, e = .returned (.slice a' p cp) ∧ Own w' w.heap.size w'.heap.size 2 1 a' p cp (ints (onceL xs r l m ks)) ∧ Below w.heap.size w w' := by
  have hn2 := sndsOk_len hs h.len4
  have hkl := Lib.hid hk.len
  have hok := Lib.hid (hi.ok hs (by have := hkl.out; omega))
  have HO := Lib.hid hro; clear hro
  have B : Below w.heap.size w (w.alloc (.cells #[.int .i64 r, .int .i64 l, .int .i64 m] 26)) := (Below.refl _ _).alloc (Nat.le_refl _) _
  have K := Lib.hid (Blk.new w 26 #[.int .i64 r, .int .i64 l, .int .i64 m])
  have HS := Lib.hid hs; clear hs
  go_enter Try.func50, Try.ntmps50
  go_wp2_with fail
  go_at_call 47
  refine (chosen_any _ _ _ _ _ _ _ _ _ (h.alloc4 _) (hk.alloc _) hi (by omega) (by omega)).mono ?_
  rintro e w1 ⟨a1, q1, c1, rfl, ho, hb⟩
  replace B := B.trans (hb.mono B.size)
  replace K := Lib.hid (K.out.belowSelf hb)
  have hr1 := ho.row
  have hql : q1 ≤ q ∧ q ≤ q1 := by have := hr1.len4; rw [chosen_length] at this; have := hkl.out; omega
  have hszB := B.size
  have hk1 := hk.below B (Nat.le_refl _)
  clear hb ho
  go_wp2
  go_loopw [8, 16] (fun o kk wr => ∃ (k : Nat) (a' : Option Addr) (p cp : Nat), k ≤ q ∧ kk = .int .i64 k ∧ o = .slice a' p cp ∧ Own wr w1.heap.size wr.heap.size 2 1 a' p cp (ints (sel (fun i => !spikeB true (chosen xs ks) r l m i) ks k)) ∧ Below w1.heap.size w1 wr) (fun _ i _ => q - (intOf i).toNat)
  case atStart => exact ⟨0, _, 0, 0, Nat.zero_le _, rfl, rfl, Own.nil_ _ _ _ _ _, Below.refl _ _⟩
  case round =>
    obtain ⟨k, a', p, cp, hk', rfl, rfl, hown, hbel⟩ := hrel
    have hp : p ≤ k := by have := hown.row.len; have := sel_len (fun i => !spikeB true (chosen xs ks) r l m i) ks k; omega
    by_cases hlt : k < q
    · obtain ⟨b1, off1, v, rfl, hcv, hv⟩ := (hk1.below hbel (Nat.le_refl _)).at_ hlt
      have hr2 := hr1.below4 hbel (Nat.le_refl _)
      have k0 : wr.cell? ⟨w.heap.size, 0, none⟩ = some (.int .i64 r) := (K.out.belowSelf hbel).cell 0
      have k1 : wr.cell? ⟨w.heap.size, 1, none⟩ = some (.int .i64 l) := (K.out.belowSelf hbel).cell 1
      have k2 : wr.cell? ⟨w.heap.size, 2, none⟩ = some (.int .i64 m) := (K.out.belowSelf hbel).cell 2
      have hsz := hbel.size
      cases hin : spikeB true (chosen xs ks) r l m k
      · have hp2 := Lib.hid (sel_yes (p := fun i => !spikeB true (chosen xs ks) r l m i) (by simp [hin]) hv.out)
        go_wp2_with fail
        go_at_call 32
        refine (deep_is _ k r l m _ _ _ _ hr2 hok.out HO.out (by omega)).mono ?_
        rintro e w2 ⟨rfl, hb⟩
        rw [hin]
        have hbel2 := hbel.trans (hb.mono hbel.size)
        have how2 := (hown.below hb (.inr (Nat.le_refl _))).leave
        have hs2 := hbel2.size
        clear hb hbel hown hr2 k0 k1 k2 hcv
        go_wp2_with (at_builtin; refine wpList_app _ rfl (.tmp 26) (.tmp 28) _ rfl Try.underlying29 info_i64 rfl (by decide) rfl (how2.alloc _) rfl (Row.one _ _ _) (ints_one [v]) (by decide) (by simp only [maxLen]; omega) (by omega) (by simp; omega) ?_; intro A2 c2 w3 hown3 hb3 _)
        go_roundw
        case rel => exact ⟨k + 1, A2, p + 1, c2, by omega, by go_num, rfl, by rw [hp2.out, ints_app]; exact hown3, (hbel2.alloc hbel2.size _).trans hb3⟩
        case measure => simp [intOf]; omega
      · have hp2 := Lib.hid (sel_no (p := fun i => !spikeB true (chosen xs ks) r l m i) (ks := ks) (k := k) (by simp [hin]))
        go_wp2_with fail
        go_at_call 32
        refine (deep_is _ k r l m _ _ _ _ hr2 hok.out HO.out (by omega)).mono ?_
        rintro e w2 ⟨rfl, hb⟩
        rw [hin]
        have hbel2 := hbel.trans (hb.mono hbel.size)
        have how2 := (hown.below hb (.inr (Nat.le_refl _))).leave
        clear hb hbel hown hr2 k0 k1 k2 hcv
        go_wp2
        go_roundw
        case rel => exact ⟨k + 1, a', p, cp, by omega, by go_num, rfl, by rw [hp2.out]; exact how2, hbel2⟩
        case measure => simp [intOf]; omega
    · go_wp2
      go_ret
      have hd : k = q := by omega
      subst hd
      refine ⟨_, _, _, rfl, ?_, B.trans (hbel.mono hszB)⟩
      rw [onceL, hkl.out]
      exact hown.mono hszB (Nat.le_refl _)

def slenC : Value → Nat
  | .slice _ n _ => n
  | _ => 0

set_option maxHeartbeats 1600000 in
theorem clean_any (a : Option Addr) (n c : Nat) (xs : List I4) (r l m : Int) (w : World) (h : Row w 4 a n (frs xs)) (hs : sndsOk xs = true) (hro : spikeRuleOk r l m = true) :
    Calls Try.prog 46 #[.agg #[.int .i64 r, .int .i64 l, .int .i64 m], .slice a n c] w fun e w' => ∃ a' p cp, e = .returned (.tuple #[.slice a' p cp, .int .i64 (cleanL xs r l m).2]) ∧ Own w' w.heap.size w'.heap.size 2 1 a' p cp (ints (cleanL xs r l m).1) ∧ Below w.heap.size w w' := by
  have hn2 := sndsOk_len hs h.len4
  have hxl := Lib.hid h.len4
  have B : Below w.heap.size w (w.alloc (.cells #[.int .i64 r, .int .i64 l, .int .i64 m] 26)) := (Below.refl _ _).alloc (Nat.le_refl _) _
  have K := Lib.hid (Blk.new w 26 #[.int .i64 r, .int .i64 l, .int .i64 m])
  have HS := Lib.hid hs; clear hs
  have HO := Lib.hid hro; clear hro
  go_enter Try.func46, Try.ntmps46
  go_wp2_with fail
  go_at_call 51
  refine (all_any _ _ _ _ _ (h.alloc4 _) (by omega)).mono ?_
  rintro e w1 ⟨a1, q1, c1, rfl, ho, hb⟩
  replace B := B.trans (hb.mono B.size)
  replace K := Lib.hid (K.out.belowSelf hb)
  have hq1 : q1 ≤ 200 := by have := ho.row.len; rw [allL_length] at this; have := hxl.out; omega
  have ho2 := Lib.hid (ho.mono (lo' := w.heap.size) (by simp) (Nat.le_refl _))
  clear hb ho
  go_wp2
  go_loopw [6, 7] (fun s kk wr => ∃ (a' : Option Addr) (p cp f cnt : Nat) (ks : List Int), kk = .int .i64 cnt ∧ s = .slice a' p cp ∧ Hid (Own wr w.heap.size wr.heap.size 2 1 a' p cp (ints ks)) ∧ Below w.heap.size w wr ∧ Hid (Blk wr w.heap.size 26 #[.int .i64 r, .int .i64 l, .int .i64 m]) ∧ Hid (Idx xs ks) ∧ p ≤ f ∧ cnt + f ≤ 200 ∧ Hid (cleanF xs r l m f ks cnt = cleanL xs r l m)) (fun s _ _ => slenC s)
  case atStart => exact ⟨a1, q1, c1, 200, 0, _, rfl, rfl, ho2, B, K, Idx.all xs, hq1, by omega, rfl⟩
  case round =>
    obtain ⟨a', p, cp, f, cnt, ks, rfl, rfl, hown, hbel, K2, hix, hpf, hcf, hcl⟩ := hrel
    have hrow := hown.out.row
    have hkl := Lib.hid hrow.len
    have h2 := h.below4 hbel (Nat.le_refl _)
    have k0 : wr.cell? ⟨w.heap.size, 0, none⟩ = some (.int .i64 r) := K2.out.cell 0
    have k1 : wr.cell? ⟨w.heap.size, 1, none⟩ = some (.int .i64 l) := K2.out.cell 1
    have k2 : wr.cell? ⟨w.heap.size, 2, none⟩ = some (.int .i64 m) := K2.out.cell 2
    go_wp2_with fail
    go_at_call 50
    refine (once_any _ _ _ _ _ _ _ _ _ _ _ _ h2 hrow hix.out HS.out HO.out (by omega)).mono ?_
    rintro e w2 ⟨aO, pO, cO, rfl, hoO, hb⟩
    have hol := Lib.hid hoO.row.len
    have hsz := hbel.size
    have hbel2 := hbel.trans (hb.mono hbel.size)
    have hown2 := Lib.hid ((hown.out.below hb (.inr (Nat.le_refl _))).leave)
    have K3 := Lib.hid (K2.out.belowSelf hb)
    have hoO2 := Lib.hid (hoO.mono hsz (Nat.le_refl _))
    have hole := onceL_len xs r l m ks
    have hpO : pO ≤ p := by have := hol.out; have := hkl.out; omega
    clear hb hoO hrow h2 k0 k1 k2 hown K2 hbel hole
    by_cases he : pO = p
    · have e1 : ((pO : Int) == (p : Int)) = true := by simp [he]
      have hst := Lib.hid (show cleanL xs r l m = (ks, (cnt : Int)) by rw [← hcl.out]; exact cleanF_stop (by rw [hol.out, hkl.out, he]) f cnt)
      clear he
      go_wp2
      go_ret2
      rw [hst.out]
      exact ⟨_, _, _, rfl, hown2.out, hbel2⟩
    · have e1 : ((pO : Int) == (p : Int)) = false := by simp; omega
      obtain ⟨g, hg⟩ : ∃ g, f = g + 1 := ⟨f - 1, by omega⟩
      have hgo := Lib.hid (show cleanF xs r l m g (onceL xs r l m ks) ((cnt + 1 : Nat) : Int) = cleanL xs r l m by
        rw [← hcl.out, hg, cleanF_go (by rw [hol.out, hkl.out]; exact he)]; rfl)
      have hg2 : pO ≤ g ∧ cnt + 1 + g ≤ 200 := by omega
      have hlt : pO < p := by omega
      clear hg he
      go_wp2
      go_roundw
      case rel => exact ⟨aO, pO, cO, g, cnt + 1, _, by go_num, rfl, hoO2, hbel2, K3, hix.out.once, hg2.1, hg2.2, hgo⟩
      case measure => simpa [slenC] using hlt
end Go.Proofs.Ytcbehnlpefjhdaa
