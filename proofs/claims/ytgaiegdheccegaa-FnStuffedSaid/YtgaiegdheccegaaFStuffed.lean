/- What is drawn for stuffed bits. -/
import Derived.Test.YtgaiegdheccegaaPStuff
import Derived.Test.YtgaiegdheccegaaDrawBits
import Derived.Test.YtgaiegdheccegaaOpenY
namespace Go.Proofs.Ytgaiegdheccegaa
open Go.RowKit
set_option maxRecDepth 100000
set_option linter.unusedVariables false

set_option maxHeartbeats 3200000 in
theorem drawStuffBits_any (a : Option Addr) (n c : Nat) (bs : List Nat) (w : World) (h : Code8 w a n bs) :
    Calls Try.prog 28 #[.slice a n c] w (CodeDraw w) := by
  go_enter Try.func28, Try.ntmps28
  go_wp2_with fail
  go_at_call 60
  refine (l01From_any _ _ _ _ _ h).mono ?_
  rintro e w1 ⟨p, rfl, hp, hs, B⟩
  have hp1 : w.heap.size ≤ p := by omega
  clear hp
  go_wp2_with fail
  go_at_call 61
  refine (l01Next_any _ _ _ hs (by omega)).mono ?_
  rintro e w2 ⟨t, rfl, -, hs2, hg⟩
  replace B := below_next' B hp1 hg
  clear hs hg
  have HS := Lib.hid hs2; clear hs2
  by_cases t0 : t = 0
  · subst t0
    go_wp2_with fail
    go_at_call 61
    refine (l01Next_any _ _ _ (HS.out.alloc _) (by omega)).mono ?_
    rintro e w3 ⟨r, rfl, ⟨hr0, hr1, -⟩, hs3, hg⟩
    have hr9 := hr1 (by omega)
    have hpw := HS.out.lt
    have O := (own_far ((Own.lit0 w2 2 1).mono (lo' := w2.heap.size) (hi' := (w2.alloc (.cells #[] 2)).heap.size) (Nat.le_refl _) (by simp)) hpw hg).leave
    have B3 := below_next' (B.alloc B.size (.cells #[] 2)) hp1 hg
    obtain ⟨R, hR⟩ : ∃ R : Nat, 995 + r = (R : Int) := ⟨(995 + r).toNat, by omega⟩
    have hRb : R ≤ 1010 := by omega
    have hsz := hg.size
    simp at hsz
    have hsz2 := B.size
    have hsz3 : w2.heap.size ≤ w3.heap.size := by omega
    clear hr1 hs3 hg hsz B HS
    go_wp2
    go_loopw [4, 5] (fun o i wr => ∃ (k q cp : Nat) (a' : Option Addr) (ys : List Int), i = .int .i64 k ∧ o = .slice a' q cp ∧ q + k ≤ 1010 ∧ Own wr w2.heap.size wr.heap.size 2 1 a' q cp (ints ys) ∧ Below w.heap.size w wr ∧ w2.heap.size ≤ wr.heap.size) (fun _ i _ => (intOf i).toNat)
    case atStart => exact ⟨R, 0, 0, _, [], rfl, rfl, by omega, O, B3, hsz3⟩
    case round =>
      clear O B3 hsz3 hR
      obtain ⟨k, q, cp, a', ys, rfl, rfl, hqk, hown, hbel, hsz⟩ := hrel
      by_cases hk : 0 < k
      · have hkI : (0 : Int) < (k : Int) := by omega
        obtain ⟨k', rfl⟩ : ∃ k', k = k' + 1 := ⟨k - 1, by omega⟩
        have hsub : ((k' + 1 : Nat) : Int) - 1 = (k' : Int) := by omega
        go_wp2_with (at_builtin; refine wpList_app _ rfl (.tmp 19) (.tmp 20) _ rfl Try.underlying22 info_i64 rfl (by decide) rfl (hown.alloc _) rfl (Row.one _ _ _) (ints_one [1]) (by decide) (by simp only [maxLen]; omega) (by omega) (by simp; omega) ?_; intro A2 c2 w5 hown5 hb5 _)
        have hs5 := hb5.size
        simp at hs5
        go_roundw
        case rel => exact ⟨k', q + 1, c2, A2, ys ++ [1], by go_num, rfl, by omega, by rw [ints_app]; exact hown5, (hbel.alloc hbel.size _).trans (hb5.mono (by omega)), by omega⟩
        case measure => simp [intOf] <;> omega
      · obtain rfl : k = 0 := by omega
        clear hk
        go_wp2
        go_ret
        exact ⟨_, _, _, ys, rfl, hown.row, by omega, hbel⟩
  · have f0 : (t == 0) = false := by simpa using t0
    clear t0
    go_wp2_with fail
    go_at_call 62
    refine (l25DrawBits_any _ _ _ HS.out (by omega)).mono ?_
    intro e w3 hd
    obtain ⟨a', q, c', ys, rfl, ho, hq, -, hg⟩ := hd
    replace B := below_next' B hp1 hg
    have hr := ho.row
    clear ho hg HS
    go_wp2
    go_ret
    exact ⟨_, _, _, ys, rfl, hr, by omega, B⟩

theorem drawUnstuffBits_any (a : Option Addr) (n c : Nat) (bs : List Nat) (w : World) (h : Code8 w a n bs) :
    Calls Try.prog 31 #[.slice a n c] w (CodeDraw w) := by
  go_enter Try.func31, Try.ntmps31
  go_wp2_with fail
  go_at_call 60
  refine (l01From_any _ _ _ _ _ h).mono ?_
  rintro e w1 ⟨p, rfl, hp, hs, B⟩
  have hp1 : w.heap.size ≤ p := by omega
  clear hp
  go_wp2_with fail
  go_at_call 61
  refine (l01Next_any _ _ _ hs (by omega)).mono ?_
  rintro e w2 ⟨t, rfl, -, hs2, hg⟩
  replace B := below_next' B hp1 hg
  clear hs hg
  have HS := Lib.hid hs2; clear hs2
  by_cases t0 : t = 0
  · subst t0
    go_wp2_with fail
    go_at_call 62
    refine (l25DrawBits_any _ _ _ HS.out (by omega)).mono ?_
    intro e w3 hd
    obtain ⟨a', q, c', ys, rfl, ho, hq, -, hg⟩ := hd
    replace B := below_next' B hp1 hg
    have hr := ho.row
    clear ho hg HS
    go_wp2_with fail
    go_at_call 64
    refine (l25Stuff_any _ _ _ _ _ hr (by omega)).mono ?_
    rintro e w4 ⟨a2, m, c2, rfl, ho, hb⟩
    replace B := B.trans (hb.mono B.size)
    have hr2 := ho.row
    have hm : m ≤ 2600 := by have := hr2.len; have := stuffL_len 0 ys; have := hr.len; omega
    clear ho hb hr
    go_wp2
    go_ret
    exact ⟨_, _, _, _, rfl, hr2, hm, B⟩
  · have f0 : (t == 0) = false := by simpa using t0
    clear t0
    go_wp2_with fail
    go_at_call 62
    refine (l25DrawBits_any _ _ _ HS.out (by omega)).mono ?_
    intro e w3 hd
    obtain ⟨a', q, c', ys, rfl, ho, hq, -, hg⟩ := hd
    replace B := below_next' B hp1 hg
    have hr := ho.row
    clear ho hg HS
    go_wp2
    go_ret
    exact ⟨_, _, _, ys, rfl, hr, by omega, B⟩
end Go.Proofs.Ytgaiegdheccegaa
