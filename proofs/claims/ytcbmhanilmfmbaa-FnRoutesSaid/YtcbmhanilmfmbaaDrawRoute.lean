/- What is drawn for a route: some numbers, whatever the code. -/
import Derived.Test.YtcbmhanilmfmbaaSource
import Derived.Test.YtcbmhanilmfmbaaLib
namespace Go.Proofs.Ytcbmhanilmfmbaa
open Go.RowKit
set_option maxRecDepth 100000
set_option linter.unusedVariables false

/-- A list of the call's own behind the source's block p. -/
theorem own_next {w w' : World} {p E s n c hi : Nat} {a : Option Addr} {vs : List Value} (h : Own w (p + 1) hi E s a n c vs) (hg : w.grownBy w' (some p)) : Own w' (p + 1) hi E s a n c vs :=
  h.apart hg fun g e => by injection e with e; omega
theorem below_next {w0 w w' : World} {p : Nat} (h : Below w0.heap.size w0 w) (hp : w0.heap.size ≤ p) (hg : w.grownBy w' (some p)) : Below w0.heap.size w0 w' :=
  h.grown hg h.size fun k e => by injection e with e; omega

def RouteDraw (w : World) (e : Ending) (w' : World) : Prop := ∃ (a : Option Addr) (m c : Nat) (ys : List Int) (L : Int), e = .returned (.tuple #[.slice a m c, .int .i64 L]) ∧ Row w' 1 a m (ints ys) ∧ m ≤ 100 ∧ (∀ y ∈ ys, -20000 ≤ y ∧ y ≤ 20000) ∧ (-20000 ≤ L ∧ L ≤ 20000) ∧ Below w.heap.size w w'

theorem bd_app {ys : List Int} {r : Int} (h : ∀ y ∈ ys, -20000 ≤ y ∧ y ≤ 20000) (h1 : -20000 ≤ r) (h2 : r ≤ 20000) : ∀ y ∈ ys ++ [r], -20000 ≤ y ∧ y ≤ 20000 := by
  intro y hy
  rcases List.mem_append.1 hy with hy | hy
  · exact h y hy
  · simp at hy; subst hy; exact ⟨h1, h2⟩

set_option maxHeartbeats 3200000 in
theorem drawRoutePoints_any (a : Option Addr) (n c : Nat) (bs : List Nat) (w : World) (h : Code8 w a n bs) :
    Calls Try.prog 50 #[.slice a n c] w (RouteDraw w) := by
  go_enter Try.func50, Try.ntmps50
  go_wp2_with fail
  go_at_call 59
  refine (l01From_any _ _ _ _ _ h).mono ?_
  rintro e w1 ⟨p, rfl, hp, hs, B⟩
  have hp1 : w.heap.size ≤ p := by omega
  have hp2 := hs.lt
  clear hp
  have HS := Lib.hid (hs.alloc (.cells #[] 2))
  have B1 := B.alloc B.size (.cells #[] 2)
  have O1 := (Own.lit0 w1 2 1).mono (lo' := p + 1) (hi' := (w1.alloc (.cells #[] 2)).heap.size) (by omega) (by simp)
  clear hs B
  obtain ⟨w2, hw2⟩ : ∃ w2, w1.alloc (.cells #[] 2) = w2 := ⟨_, rfl⟩
  obtain ⟨g0, hg0⟩ : ∃ g, w1.heap.size = g := ⟨_, rfl⟩
  rw [hw2, hg0] at O1
  rw [hw2] at HS B1
  have HW := Lib.hid hw2
  have HG := Lib.hid hg0
  clear hw2 hg0
  go_wp2_with fail
  rw [HW.out, HG.out]
  go_at_call 60
  refine (l01Next_any _ _ _ HS.out (by omega)).mono ?_
  rintro e w3 ⟨r, rfl, ⟨hr0, hr1, -⟩, hs, hg⟩
  have hr9 := hr1 (by omega)
  have O2 := (own_next O1 hg).leave
  have B2 := below_next B1 hp1 hg
  have HS2 := Lib.hid hs
  obtain ⟨R, rfl⟩ := Int.eq_ofNat_of_zero_le hr0
  clear hr1 hs hg O1 B1 HS HW HG
  go_wp2
  go_loopw [5, 6] (fun o i wr => ∃ (k q cp : Nat) (a' : Option Addr) (ys : List Int), i = .int .i64 k ∧ o = .slice a' q cp ∧ q + k ≤ 9 ∧ Own wr (p + 1) wr.heap.size 2 1 a' q cp (ints ys) ∧ Hid (∀ y ∈ ys, -20000 ≤ y ∧ y ≤ 20000) ∧ Hid (SrcOk wr p) ∧ Below w.heap.size w wr) (fun _ i _ => (intOf i).toNat)
  case atStart => exact ⟨R, 0, 0, _, [], rfl, rfl, by omega, O2, by intro y hy; simp at hy, HS2, B2⟩
  case round =>
    obtain ⟨k, q, cp, a', ys, rfl, rfl, hqk, hown, hys, hs, hbel⟩ := hrel
    have hsp := hs.out.lt
    by_cases hk : 0 < k
    · have hkI : (0 : Int) < (k : Int) := by omega
      go_wp2_with fail
      go_at_call 60
      refine (l01Next_any _ _ _ hs.out (by omega)).mono ?_
      rintro e w4 ⟨r, rfl, ⟨hr0, hr1, -⟩, hs4, hg⟩
      have hr9 := hr1 (by omega)
      have O4 := (own_next hown hg).leave
      have B4 := below_next hbel hp1 hg
      have hys4 := Lib.hid (bd_app hys.out (show -20000 ≤ r by omega) (by omega))
      have HS4 := Lib.hid (hs4.alloc (.cells #[.int .i64 r] 2))
      have hs5 := hs4.lt
      obtain ⟨k', rfl⟩ : ∃ k', k = k' + 1 := ⟨k - 1, by omega⟩
      have hsub : ((k' + 1 : Nat) : Int) - 1 = (k' : Int) := by omega
      clear hr1 hs4 hg hown hbel hs hys
      go_wp2_with (at_builtin; refine wpList_app _ rfl (.tmp 17) (.tmp 20) _ rfl Try.underlying24 info_i64 rfl (by decide) rfl (O4.alloc _) rfl (Row.one _ _ _) (ints_one [r]) (by decide) (by simp only [maxLen]; omega) (by omega) (by simp; omega) ?_; intro A2 c2 w5 hown5 hb5 _)
      go_roundw
      case rel => exact ⟨k', q + 1, c2, A2, ys ++ [r], by go_num, rfl, by omega, by rw [ints_app]; exact hown5, hys4.out, HS4.out.below hb5 (by omega), (B4.alloc B4.size _).trans (hb5.mono (by omega))⟩
      case measure => simp [intOf] <;> omega
    · obtain rfl : k = 0 := by omega
      clear hk
      go_wp2_with fail
      go_at_call 60
      refine (l01Next_any _ _ _ hs.out (by omega)).mono ?_
      rintro e w4 ⟨L, rfl, ⟨hL0, hL1, -⟩, hs4, hg⟩
      have hL9 := hL1 (by omega)
      have O4 := (own_next hown hg).leave
      have B4 := below_next hbel hp1 hg
      have HS4 := Lib.hid hs4
      clear hL1 hs4 hg hown hbel hs
      go_wp2_with fail
      go_at_call 60
      refine (l01Next_any _ _ _ HS4.out (by omega)).mono ?_
      rintro e w5 ⟨t, rfl, ⟨ht0, ht1, -⟩, hs5, hg⟩
      have ht9 := ht1 (by omega)
      have O5 := (own_next O4 hg).leave
      have B5 := below_next B4 hp1 hg
      have HS5 := Lib.hid hs5
      have hsz5 := hs5.lt
      clear ht1 hs5 hg O4 B4 HS4
      by_cases t0 : t = 0
      · subst t0
        go_wp2_with fail
        go_at_call 61
        refine (l01Pick_any _ _ _ _ [-1, 10000, 10001] _ (HS5.out.alloc _) (by exact Row.lit _ (ints [-1, 10000, 10001]) _ _ _ (by simp) (by rfl)) (by omega) (by omega) (fun b off e => by injection e with e; injection e with e _ _; omega)).mono ?_
        rintro e w6 ⟨r, rfl, hr, hs6, hg⟩
        have hrb : -20000 ≤ r ∧ r ≤ 20000 := by simp at hr; omega
        have B6 := below_next (B5.alloc B5.size (.cells #[.int .i64 (-1), .int .i64 10000, .int .i64 10001] 2)) hp1 hg
        have O6 := (own_next (O5.alloc (.cells #[.int .i64 (-1), .int .i64 10000, .int .i64 10001] 2)) hg).leave
        have hys6 := Lib.hid (bd_app hys.out hrb.1 hrb.2)
        have hsz6 := hs6.lt
        clear hg hr hs6 O5 B5 HS5 hys
        go_wp2_with (at_builtin; refine wpList_app _ rfl (.tmp 28) (.tmp 32) _ rfl Try.underlying24 info_i64 rfl (by decide) rfl (O6.alloc _) rfl (Row.one _ _ _) (ints_one [r]) (by decide) (by simp only [maxLen]; omega) (by omega) (by simp; omega) ?_; intro A2 c2 w7 hown7 hb7 _)
        go_ret2
        exact ⟨_, _, _, ys ++ [r], L, rfl, by rw [ints_app]; exact hown7.row, by omega, hys6.out, by omega, (B6.alloc B6.size _).trans (hb7.mono (by omega))⟩
      · have f0 : (t == 0) = false := by simpa using t0
        clear t0
        by_cases t1 : t = 1
        · subst t1
          go_wp2_with fail
          go_at_call 61
          refine (l01Pick_any _ _ _ _ [-1, 10000, 10001] _ (HS5.out.alloc _) (by exact Row.lit _ (ints [-1, 10000, 10001]) _ _ _ (by simp) (by rfl)) (by omega) (by omega) (fun b off e => by injection e with e; injection e with e _ _; omega)).mono ?_
          rintro e w6 ⟨r, rfl, hr, hs6, hg⟩
          have hrb : -20000 ≤ r ∧ r ≤ 20000 := by simp at hr; omega
          have B6 := below_next (B5.alloc B5.size (.cells #[.int .i64 (-1), .int .i64 10000, .int .i64 10001] 2)) hp1 hg
          have O6 := (own_next (O5.alloc (.cells #[.int .i64 (-1), .int .i64 10000, .int .i64 10001] 2)) hg).leave
          clear hg hr hs6 O5 B5 HS5
          go_wp2
          go_ret2
          exact ⟨_, _, _, ys, r, rfl, O6.row, by omega, hys.out, hrb, B6⟩
        · have f1 : (t == 1) = false := by simpa using t1
          clear t1
          by_cases t2 : t = 2
          · subst t2
            go_wp2_with fail
            go_at_call 60
            refine (l01Next_any _ _ _ HS5.out (by omega)).mono ?_
            rintro e w6 ⟨r, rfl, ⟨hr0, hr1, -⟩, hs6, hg⟩
            have hr9 := hr1 (by omega)
            have B6 := below_next B5 hp1 hg
            obtain ⟨z, hz⟩ : ∃ z : Nat, 60 + r = (z : Int) := ⟨(60 + r).toNat, by omega⟩
            have hz1 : z ≤ 61 := by omega
            have hmk := run_make_row' (P := Try.prog) 24 2 (.int .i64 0) 8 Try.underlying24 info_i64 rfl .i64 .i64 z (by omega) (by omega)
            clear hr1 hs6 hg O5 B5 HS5
            go_wp2
            go_ret2
            refine ⟨_, _, _, List.replicate z 0, L, rfl, ?_, by omega, ?_, by omega, B6.alloc B6.size _⟩
            · have := (Own.made w6 (.int .i64 0) (n := z) (E := 2) (by simp only [maxLen]; omega)).row
              simpa [ints] using this
            · intro y hy
              have := List.eq_of_mem_replicate hy
              omega
          · have f2 : (t == 2) = false := by simpa using t2
            clear t2
            go_wp2
            go_ret2
            exact ⟨_, _, _, ys, L, rfl, O5.row, by omega, hys.out, by omega, B5⟩
end Go.Proofs.Ytcbmhanilmfmbaa
