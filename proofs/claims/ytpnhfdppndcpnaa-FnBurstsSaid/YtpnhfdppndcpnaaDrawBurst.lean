/- Bursts that are drawn, whatever the code. -/
import Derived.Test.YtpnhfdppndcpnaaDrawInter
import Derived.Test.YtpnhfdppndcpnaaPBurst
namespace Go.Proofs.Ytpnhfdppndcpnaa
open Go.RowKit
set_option maxRecDepth 100000
set_option linter.unusedVariables false

def BurstDraw (w : World) (e : Ending) (w' : World) : Prop := ∃ r c f l : Int, e = .returned (.tuple #[.int .i64 r, .int .i64 c, .int .i64 f, .int .i64 l]) ∧ (-1 ≤ r ∧ r ≤ 41) ∧ (-1 ≤ c ∧ c ≤ 41) ∧ (-1 ≤ f ∧ f ≤ 1681) ∧ (-1 ≤ l ∧ l ≤ 1681) ∧ Below w.heap.size w w'

set_option maxHeartbeats 3200000 in
theorem drawBurstPlaces_any (a : Option Addr) (n c : Nat) (bs : List Nat) (w : World) (h : Code8 w a n bs) :
    Calls Try.prog 11 #[.slice a n c] w (BurstDraw w) := by
  go_enter Try.func11, Try.ntmps11
  go_wp2_with fail
  go_at_call 31
  refine (l01From_any _ _ _ _ _ h).mono ?_
  rintro e w1 ⟨p, rfl, hp, hs, B⟩
  have hp1 : w.heap.size ≤ p := by omega
  clear hp
  go_wp2_with fail
  go_at_call 32
  refine (l26DrawTable_any _ _ hs).mono ?_
  intro e w2 hd
  obtain ⟨r, cc, rfl, hr, hc, hs2, hg⟩ := hd
  replace B := below_next' B hp1 hg
  obtain ⟨m0, m1⟩ := mul_41 hr hc
  clear hs hg
  go_wp2_with fail
  go_at_call 33
  refine (l01Next_any _ _ _ hs2 (by omega)).mono ?_
  rintro e w3 ⟨t, rfl, ⟨ht0, ht1, ht2⟩, hs3, hg⟩
  have ht9 : t ≤ 1681 := by omega
  replace B := below_next' B hp1 hg
  clear ht1 ht2 hs2 hg
  go_wp2_with fail
  go_at_call 33
  refine (l01Next_any _ _ _ hs3 (by omega)).mono ?_
  rintro e w4 ⟨u, rfl, ⟨hu0, hu1, -⟩, hs4, hg⟩
  have hu9 := hu1 (by omega)
  replace B := below_next' B hp1 hg
  clear hu1 hs3 hg
  go_wp2_with fail
  go_at_call 33
  refine (l01Next_any _ _ _ hs4 (by omega)).mono ?_
  rintro e w5 ⟨v, rfl, ⟨hv0, hv1, -⟩, hs5, hg⟩
  have hv9 := hv1 (by omega)
  replace B := below_next' B hp1 hg
  have HS := Lib.hid hs5
  have hl := hs5.lt
  clear hv1 hs4 hs5 hg
  go_wp2_with fail
  go_at_call 34
  refine (l01Pick_any _ _ _ _ [0, 1, r, v, r + 1, -1] _ (HS.out.alloc _) (by exact Row.lit _ (ints [0, 1, r, v, r + 1, -1]) _ _ _ (by simp) (by rfl)) (by omega) (by omega) (fun b off e => by injection e with e; injection e with e _ _; omega)).mono ?_
  rintro e w6 ⟨x, rfl, hx, hs6, hg⟩
  have hxb : -1 ≤ x ∧ x ≤ 1681 := by simp at hx; omega
  replace B := below_next' (B.alloc B.size _) hp1 hg
  clear hx hg HS
  go_wp2
  go_returns
  exact ⟨_, _, _, _, rfl, hr, hc, by omega, hxb, B⟩

theorem l26Two_any (x y : Int) (w : World) : Calls Try.prog 35 #[.int .i64 x, .int .i64 y] w fun e w' => e = .returned (.slice (some ⟨w.heap.size, 0, none⟩) 2 2) ∧ w' = w.alloc (.cells #[.int .i64 x, .int .i64 y] 2) := by
  go_enter Try.func35, Try.ntmps35
  go_wp2
  go_ret
  exact ⟨rfl, rfl⟩

/-- A row that is drawn. -/
def RowDraw (w : World) (e : Ending) (w' : World) : Prop := ∃ (a : Option Addr) (q cp : Nat) (ys : List Int), e = .returned (.slice a q cp) ∧ Row w' 1 a q (ints ys) ∧ q ≤ 1300 ∧ Below w.heap.size w w'

theorem burst_err (r c f l : Int) : (burstPlaces r c f l).2 = 0 ∨ (burstPlaces r c f l).2 ≠ 0 := by omega

set_option maxHeartbeats 3200000 in
theorem drawLeastDistance_any (a : Option Addr) (n c : Nat) (bs : List Nat) (w : World) (h : Code8 w a n bs) :
    Calls Try.prog 12 #[.slice a n c] w (RowDraw w) := by
  go_enter Try.func12, Try.ntmps12
  go_wp2_with fail
  go_at_call 31
  refine (l01From_any _ _ _ _ _ h).mono ?_
  rintro e w1 ⟨p, rfl, hp, hs, B⟩
  have hp1 : w.heap.size ≤ p := by omega
  have h1 := h.below B (Nat.le_refl _)
  clear hp h
  go_wp2_with fail
  go_at_call 11
  refine (drawBurstPlaces_any _ _ _ _ _ h1).mono ?_
  intro e w2 hd
  obtain ⟨r, cc, f, l, rfl, hr, hc, hf, hl, B2⟩ := hd
  have HS2 := Lib.hid (hs.below B2 hs.lt)
  replace B := B.trans (B2.mono B.size)
  clear hs h1 B2 hr hc
  go_wp2_with fail
  go_at_call 5
  refine (burstPlaces_spec _ _ _ _ _ (by unfold I64; omega) (by unfold I64; omega)).mono ?_
  intro e w3 hd
  obtain ⟨a3, n3, c3, rfl, O3, B3⟩ := hd
  have HS3 := Lib.hid (HS2.out.below B3 HS2.out.lt)
  replace B := B.trans (B3.mono B.size)
  have hn3 : n3 ≤ 1200 := by have := O3.len; have := burstPlaces_len r cc f l; simp [ints] at *; omega
  have HO := Lib.hid O3
  obtain ⟨W3, HW3⟩ : ∃ W3, W3 = w2.heap.size := ⟨_, rfl⟩
  have hpw : p < W3 := by have := HS2.out.lt; omega
  rw [← HW3] at HO
  generalize (burstPlaces r cc f l).2 = er at *
  generalize (burstPlaces r cc f l).1 = ys at *
  clear O3 B3 HS2 HW3 hf hl
  by_cases hz : er = 0
  · subst hz
    go_wp2_with fail
    go_at_call 33
    refine (l01Next_any _ _ _ HS3.out (by omega)).mono ?_
    rintro e w4 ⟨t, rfl, -, hs4, hg⟩
    have O4 := own_far HO.out hpw hg
    replace B := below_next' B hp1 hg
    have HS4 := Lib.hid hs4
    have HO4 := Lib.hid O4
    clear hg hs4 O4 HO HS3
    by_cases ht : t = 0
    · subst ht
      go_wp2_with fail
      go_at_call 33
      refine (l01Next_any _ _ _ HS4.out (by omega)).mono ?_
      rintro e w5 ⟨t5, rfl, -, hs5, hg⟩
      replace B := below_next' B hp1 hg
      clear hg
      go_wp2_with fail
      go_at_call 33
      refine (l01Next_any _ _ _ hs5 (by omega)).mono ?_
      rintro e w6 ⟨t6, rfl, -, hs6, hg⟩
      replace B := below_next' B hp1 hg
      clear hg
      go_wp2_with fail
      go_at_call 35
      refine (l26Two_any _ _ _).mono ?_
      rintro e w7 ⟨rfl, rfl⟩
      go_wp2
      go_ret
      exact ⟨_, _, _, [t5, t6], rfl, by exact Row.lit _ (ints [t5, t6]) _ _ _ (by simp) (by rfl), by omega, B.alloc B.size _⟩
    · have f0 : (t == 0) = false := by simpa using ht
      clear ht
      go_wp2
      go_ret
      exact ⟨_, _, _, ys, rfl, HO4.out.row, by omega, B⟩
  · have f0 : (er == 0) = false := by simpa using hz
    have f1 : (er != 0) = true := by simpa using hz
    clear hz
    go_wp2_with fail
    go_at_call 33
    refine (l01Next_any _ _ _ HS3.out (by omega)).mono ?_
    rintro e w5 ⟨t5, rfl, -, hs5, hg⟩
    replace B := below_next' B hp1 hg
    clear hg
    go_wp2_with fail
    go_at_call 33
    refine (l01Next_any _ _ _ hs5 (by omega)).mono ?_
    rintro e w6 ⟨t6, rfl, -, hs6, hg⟩
    replace B := below_next' B hp1 hg
    clear hg
    go_wp2_with fail
    go_at_call 35
    refine (l26Two_any _ _ _).mono ?_
    rintro e w7 ⟨rfl, rfl⟩
    go_wp2
    go_ret
    exact ⟨_, _, _, [t5, t6], rfl, by exact Row.lit _ (ints [t5, t6]) _ _ _ (by simp) (by rfl), by omega, B.alloc B.size _⟩

set_option maxHeartbeats 3200000 in
theorem drawRowFill_any (a : Option Addr) (n c : Nat) (bs : List Nat) (w : World) (h : Code8 w a n bs) :
    Calls Try.prog 15 #[.slice a n c] w fun e w' => (∃ r c : Int, e = .returned (.tuple #[.int .i64 r, .int .i64 c])) ∧ Below w.heap.size w w' := by
  go_enter Try.func15, Try.ntmps15
  go_wp2_with fail
  go_at_call 31
  refine (l01From_any _ _ _ _ _ h).mono ?_
  rintro e w1 ⟨p, rfl, hp, hs, B⟩
  have hp1 : w.heap.size ≤ p := by omega
  clear hp
  go_wp2_with fail
  go_at_call 33
  refine (l01Next_any _ _ _ hs (by omega)).mono ?_
  rintro e w2 ⟨v, rfl, ⟨hv0, hv1, -⟩, hs2, hg⟩
  have hv9 := hv1 (by omega)
  replace B := below_next' B hp1 hg
  have HS := Lib.hid hs2
  have hl := hs2.lt
  clear hv1 hs hs2 hg
  go_wp2_with fail
  go_at_call 34
  refine (l01Pick_any _ _ _ _ [0, v, 1200, 1201, -1, 40] _ (HS.out.alloc _) (by exact Row.lit _ (ints [0, v, 1200, 1201, -1, 40]) _ _ _ (by simp) (by rfl)) (by omega) (by omega) (fun b off e => by injection e with e; injection e with e _ _; omega)).mono ?_
  rintro e w3 ⟨x, rfl, -, hs3, hg⟩
  replace B := below_next' (B.alloc B.size _) hp1 hg
  clear hg HS hl hv0 hv9
  go_wp2_with fail
  go_at_call 33
  refine (l01Next_any _ _ _ hs3 (by omega)).mono ?_
  rintro e w4 ⟨v2, rfl, ⟨hv0, hv1, -⟩, hs4, hg⟩
  have hv9 := hv1 (by omega)
  replace B := below_next' B hp1 hg
  have HS := Lib.hid hs4
  have hl := hs4.lt
  clear hv1 hs3 hs4 hg
  go_wp2_with fail
  go_at_call 34
  refine (l01Pick_any _ _ _ _ [1, 1 + v2, 40, 41, 0, 8] _ (HS.out.alloc _) (by exact Row.lit _ (ints [1, 1 + v2, 40, 41, 0, 8]) _ _ _ (by simp) (by rfl)) (by omega) (by omega) (fun b off e => by injection e with e; injection e with e _ _; omega)).mono ?_
  rintro e w5 ⟨y, rfl, -, hs5, hg⟩
  replace B := below_next' (B.alloc B.size _) hp1 hg
  clear hg HS
  go_wp2
  go_ret2
  exact ⟨⟨_, _, rfl⟩, B⟩

set_option maxHeartbeats 3200000 in
theorem drawLongestRun_any (a : Option Addr) (n c : Nat) (bs : List Nat) (w : World) (h : Code8 w a n bs) :
    Calls Try.prog 18 #[.slice a n c] w (RowDraw w) := by
  go_enter Try.func18, Try.ntmps18
  go_wp2_with fail
  go_at_call 31
  refine (l01From_any _ _ _ _ _ h).mono ?_
  rintro e w1 ⟨p, rfl, hp, hs, B⟩
  have hp1 : w.heap.size ≤ p := by omega
  clear hp
  go_wp2_with fail
  go_at_call 38
  refine (l25DrawBits_any _ _ _ hs (by omega)).mono ?_
  intro e w2 hd
  obtain ⟨a2, n2, c2, ys, rfl, O2, hn2, hs2, hg⟩ := hd
  replace B := below_next' B hp1 hg
  clear hs hg hs2
  go_wp2
  go_ret
  exact ⟨_, _, _, ys, rfl, O2.row, hn2, B⟩
end Go.Proofs.Ytpnhfdppndcpnaa
