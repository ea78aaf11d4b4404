/- A width and spans that are drawn, whatever the code. -/
import Derived.Test.YtdihpllebccncaaDrawBits
import Derived.Test.YtdihpllebccncaaSpan
namespace Go.Proofs.Ytdihpllebccncaa
open Go.RowKit
set_option maxRecDepth 100000
set_option linter.unusedVariables false

theorem made_same2 (z : Value) (m : Nat) : (madeCells #[z, z] m).toList = List.replicate m z := by
  apply List.ext_getElem
  · simp [size_madeCells]
  · intro i h1 h2
    have h3 : i % 2 = 0 ∨ i % 2 = 1 := by omega
    simp only [madeCells, Array.toList_map, List.getElem_map, Array.toList_range, List.getElem_range, List.getElem_replicate]
    show (#[z, z] : Array Value)[i % 2]! = z
    rcases h3 with h | h <;> rw [h] <;> rfl
theorem prs_zeros : ∀ n : Nat, prs (List.replicate n (0, 0)) = List.replicate (n * 2) (.int .i64 0)
  | 0 => rfl
  | n + 1 => by
    rw [List.replicate_succ, show (n + 1) * 2 = n * 2 + 1 + 1 by omega, List.replicate_succ, List.replicate_succ, ← prs_zeros n]
    rfl
theorem made_prs (n : Nat) : (madeCells #[.int .i64 0, .int .i64 0] (n * 2)).toList = prs (List.replicate n (0, 0)) := by
  rw [made_same2, prs_zeros]

/-- A width and spans. -/
def CoverDraw (p : Nat) (w : World) (e : Ending) (w' : World) : Prop := ∃ (W : Int) (a : Option Addr) (q c : Nat) (ys : List (Int × Int)), e = .returned (.tuple #[.int .i64 W, .slice a q c]) ∧ Own w' w.heap.size w'.heap.size 49 2 a q c (prs ys) ∧ q ≤ 100 ∧ SrcOk w' p ∧ w.grownBy w' (some p)

set_option maxHeartbeats 6400000 in
theorem l24Draw_any (p : Nat) (w : World) (h : SrcOk w p) :
    Calls Try.prog 53 #[.pointer (some ⟨p, 0, none⟩)] w (CoverDraw p w) := by
  have hpw := h.lt
  go_enter Try.func53, Try.ntmps53
  go_wp2_with fail
  go_at_call 41
  refine (l01Next_any _ _ _ h (by omega)).mono ?_
  rintro e w1 ⟨r, rfl, ⟨hr0, hr1, hr2⟩, hs, G⟩
  have hr9 := hr1 (by omega)
  obtain ⟨r', hr'⟩ : ∃ r', 1 + r = r' := ⟨_, rfl⟩
  have hrb : 1 ≤ r' ∧ r' ≤ 91 := by omega
  have hz1 := G.size
  have HS := Lib.hid (hs.alloc (.cells #[] 49))
  have O := (Own.lit0 w1 49 2).mono (lo' := w.heap.size) (hi' := (w1.alloc (.cells #[] 49)).heap.size) hz1 (by simp)
  replace G := grown_alloc G (.cells #[] 49)
  have HR := Lib.hid hr'
  clear hr1 hr2 hs hr'
  go_wp2_with fail
  rw [HR.out]
  go_at_call 41
  refine (l01Next_any _ _ _ HS.out (by omega)).mono ?_
  rintro e w2 ⟨R, rfl, ⟨hR0, hR1, hR2⟩, hs, hg⟩
  have hR9 := hR1 (by omega)
  obtain ⟨R, rfl⟩ := Int.eq_ofNat_of_zero_le hR0
  replace O := (own_far O hpw hg).leave
  replace G := G.trans hg
  replace HS := Lib.hid hs
  clear hR1 hR2 hs hg HR hr0 hr9 hz1
  go_wp2
  go_loopw [5, 6] (fun o i wr => ∃ (k q cp : Nat) (a' : Option Addr) (ys : List (Int × Int)), i = .int .i64 k ∧ o = .slice a' q cp ∧ q + k ≤ 9 ∧ Own wr w.heap.size wr.heap.size 49 2 a' q cp (prs ys) ∧ Hid (SrcOk wr p) ∧ w.grownBy wr (some p)) (fun _ i _ => (intOf i).toNat)
  case atStart => exact ⟨R, 0, 0, _, [], rfl, rfl, by omega, O, HS, G⟩
  case round =>
    clear O HS G
    obtain ⟨k, q, cp, a', ys, rfl, rfl, hqk, hown, hs, hgr⟩ := hrel
    have hsp := hs.out.lt
    have hsz := hgr.size
    by_cases hk : 0 < k
    · have hkI : (0 : Int) < (k : Int) := by omega
      obtain ⟨k', rfl⟩ : ∃ k', k = k' + 1 := ⟨k - 1, by omega⟩
      have hsub : ((k' + 1 : Nat) : Int) - 1 = (k' : Int) := by omega
      go_wp2_with fail
      go_at_call 41
      refine (l01Next_any _ _ _ hs.out (by omega)).mono ?_
      rintro e w3 ⟨x, rfl, -, hs3, hg⟩
      have O3 := (own_far hown hpw hg).leave
      have G3 := hgr.trans hg
      have HS3 := Lib.hid hs3
      have hl3 := hs3.lt
      clear hs3 hg hown hgr hs
      go_wp2_with fail
      go_at_call 42
      refine (l01Pick_any _ _ _ _ [4, 20, 40] _ (HS3.out.alloc _) (by exact Row.lit _ (ints [4, 20, 40]) _ _ _ (by simp) (by rfl)) (by omega) (by omega) (fun b off e => by injection e with e; injection e with e _ _; omega)).mono ?_
      rintro e w4 ⟨t, rfl, ht, hs4, hg⟩
      have htb : t ≤ 40 := by simp at ht; omega
      have O4 := (own_far (O3.alloc (.cells #[.int .i64 4, .int .i64 20, .int .i64 40] 2)) hpw hg).leave
      have G4 := (grown_alloc G3 (.cells #[.int .i64 4, .int .i64 20, .int .i64 40] 2)).trans hg
      have HS4 := Lib.hid hs4
      clear hs4 hg O3 G3 HS3 ht hl3
      go_wp2_with fail
      go_at_call 41
      refine (l01Next_any _ _ _ HS4.out (by omega)).mono ?_
      rintro e w5 ⟨y, rfl, -, hs5, hg⟩
      have O5 := (own_far O4 hpw hg).leave
      have G5 := G4.trans hg
      have hsz5 := G5.size
      have HS5 := Lib.hid (hs5.alloc (.cells #[.int .i64 x, .int .i64 y] 49))
      clear hs5 hg O4 G4 HS4
      go_wp2_with (at_builtin; refine wpList_app _ rfl (.tmp 17) (.tmp 28) _ rfl Try.underlying26 info_Span rfl (by decide) rfl (O5.alloc _) rfl (by exact Row.litK _ (prs [(x, y)]) _ _ 1 2 (by simp) (by rfl)) (prs_one [(x, y)]) (by decide) (by simp only [maxLen]; omega) (by omega) (by simp; omega) ?_; intro A2 c2 w6 hown6 hb6 _)
      go_roundw
      case rel => exact ⟨k', q + 1, c2, A2, ys ++ [(x, y)], by go_num, rfl, by omega, by rw [prs_app]; exact hown6, HS5.out.below hb6 hpw, grown_below (grown_alloc G5 _) hb6⟩
      case measure => simp [intOf] <;> omega
    · obtain rfl : k = 0 := by omega
      clear hk
      go_wp2_with fail
      go_at_call 41
      refine (l01Next_any _ _ _ hs.out (by omega)).mono ?_
      rintro e w4 ⟨t, rfl, -, hs4, hg⟩
      have O4 := (own_far hown hpw hg).leave
      have G4 := hgr.trans hg
      have HS4 := Lib.hid hs4
      have hsz4 := G4.size
      have hl4 := hs4.lt
      clear hs4 hg hown hgr hs
      by_cases t0 : t = 0
      · subst t0
        go_wp2_with fail
        go_at_call 42
        refine (l01Pick_any _ _ _ _ [0, 10001] _ (HS4.out.alloc _) (by exact Row.lit _ (ints [0, 10001]) _ _ _ (by simp) (by rfl)) (by omega) (by omega) (fun b off e => by injection e with e; injection e with e _ _; omega)).mono ?_
        rintro e w5 ⟨x, rfl, -, hs5, hg⟩
        have O5 := (own_far (O4.alloc (.cells #[.int .i64 0, .int .i64 10001] 2)) hpw hg).leave
        have G5 := (grown_alloc G4 (.cells #[.int .i64 0, .int .i64 10001] 2)).trans hg
        have HS5 := Lib.hid hs5
        clear hs5 hg O4 G4 HS4
        go_wp2
        go_ret2
        exact ⟨_, _, _, _, ys, rfl, O5, by omega, HS5.out, G5⟩
      · have f0 : (t == 0) = false := by simpa using t0
        clear t0
        by_cases t1 : t = 1
        · subst t1
          go_wp2_with fail
          go_at_call 42
          refine (l01Pick_any _ _ _ _ [-1, 0, 10000, 10001] _ (HS4.out.alloc _) (by exact Row.lit _ (ints [-1, 0, 10000, 10001]) _ _ _ (by simp) (by rfl)) (by omega) (by omega) (fun b off e => by injection e with e; injection e with e _ _; omega)).mono ?_
          rintro e w5 ⟨x, rfl, -, hs5, hg⟩
          have O5 := (own_far (O4.alloc (.cells #[.int .i64 (-1), .int .i64 0, .int .i64 10000, .int .i64 10001] 2)) hpw hg).leave
          have G5 := (grown_alloc G4 (.cells #[.int .i64 (-1), .int .i64 0, .int .i64 10000, .int .i64 10001] 2)).trans hg
          have HS5 := Lib.hid hs5
          have hl5 := hs5.lt
          clear hs5 hg O4 G4 HS4
          go_wp2_with fail
          go_at_call 42
          refine (l01Pick_any _ _ _ _ [-1, 0, 1, 10001] _ (HS5.out.alloc _) (by exact Row.lit _ (ints [-1, 0, 1, 10001]) _ _ _ (by simp) (by rfl)) (by omega) (by omega) (fun b off e => by injection e with e; injection e with e _ _; omega)).mono ?_
          rintro e w6 ⟨y, rfl, -, hs6, hg⟩
          have O6 := (own_far (O5.alloc (.cells #[.int .i64 (-1), .int .i64 0, .int .i64 1, .int .i64 10001] 2)) hpw hg).leave
          have G6 := (grown_alloc G5 (.cells #[.int .i64 (-1), .int .i64 0, .int .i64 1, .int .i64 10001] 2)).trans hg
          have hsz6 := G6.size
          have HS6 := Lib.hid (hs6.alloc (.cells #[.int .i64 x, .int .i64 y] 49))
          clear hs6 hg O5 G5 HS5
          go_wp2_with (at_builtin; refine wpList_app _ rfl (.tmp 39) (.tmp 47) _ rfl Try.underlying26 info_Span rfl (by decide) rfl (O6.alloc _) rfl (by exact Row.litK _ (prs [(x, y)]) _ _ 1 2 (by simp) (by rfl)) (prs_one [(x, y)]) (by decide) (by simp only [maxLen]; omega) (by omega) (by simp; omega) ?_; intro A2 c2 w7 hown7 hb7 _)
          go_ret2
          exact ⟨_, _, _, _, ys ++ [(x, y)], rfl, by rw [prs_app]; exact hown7, by omega, HS6.out.below hb7 hpw, grown_below (grown_alloc G6 _) hb7⟩
        · have f1 : (t == 1) = false := by simpa using t1
          clear t1
          by_cases t2 : t = 2
          · subst t2
            go_wp2_with fail
            go_at_call 41
            refine (l01Next_any _ _ _ HS4.out (by omega)).mono ?_
            rintro e w5 ⟨v, rfl, ⟨hv0, hv1, -⟩, hs5, hg⟩
            have hv9 := hv1 (by omega)
            obtain ⟨Z, hZ⟩ : ∃ Z : Nat, 60 + v = (Z : Int) := ⟨(60 + v).toNat, by omega⟩
            have hZ1 : Z ≤ 62 := by omega
            have G5 := Lib.hid (grown_alloc (G4.trans hg) (.cells (madeCells #[.int .i64 0, .int .i64 0] (Z * 2)) 49))
            have HS5 := Lib.hid (hs5.alloc (.cells (madeCells #[.int .i64 0, .int .i64 0] (Z * 2)) 49))
            have hm := Own.madeK w5 #[.int .i64 0, .int .i64 0] (n := Z) (E := 49) (s := 2) (by simp only [maxLen]; omega)
            rw [made_prs] at hm
            have HM := Lib.hid ((hm.leave).mono (lo' := w.heap.size) (by have := (G4.trans hg).size; omega) (Nat.le_refl _))
            have hmk := run_make_rowK (P := Try.prog) 26 49 info_Span Try.underlying26 Z (by omega) (by omega)
            clear hv1 hs5 hg O4 G4 HS4 hm
            go_wp2
            go_ret2
            exact ⟨_, _, _, _, _, rfl, HM.out, by omega, HS5.out, G5.out⟩
          · have f2 : (t == 2) = false := by simpa using t2
            clear t2
            go_wp2
            go_ret2
            exact ⟨_, _, _, _, ys, rfl, O4, by omega, HS4.out, G4⟩

/-- .. from a code. -/
theorem drawLeastCover_any (a : Option Addr) (n c : Nat) (bs : List Nat) (w : World) (h : Code8 w a n bs) :
    Calls Try.prog 27 #[.slice a n c] w fun e w' => ∃ (W : Int) (a : Option Addr) (q c : Nat) (ys : List (Int × Int)), e = .returned (.tuple #[.int .i64 W, .slice a q c]) ∧ Row w' 2 a q (prs ys) ∧ q ≤ 100 ∧ Below w.heap.size w w' := by
  go_enter Try.func27, Try.ntmps27
  go_wp2_with fail
  go_at_call 40
  refine (l01From_any _ _ _ _ _ h).mono ?_
  rintro e w1 ⟨p, rfl, hp, hs, B⟩
  have hp1 : w.heap.size ≤ p := by omega
  clear hp
  go_wp2_with fail
  go_at_call 53
  refine (l24Draw_any _ _ hs).mono ?_
  intro e w2 hd
  obtain ⟨W, a2, q, c2, ys, rfl, O, hq, hs2, hg⟩ := hd
  replace B := below_next' B hp1 hg
  clear hs hs2 hg
  go_wp2
  go_ret2
  exact ⟨_, _, _, _, ys, rfl, O.row, hq, B⟩
end Go.Proofs.Ytdihpllebccncaa
