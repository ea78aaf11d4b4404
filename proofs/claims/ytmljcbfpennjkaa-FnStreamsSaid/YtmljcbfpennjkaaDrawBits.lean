/- Bits that are drawn, whatever the code; lists that are alike. -/
import Derived.Test.YtmljcbfpennjkaaSource
import Derived.Test.YtmljcbfpennjkaaLib
import Derived.Deep.QuietTactic
import Derived.BigQuiet
namespace Go.Proofs.Ytmljcbfpennjkaa
open Go.RowKit
set_option maxRecDepth 100000
set_option linter.unusedVariables false

def slen : Value → Nat
  | .slice _ n _ => n
  | _ => 0

theorem own_far {w w' : World} {p lo hi E s n c : Nat} {a : Option Addr} {vs : List Value} (h : Own w lo hi E s a n c vs) (hp : p < lo) (hg : w.grownBy w' (some p)) : Own w' lo hi E s a n c vs :=
  h.apart hg fun g e => by injection e with e; omega
theorem grown_below {w w1 w2 : World} {row : Option Nat} (h : w.grownBy w1 row) (hb : Below w.heap.size w1 w2) : w.grownBy w2 row :=
  ⟨hb.os.trans h.os, hb.tape.trans h.tape, hb.output.trans h.output, Nat.le_trans h.size hb.size, fun k hk hne => (hb.block k hk).trans (h.block k hk hne)⟩
theorem grown_alloc {w w1 : World} {row : Option Nat} (h : w.grownBy w1 row) (o : Obj) : w.grownBy (w1.alloc o) row :=
  grown_below h ((Below.refl _ _).alloc h.size o)

theorem below_next' {w0 w w' : World} {p : Nat} (h : Below w0.heap.size w0 w) (hp : w0.heap.size ≤ p) (hg : w.grownBy w' (some p)) : Below w0.heap.size w0 w' :=
  h.grown hg h.size fun k e => by injection e with e; omega

/-- A list that a draw hands out, from the source p on. -/
def ListDraw (p : Nat) (w : World) (e : Ending) (w' : World) : Prop := ∃ (a : Option Addr) (q c : Nat) (ys : List Int), e = .returned (.slice a q c) ∧ Own w' w.heap.size w'.heap.size 2 1 a q c (ints ys) ∧ q ≤ 1300 ∧ SrcOk w' p ∧ w.grownBy w' (some p)
/-- A list that is drawn from a code. -/
def CodeDraw (w : World) (e : Ending) (w' : World) : Prop := ∃ (a : Option Addr) (q c : Nat) (ys : List Int), e = .returned (.slice a q c) ∧ Row w' 1 a q (ints ys) ∧ q ≤ 2600 ∧ Below w.heap.size w w'

set_option maxHeartbeats 3200000 in
theorem l25DrawBits_any (p : Nat) (most : Int) (w : World) (h : SrcOk w p) (hm : most ≤ 100) :
    Calls Try.prog 55 #[.pointer (some ⟨p, 0, none⟩), .int .i64 most] w (ListDraw p w) := by
  have hpw := h.lt
  have HS := Lib.hid (h.alloc (.cells #[] 2))
  have G := grown_alloc (World.grownBy.refl w (some p)) (.cells #[] 2)
  have O := (Own.lit0 w 2 1).mono (lo' := w.heap.size) (hi' := (w.alloc (.cells #[] 2)).heap.size) (Nat.le_refl _) (by simp)
  go_enter Try.func55, Try.ntmps55
  go_wp2_with fail
  go_at_call 54
  refine (l01Next_any _ _ _ HS.out (by omega)).mono ?_
  rintro e w1 ⟨r, rfl, ⟨hr0, hr1, hr2⟩, hs, hg⟩
  have hr9 : r ≤ 100 := by by_cases h1 : 1 < most <;> omega
  obtain ⟨R, rfl⟩ := Int.eq_ofNat_of_zero_le hr0
  replace O := (own_far O hpw hg).leave
  replace G := G.trans hg
  replace HS := Lib.hid hs
  clear hr1 hr2 hs hg
  go_wp2
  go_loopw [5, 6] (fun o i wr => ∃ (k q cp : Nat) (a' : Option Addr) (ys : List Int), i = .int .i64 k ∧ o = .slice a' q cp ∧ q + k ≤ 100 ∧ Own wr w.heap.size wr.heap.size 2 1 a' q cp (ints ys) ∧ Hid (SrcOk wr p) ∧ w.grownBy wr (some p)) (fun _ i _ => (intOf i).toNat)
  case atStart => exact ⟨R, 0, 0, _, [], rfl, rfl, by omega, O, HS, G⟩
  case round =>
    clear O HS G
    obtain ⟨k, q, cp, a', ys, rfl, rfl, hqk, hown, hs, hgr⟩ := hrel
    have hsp := hs.out.lt
    have hsz := hgr.size
    by_cases hk : 0 < k
    · have hkI : (0 : Int) < (k : Int) := by omega
      obtain ⟨k', rfl⟩ : ∃ k', k = k' + 1 := ⟨k - 1, by omega⟩
      have hsub : ((k' + 1 : Nat) : Int) - 1 = (k' : Int) := by omega
      go_wp2_with fail
      go_at_call 57
      refine (l01Pick_any _ _ _ _ [0, 1, 1, 1] _ (hs.out.alloc _) (by exact Row.lit _ (ints [0, 1, 1, 1]) _ _ _ (by simp) (by rfl)) (by omega) (by omega) (fun b off e => by injection e with e; injection e with e _ _; omega)).mono ?_
      rintro e w4 ⟨r, rfl, -, hs4, hg⟩
      have O4 := (own_far (hown.alloc (.cells #[.int .i64 0, .int .i64 1, .int .i64 1, .int .i64 1] 2)) hpw hg).leave
      have G4 := (grown_alloc hgr (.cells #[.int .i64 0, .int .i64 1, .int .i64 1, .int .i64 1] 2)).trans hg
      have HS4 := Lib.hid (hs4.alloc (.cells #[.int .i64 r] 2))
      have hsz4 := G4.size
      clear hs4 hg hown hgr hs
      go_wp2_with (at_builtin; refine wpList_app _ rfl (.tmp 15) (.tmp 19) _ rfl Try.underlying22 info_i64 rfl (by decide) rfl (O4.alloc _) rfl (Row.one _ _ _) (ints_one [r]) (by decide) (by simp only [maxLen]; omega) (by omega) (by simp; omega) ?_; intro A2 c2 w5 hown5 hb5 _)
      go_roundw
      case rel => exact ⟨k', q + 1, c2, A2, ys ++ [r], by go_num, rfl, by omega, by rw [ints_app]; exact hown5, HS4.out.below hb5 hpw, grown_below (grown_alloc G4 _) hb5⟩
      case measure => simp [intOf] <;> omega
    · obtain rfl : k = 0 := by omega
      clear hk
      go_wp2_with fail
      go_at_call 54
      refine (l01Next_any _ _ _ hs.out (by omega)).mono ?_
      rintro e w4 ⟨t, rfl, -, hs4, hg⟩
      have O4 := (own_far hown hpw hg).leave
      have G4 := hgr.trans hg
      have HS4 := Lib.hid hs4
      have hsz4 := G4.size
      clear hs4 hg hown hgr hs
      by_cases t0 : t = 0
      · subst t0
        go_wp2_with fail
        go_at_call 57
        refine (l01Pick_any _ _ _ _ [-1, 2] _ (HS4.out.alloc _) (by exact Row.lit _ (ints [-1, 2]) _ _ _ (by simp) (by rfl)) (by omega) (by omega) (fun b off e => by injection e with e; injection e with e _ _; have := HS4.out.lt; omega)).mono ?_
        rintro e w5 ⟨r, rfl, -, hs5, hg⟩
        have O5 := (own_far (O4.alloc (.cells #[.int .i64 (-1), .int .i64 2] 2)) hpw hg).leave
        have G5 := (grown_alloc G4 (.cells #[.int .i64 (-1), .int .i64 2] 2)).trans hg
        have HS5 := Lib.hid (hs5.alloc (.cells #[.int .i64 r] 2))
        have hsz5 := G5.size
        clear hs5 hg O4 G4 HS4
        go_wp2_with (at_builtin; refine wpList_app _ rfl (.tmp 25) (.tmp 29) _ rfl Try.underlying22 info_i64 rfl (by decide) rfl (O5.alloc _) rfl (Row.one _ _ _) (ints_one [r]) (by decide) (by simp only [maxLen]; omega) (by omega) (by simp; omega) ?_; intro A2 c2 w6 hown6 hb6 _)
        go_ret
        exact ⟨_, _, _, ys ++ [r], rfl, by rw [ints_app]; exact hown6, by omega, HS5.out.below hb6 hpw, grown_below (grown_alloc G5 _) hb6⟩
      · have f0 : (t == 0) = false := by simpa using t0
        clear t0
        by_cases t1 : t = 1
        · subst t1
          go_wp2
          go_loopw [5] (fun o wr => ∃ (q cp : Nat) (a' : Option Addr) (ys : List Int), o = .slice a' q cp ∧ q ≤ 1201 ∧ Own wr w.heap.size wr.heap.size 2 1 a' q cp (ints ys) ∧ Hid (SrcOk wr p) ∧ w.grownBy wr (some p)) (fun o _ => 1202 - slen o)
          case atStart => exact ⟨q, cp, a', ys, rfl, by omega, O4, HS4, G4⟩
          case round =>
            clear O4 HS4 G4
            obtain ⟨q, cp, a', ys, rfl, hq, hown, hs, hgr⟩ := hrel
            have hsz := hgr.size
            go_wp2_with fail
            go_at_call 54
            refine (l01Next_any _ _ _ hs.out (by omega)).mono ?_
            rintro e w5 ⟨r, rfl, ⟨hr0, hr1, -⟩, hs5, hg⟩
            have hr9 := hr1 (by omega)
            have O5 := (own_far hown hpw hg).leave
            have G5 := hgr.trans hg
            have HS5 := Lib.hid hs5
            have hsz5 := G5.size
            clear hr1 hs5 hg hown hgr hs
            by_cases hqr : (q : Int) < 1200 + r
            · go_wp2_with fail
              go_at_call 54
              refine (l01Next_any _ _ _ HS5.out (by omega)).mono ?_
              rintro e w6 ⟨r2, rfl, -, hs6, hg⟩
              have O6 := (own_far O5 hpw hg).leave
              have G6 := G5.trans hg
              have HS6 := Lib.hid (hs6.alloc (.cells #[.int .i64 r2] 2))
              have hsz6 := G6.size
              clear hs6 hg O5 G5 HS5
              go_wp2_with (at_builtin; refine wpList_app _ rfl (.tmp 39) (.tmp 42) _ rfl Try.underlying22 info_i64 rfl (by decide) rfl (O6.alloc _) rfl (Row.one _ _ _) (ints_one [r2]) (by decide) (by simp only [maxLen]; omega) (by omega) (by simp; omega) ?_; intro A2 c2 w7 hown7 hb7 _)
              go_roundw
              case rel => exact ⟨q + 1, c2, A2, ys ++ [r2], rfl, by omega, by rw [ints_app]; exact hown7, HS6.out.below hb7 hpw, grown_below (grown_alloc G6 _) hb7⟩
              case measure => simp [slen]; omega
            · go_wp2
              go_ret
              exact ⟨_, _, _, ys, rfl, O5, by omega, HS5.out, G5⟩
        · have f1 : (t == 1) = false := by simpa using t1
          clear t1
          go_wp2
          go_ret
          exact ⟨_, _, _, ys, rfl, O4, by omega, HS4.out, G4⟩

theorem likeInts_same (a b : Option Addr) (n c d : Nat) (xs : List Int) (w : World) (hxs : Row w 1 a n (ints xs)) (hys : Row w 1 b n (ints xs)) (hn : n ≤ 1048576) :
    Calls Try.prog 32 #[.slice a n c, .slice b n d] w fun e w' => e = .returned (.bool true) ∧ Below w.heap.size w w' := by
  go_enter Try.func32, Try.ntmps32
  go_wp2
  go_loopw [5] (fun i wr => ∃ k : Nat, k ≤ n ∧ i = .int .i64 k ∧ Below w.heap.size w wr) (fun i _ => n - (intOf i).toNat)
  case atStart => exact ⟨0, Nat.zero_le _, rfl, Below.refl _ _⟩
  case round =>
    obtain ⟨k, hk, rfl, hbel⟩ := hrel
    by_cases hlt : k < n
    · obtain ⟨b1, off1, x, rfl, hc, hx⟩ := (hxs.below hbel (Nat.le_refl _)).at_ hlt
      obtain ⟨b2, off2, y, rfl, hd, hy⟩ := (hys.below hbel (Nat.le_refl _)).at_ hlt
      have he := hy.out
      rw [hx.out] at he
      injection he with he
      subst he
      have hi : (k : Int) < (n : Int) := by omega
      clear hx hy
      go_wp2_with fail
      go_quiet (fail)
      go_wp2
      go_roundw
      case rel => exact ⟨k + 1, by omega, by go_num, bdn hbel _⟩
      case measure => simp [intOf] <;> omega
    · go_wp2
      go_ret
      exact ⟨rfl, hbel⟩

theorem big_any (a : Option Addr) (n c : Nat) (w : World) (hn : n ≤ maxLen) :
    Calls Try.prog 26 #[.slice a n c] w fun e w' => e = .returned (.bool (decide (4096 < (n : Int)))) ∧ w = w' := by
  unfold maxLen at hn
  go_enter Try.func26, Try.ntmps26
  go_wp2
  go_ret
  exact ⟨rfl, rfl⟩
end Go.Proofs.Ytmljcbfpennjkaa
