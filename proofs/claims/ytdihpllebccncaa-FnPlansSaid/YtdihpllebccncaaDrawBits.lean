/- Bits that are drawn, whatever the code; lists that are alike. -/
import Derived.Test.YtdihpllebccncaaSource
import Derived.Test.YtdihpllebccncaaLib
import Derived.Deep.QuietTactic
import Derived.BigQuiet
namespace Go.Proofs.Ytdihpllebccncaa
open Go.RowKit
set_option maxRecDepth 100000
set_option linter.unusedVariables false

def slen : Value → Nat
  | .slice _ n _ => n
  | _ => 0

theorem own_far {w w' : World} {p lo hi E s n c : Nat} {a : Option Addr} {vs : List Value} (h : Own w lo hi E s a n c vs) (hp : p < lo) (hg : w.grownBy w' (some p)) : Own w' lo hi E s a n c vs :=
  h.apart hg fun g e => by injection e with e; omega
theorem grown_below {w w1 w2 : World} {row : Option Nat} (h : w.grownBy w1 row) (hb : Below w.heap.size w1 w2) : w.grownBy w2 row :=
  ⟨hb.os.trans h.os, hb.tape.trans h.tape, hb.output.trans h.output, Nat.le_trans h.size hb.size, fun k hk hne => (hb.block k hk).trans (h.block k hk hne)⟩
theorem grown_alloc {w w1 : World} {row : Option Nat} (h : w.grownBy w1 row) (o : Obj) : w.grownBy (w1.alloc o) row :=
  grown_below h ((Below.refl _ _).alloc h.size o)

theorem below_next' {w0 w w' : World} {p : Nat} (h : Below w0.heap.size w0 w) (hp : w0.heap.size ≤ p) (hg : w.grownBy w' (some p)) : Below w0.heap.size w0 w' :=
  h.grown hg h.size fun k e => by injection e with e; omega

/-- A list that a draw hands out, from the source p on. -/
def ListDraw (p : Nat) (w : World) (e : Ending) (w' : World) : Prop := ∃ (a : Option Addr) (q c : Nat) (ys : List Int), e = .returned (.slice a q c) ∧ Own w' w.heap.size w'.heap.size 2 1 a q c (ints ys) ∧ q ≤ 1300 ∧ SrcOk w' p ∧ w.grownBy w' (some p)
/-- A list that is drawn from a code. -/
def CodeDraw (w : World) (e : Ending) (w' : World) : Prop := ∃ (a : Option Addr) (q c : Nat) (ys : List Int), e = .returned (.slice a q c) ∧ Row w' 1 a q (ints ys) ∧ q ≤ 2600 ∧ Below w.heap.size w w'

theorem likeInts_same (a b : Option Addr) (n c d : Nat) (xs : List Int) (w : World) (hxs : Row w 1 a n (ints xs)) (hys : Row w 1 b n (ints xs)) (hn : n ≤ 1048576) :
    Calls Try.prog 26 #[.slice a n c, .slice b n d] w fun e w' => e = .returned (.bool true) ∧ Below w.heap.size w w' := by
  go_enter Try.func26, Try.ntmps26
  go_wp2
  go_loopw [5] (fun i wr => ∃ k : Nat, k ≤ n ∧ i = .int .i64 k ∧ Below w.heap.size w wr) (fun i _ => n - (intOf i).toNat)
  case atStart => exact ⟨0, Nat.zero_le _, rfl, Below.refl _ _⟩
  case round =>
    obtain ⟨k, hk, rfl, hbel⟩ := hrel
    by_cases hlt : k < n
    · obtain ⟨b1, off1, x, rfl, hc, hx⟩ := (hxs.below hbel (Nat.le_refl _)).at_ hlt
      obtain ⟨b2, off2, y, rfl, hd, hy⟩ := (hys.below hbel (Nat.le_refl _)).at_ hlt
      have he := hy.out
      rw [hx.out] at he
      injection he with he
      subst he
      have hi : (k : Int) < (n : Int) := by omega
      clear hx hy
      go_wp2_with fail
      go_quiet (fail)
      go_wp2
      go_roundw
      case rel => exact ⟨k + 1, by omega, by go_num, bdn hbel _⟩
      case measure => simp [intOf] <;> omega
    · go_wp2
      go_ret
      exact ⟨rfl, hbel⟩

theorem big_any (a : Option Addr) (n c : Nat) (w : World) (hn : n ≤ maxLen) :
    Calls Try.prog 18 #[.slice a n c] w fun e w' => e = .returned (.bool (decide (4096 < (n : Int)))) ∧ w = w' := by
  unfold maxLen at hn
  go_enter Try.func18, Try.ntmps18
  go_wp2
  go_ret
  exact ⟨rfl, rfl⟩
end Go.Proofs.Ytdihpllebccncaa
