/- Two lists of frames that hold the same, and rows of frames carried over steps. -/
import Derived.Test.YtmljcbfpennjkaaLikeF
import Derived.Test.YtmljcbfpennjkaaFramesP
namespace Go.Proofs.Ytmljcbfpennjkaa
open Go.RowKit
set_option maxRecDepth 100000
set_option linter.unusedVariables false
set_option linter.unusedSimpArgs false

theorem Below.cellSelf {w w' : World} (h : Below w.heap.size w w') {b o : Nat} {v : Value} (hc : w.cell? ⟨b, o, none⟩ = some v) : w'.cell? ⟨b, o, none⟩ = some v :=
  (h.cell (p := ⟨b, o, none⟩) (World.block_lt_of_cell? w _ hc)).trans hc
theorem Below.allocSelf (w : World) (o : Obj) : Below w.heap.size w (w.alloc o) := (Below.refl _ _).alloc (Nat.le_refl _) o
theorem cell_drew {w : World} {p : Addr} {v : Value} (hc : w.cell? p = some v) : w.drew.cell? p = some v := hc
theorem FRow.alloc {w : World} {a : Option Addr} {n : Nat} {fs : List FrV} (h : FRow w a n fs) (o : Obj) : FRow (w.alloc o) a n fs := h.below ((Below.refl _ _).alloc (Nat.le_refl _) o) (Nat.le_refl _)
theorem FRow.drew {w : World} {a : Option Addr} {n : Nat} {fs : List FrV} (h : FRow w a n fs) : FRow w.drew a n fs := h.below (Below.refl _ _).drew (Nat.le_refl _)
theorem FRow.drewN {w : World} {a : Option Addr} {n : Nat} {fs : List FrV} (h : FRow w a n fs) (k : Nat) : FRow (w.drewN k) a n fs := h.below (bdn (Below.refl _ _) k) (Nat.le_refl _)

set_option maxHeartbeats 3200000 in
theorem likeOwnFrame_same (a b : Option Addr) (n c d : Nat) (fs gs : List FrV) (w : World) (h1 : FRow w a n fs) (h2 : FRow w b n gs) (he : fs.map FrV.val = gs.map FrV.val) (hn : n ≤ 1048576) (hsz : ∀ f ∈ fs, f.n ≤ 200) :
    Calls Try.prog 39 #[.slice a n c, .slice b n d] w fun e w' => e = .returned (.bool true) ∧ Below w.heap.size w w' := by
  have HSZ := Lib.hid hsz
  have HE := Lib.hid he
  clear hsz he
  go_enter Try.func39, Try.ntmps39
  go_wp2
  go_loopw [5] (fun i wr => ∃ j : Nat, j ≤ n ∧ i = .int .i64 j ∧ Below w.heap.size w wr) (fun i _ => n - (intOf i).toNat)
  case atStart => exact ⟨0, Nat.zero_le _, rfl, Below.refl _ _⟩
  case round =>
    obtain ⟨j, hj, rfl, hB⟩ := hrel
    by_cases hlt : j < n
    · have hjI : (j : Int) < (n : Int) := by omega
      obtain ⟨b1, off1, f, rfl, c0, c1, c2, hx, hr⟩ := (h1.below hB (Nat.le_refl _)).at_ hlt
      obtain ⟨b2, off2, g, rfl, d0, d1, d2, hy, hs⟩ := (h2.below hB (Nat.le_refl _)).at_ hlt
      obtain ⟨e1, e2, e3⟩ := same_at HE.out hx.out hy.out
      have hfn := HSZ.out f (List.mem_of_getElem? hx.out)
      rw [← e1] at d0
      rw [← e2] at d1
      rw [← e3] at hs
      have hgn : g.n = f.n := by have q1 := hr.len; have q2 := hs.len; omega
      rw [hgn] at d2 hs
      have e5 : (f.k != f.k) = false := by simp
      have e6 : (f.m != f.m) = false := by simp
      have HR := Lib.hid hr
      have HS := Lib.hid hs
      have hb1 := World.block_lt_of_cell? wr _ c0
      have hb2 := World.block_lt_of_cell? wr _ d0
      clear hr hs e1 e2 e3 hx hy hgn
      go_wp2_with fail
      go_region_held3 (fun w' => w'.cell? ⟨b1, off1 + j * 3, none⟩ = some (.int .i64 f.k) ∧ w'.cell? ⟨b1, off1 + j * 3 + 1, none⟩ = some (.int .i64 f.m) ∧ w'.cell? ⟨b1, off1 + j * 3 + 2, none⟩ = some (.slice f.a f.n f.c) ∧ w'.cell? ⟨b2, off2 + j * 3, none⟩ = some (.int .i64 f.k) ∧ w'.cell? ⟨b2, off2 + j * 3 + 1, none⟩ = some (.int .i64 f.m) ∧ w'.cell? ⟨b2, off2 + j * 3 + 2, none⟩ = some (.slice g.a f.n g.c)) (first | exact ⟨c0, c1, c2, d0, d1, d2⟩ | exact ⟨(b3.cell (p := ⟨b1, off1 + j * 3, none⟩) (by simpa using hb1)).trans c0, (b3.cell (p := ⟨b1, off1 + j * 3 + 1, none⟩) (by simpa using hb1)).trans c1, (b3.cell (p := ⟨b1, off1 + j * 3 + 2, none⟩) (by simpa using hb1)).trans c2, (b3.cell (p := ⟨b2, off2 + j * 3, none⟩) (by simpa using hb2)).trans d0, (b3.cell (p := ⟨b2, off2 + j * 3 + 1, none⟩) (by simpa using hb2)).trans d1, (b3.cell (p := ⟨b2, off2 + j * 3 + 2, none⟩) (by simpa using hb2)).trans d2⟩ | go_keep) (first | (go_at_call 32; refine (likeInts_same _ _ _ _ _ f.xs wr.drew (show Row wr.drew 1 f.a f.n (ints f.xs) from HR.out) (show Row wr.drew 1 g.a f.n (ints f.xs) from HS.out) (by omega)).mono ?_; rintro e w3 ⟨rfl, b3⟩))
      all_goals
        go_wp2
        go_roundw
        case rel => exact ⟨j + 1, by omega, by go_num, hB.trans ((show Below wr.heap.size wr w3 from (Below.refl _ _).drew.trans b3).mono hB.size)⟩
        case measure => simp [intOf] <;> omega
    · go_wp2
      go_ret
      exact ⟨rfl, hB⟩
end Go.Proofs.Ytmljcbfpennjkaa
