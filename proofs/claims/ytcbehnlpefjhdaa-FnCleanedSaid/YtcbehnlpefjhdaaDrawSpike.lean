/- Soundings with spikes, and a rule, that are drawn. -/
import Derived.Test.YtcbehnlpefjhdaaDrawSnds
import Derived.Test.YtcbehnlpefjhdaaSpikeRule
import Derived.Deep.QuietTactic
import Derived.BigQuiet
namespace Go.Proofs.Ytcbehnlpefjhdaa
open Go.RowKit
set_option maxRecDepth 100000
set_option linter.unusedVariables false

/-- Soundings and a rule that a draw hands out. -/
def SpikeDraw (p : Nat) (w : World) (e : Ending) (w' : World) : Prop := ∃ (a : Option Addr) (q c : Nat) (ys : List I4) (r l m : Int),
  e = .returned (.tuple #[.slice a q c, .agg #[.int .i64 r, .int .i64 l, .int .i64 m]]) ∧ Own w' w.heap.size w'.heap.size 46 4 a q c (frs ys) ∧ q ≤ 201 ∧ SrcOk w' p ∧ w.grownBy w' (some p)

theorem fr_four {ys : List I4} {q k : Nat} (hl : ys.length = q) (hk : k < q) : ∃ x y z u, ys[k]? = some (x, y, z, u) := by
  obtain ⟨s, hs⟩ : ∃ s, ys[k]? = some s := ⟨_, List.getElem?_eq_getElem (by omega)⟩
  obtain ⟨x, y, z, u⟩ := s
  exact ⟨x, y, z, u, hs⟩

set_option maxHeartbeats 6400000 in
theorem l23Draw_any (p : Nat) (w : World) (h : SrcOk w p) :
    Calls Try.prog 29 #[.pointer (some ⟨p, 0, none⟩)] w (SpikeDraw p w) := by
  have hpw := h.lt
  have HS := Lib.hid ((h.alloc (.cells #[.int .i64 0, .int .i64 0, .int .i64 0] 26)).alloc (.cells #[] 46))
  have G := grown_alloc (grown_alloc (World.grownBy.refl w (some p)) (.cells #[.int .i64 0, .int .i64 0, .int .i64 0] 26)) (.cells #[] 46)
  have J := Lib.hid ((Blk.new w 26 #[.int .i64 0, .int .i64 0, .int .i64 0]).alloc (.cells #[] 46))
  have O : Own ((w.alloc (.cells #[.int .i64 0, .int .i64 0, .int .i64 0] 26)).alloc (.cells #[] 46)) (w.heap.size + 1) (w.heap.size + 2) 46 4 (some ⟨w.heap.size + 1, 0, none⟩) 0 0 [] := by
    have h := Own.lit0 (w.alloc (.cells #[.int .i64 0, .int .i64 0, .int .i64 0] 26)) 46 4
    rw [World.size_alloc] at h
    exact h
  go_enter Try.func29, Try.ntmps29
  go_wp2_with fail
  go_at_call 53
  refine (l21Draw_any _ _ HS.out).mono ?_
  intro e w1 hd
  obtain ⟨a1, q1, c1, ys1, rfl, o1, hq1, hs, hg⟩ := hd
  have r1 := o1.row
  replace O := own_far O (by omega) hg
  replace G := G.trans hg
  replace J := Lib.hid (J.out.grown hg (fun e => by injection e with e; omega))
  replace HS := Lib.hid hs
  have hsz := hg.size
  simp at hsz
  clear hs hg o1
  go_wp2_with (at_builtin; refine wpList_app0 _ rfl (.tmp 6) (.tmp 8) _ rfl Try.underlying24 info_Sounding rfl (by decide) (by rfl) O (by omega) (by rfl) r1 (frs_one _) (by simp only [maxLen]; omega) (by omega) (by omega) ?_; intro A2 c2 w2 hown2 hb2 hg2)
  rw [Nat.zero_add, List.nil_append] at hown2
  replace G := grown_below G (hb2.mono (by omega))
  replace J := Lib.hid (J.out.below hb2 (by omega))
  replace HS := Lib.hid (HS.out.below hb2 (by omega))
  have hO := Lib.hid hown2
  clear O hb2 hg2 hown2 r1
  go_wp2
  go_loopw [5] (fun i wr => ∃ (k : Nat) (ys : List I4), k ≤ q1 ∧ i = .int .i64 k ∧ Hid (Own wr (w.heap.size + 1) wr.heap.size 46 4 A2 q1 c2 (frs ys)) ∧ Hid (Blk wr w.heap.size 26 #[.int .i64 0, .int .i64 0, .int .i64 0]) ∧ Hid (SrcOk wr p) ∧ w.grownBy wr (some p)) (fun i _ => q1 - (intOf i).toNat)
  case atStart => exact ⟨0, ys1, Nat.zero_le _, rfl, hO, J, HS, G⟩
  case round =>
    clear hO J HS G hsz
    obtain ⟨k, ys, hk, rfl, hO, J, hs, G⟩ := hrel
    have hwr := G.size
    by_cases hgo : k < q1 ∧ k < 20
    · obtain ⟨hlt, hk20⟩ := hgo
      have hkI : (k : Int) < (q1 : Int) := by omega
      have hkI2 : (k : Int) < 20 := by omega
      go_wp2_with fail
      go_at_call 54
      refine (l01Next_any _ _ _ hs.out (by omega)).mono ?_
      rintro e w4 ⟨t, rfl, -, hs4, hg⟩
      have O4 := (own_far hO.out (by omega) hg).leave
      have G4 := G.trans hg
      have J4 := Lib.hid (J.out.grown hg (fun e => by injection e with e; omega))
      have HS4 := Lib.hid hs4
      clear hs4 hg hO J hs G
      obtain ⟨g, rfl, hg1, -, -⟩ := O4.head (by omega)
      have hyl : ys.length = q1 := by have := O4.len; rw [frs_length] at this; omega
      obtain ⟨x, y, d, u, hxy⟩ := fr_four hyl hlt
      have hd4 : w4.cell? ⟨g, k * 4 + 2, none⟩ = some (.int .i64 d) := by
        rw [O4.cellAt (k * 4 + 2) (by omega)]
        exact (frs_get hxy).2.2.1
      have hset : ∀ v, (frs ys).set (k * 4 + 2) (.int .i64 v) = frs (ys.set k (x, y, v, u)) := fun v => fr_set hxy
      have HSet := Lib.hid hset
      have hO4 := Lib.hid O4
      clear hyl hxy hset O4
      by_cases t01 : t = 0 ∨ t = 1
      · rcases t01 with rfl | rfl
        all_goals
          go_wp2_with fail
          replace HS4 := Lib.hid HS4.out.drew
          replace hO4 := Lib.hid hO4.out.drew
          replace J4 := Lib.hid J4.out.drew
          replace G4 : w.grownBy w4.drew (some p) := ⟨G4.os, G4.tape, G4.output, G4.size, G4.block⟩
          have hd4 : w4.drew.cell? ⟨g, k * 4 + 2, none⟩ = some (.int .i64 d) := hd4
          go_region_with (go_at_call 54; refine (l01Next_any _ _ _ HS4.out (by omega)).mono ?_; rintro e w5 ⟨r, rfl, -, hs5, hg5⟩; have O5 := Lib.hid (own_far (p := p) hO4.out (by omega) hg5).leave; have J5 := Lib.hid (J4.out.grown hg5 (fun e => by injection e with e; omega)); have G5 := G4.trans hg5; have HS5 := Lib.hid hs5; clear hs5 hg5; have hd5 : w5.cell? ⟨g, k * 4 + 2, none⟩ = some (.int .i64 d) := (by rw [O5.out.cellAt (k * 4 + 2) (by omega), ← hO4.out.cellAt (k * 4 + 2) (by omega)]; exact hd4); have hf5 := O5.out.frozenAt (k * 4 + 2))
          all_goals
            have HF := Lib.hid (fun v : Int => (show Own (w5.setCell ⟨g, k * 4 + 2, none⟩ (.int .i64 v)) (w.heap.size + 1) w5.heap.size 46 4 (some ⟨g, 0, none⟩) q1 c2 (frs (ys.set k (x, y, v, u))) from HSet.out v ▸ (O5.out.stored (k * 4 + 2) (.int .i64 v)).1))
            have HJ := Lib.hid (fun v : Int => J5.out.far (p := ⟨g, k * 4 + 2, none⟩) (by simp; omega) (.int .i64 v))
            have HG := Lib.hid (fun v : Int => grown_below G5 ((Below.refl w.heap.size w5).setCell (p := ⟨g, k * 4 + 2, none⟩) (by simp; omega) (.int .i64 v)))
            have HZ := Lib.hid (fun v : Int => HS5.out.below ((Below.refl (p + 1) w5).setCell (p := ⟨g, k * 4 + 2, none⟩) (by simp; omega) (.int .i64 v)) (Nat.lt_succ_self p))
            clear O5 J5 G5 HS5 hd5 hf5
            go_wp2
            go_roundw
            case rel => exact ⟨k + 1, _, by omega, by go_num, Lib.hid (HF.out _).leave, Lib.hid (HJ.out _), Lib.hid (HZ.out _), HG.out _⟩
            case measure => simp [intOf]; omega
      · have f0 : (t == 0) = false := by simp; omega
        have f1 : (t == 1) = false := by simp; omega
        clear t01 hd4 HSet
        go_wp2
        go_roundw
        case rel => exact ⟨k + 1, _, by omega, by go_num, hO4, J4, HS4, G4⟩
        case measure => simp [intOf]; omega
    · have hor : ¬ k < q1 ∨ (k < q1 ∧ ¬ k < 20) := by omega
      clear hgo
      rcases hor with hno | ⟨hno, hno2⟩
      all_goals
        go_wp2_with fail
        go_at_call 55
        refine (l23DrawRule_any _ _ hs.out).mono ?_
        intro e w4 hd
        obtain ⟨r, l, m, rfl, hs4, hg⟩ := hd
        have O4 := Lib.hid (own_far hO.out (by omega) hg).leave
        have G4 := G.trans hg
        have J4 := Lib.hid (J.out.grown hg (fun e => by injection e with e; omega))
        have HS4 := Lib.hid hs4
        clear hs4 hg hO J hs G
        have p0 : w4.cell? ⟨w.heap.size, 0, none⟩ = some (.int .i64 0) := J4.out.cell 0
        have p1 : w4.cell? ⟨w.heap.size, 1, none⟩ = some (.int .i64 0) := J4.out.cell 1
        have p2 : w4.cell? ⟨w.heap.size, 2, none⟩ = some (.int .i64 0) := J4.out.cell 2
        have f0 := J4.out.frozen 0
        have f1 := J4.out.frozen 1
        have f2 := J4.out.frozen 2
        have HE := Lib.hid (((J4.out.set_ 0 (.int .i64 r)).set_ 1 (.int .i64 l)).set_ 2 (.int .i64 m))
        have GE := Lib.hid (grown_below G4 ((((Below.refl w.heap.size w4).setCell (p := ⟨w.heap.size, 0, none⟩) (Nat.le_refl _) (.int .i64 r)).setCell (p := ⟨w.heap.size, 1, none⟩) (Nat.le_refl _) (.int .i64 l)).setCell (p := ⟨w.heap.size, 2, none⟩) (Nat.le_refl _) (.int .i64 m)))
        have SE := Lib.hid (HS4.out.below ((((Below.refl (p + 1) w4).setCell (p := ⟨w.heap.size, 0, none⟩) hpw (.int .i64 r)).setCell (p := ⟨w.heap.size, 1, none⟩) hpw (.int .i64 l)).setCell (p := ⟨w.heap.size, 2, none⟩) hpw (.int .i64 m)) (Nat.lt_succ_self p))
        have OE := Lib.hid ((((O4.out.setFar (p := ⟨w.heap.size, 0, none⟩) (.inl (Nat.lt_succ_self _)) (.int .i64 r)).setFar (p := ⟨w.heap.size, 1, none⟩) (.inl (Nat.lt_succ_self _)) (.int .i64 l)).setFar (p := ⟨w.heap.size, 2, none⟩) (.inl (Nat.lt_succ_self _)) (.int .i64 m)).leave.mono (lo' := w.heap.size) (Nat.le_succ _) (Nat.le_refl _))
        clear O4 G4 J4 HS4
        go_wp2
        have z0 := HE.out.cell 0
        have z1 := HE.out.cell 1
        have z2 := HE.out.cell 2
        clear p0 p1 p2 f0 f1 f2
        exact bodyPost_ret (v := .tuple #[.slice A2 q1 c2, .agg #[.int .i64 r, .int .i64 l, .int .i64 m]]) (by simp only [results, Try.results29, Array.size]; simp [go_sem, z0, z1, z2]) rfl ⟨_, _, _, _, _, _, _, rfl, OE.out, hq1, SE.out, GE.out⟩
end Go.Proofs.Ytcbehnlpefjhdaa
